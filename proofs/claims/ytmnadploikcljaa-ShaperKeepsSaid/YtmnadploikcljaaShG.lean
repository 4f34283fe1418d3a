/- Chapter 13: New. -/
import Derived.Test.YtmnadploikcljaaShF
set_option linter.unusedVariables false
set_option linter.unusedSimpArgs false
namespace Go.Proofs.Ytmnadploikcljaa
open Go.RowKit
attribute [local go_sem] Oper.semAt_some

theorem snew_yes (s : Sp) (room : Int) (hs : s.Right) (hr : 0 ≤ room ∧ room ≤ 1000000000) (w : World) :
    Calls Try.prog 10 #[spv s, .int .i64 room] w fun e w' => (∃ b m, e = .returned (.tuple #[.pointer (some ⟨b, 0, none⟩), .int .i64 0]) ∧ w.heap.size ≤ b ∧ w.heap.size ≤ m ∧ IsSh w' b m (shNew s room)) ∧ Fr0 w w' := by
  have HB := Lib.hid (heap_alloc_new w (.cells (spc s) 23))
  have HF0 := Lib.hid ((Fr.refl (fun _ => False) w).alloc (.cells (spc s) 23))
  obtain ⟨c0, c1, c2, c3, c4⟩ := sp_cells HB.out
  have HN := Lib.hid (new_yes s hs)
  have HA := Lib.hid (fun n W hn t => sall3p_calls (0 ≤ room) (0 ≤ room) (room ≤ 1000000000) true true (by simp [hr.1, hr.2]) n W hn t)
  have HOK := Lib.hid (show (shNew s room).Ok from ⟨bkOf_new hs, fun p hp => by simp at hp, hr, by show bytesW [] ≤ room; simp [bytesW]; exact hr.1⟩)
  clear hs hr
  go_enter Try.func10, Try.ntmps10
  go_wp2_with (first
    | (go_at_call 25; refine (HN.out _).mono ?_; rintro e w5 ⟨⟨g, rfl, hg, hb5⟩, hf5⟩)
    | (go_at_call 26; (with_reducible refine (HA.out _ _ (by simp) _).mono ?_); rintro e w6 ⟨rfl, hf6⟩))
  go_ret2
  have hf56 := ((Fr.refl (fun _ => False) w5).alloc _).trans hf6
  have h0 := HF0.out.trans hf5
  have hg' : w.heap.size ≤ g := Nat.le_trans HF0.out.size hg
  have hsz : w.heap.size ≤ w6.heap.size := (h0.trans hf56).size
  exact ⟨⟨_, g, rfl, hsz, hg', none, 0, heap_alloc_new _ _, (hb5.kept0 hf56).kept0 ((Fr.refl _ w6).alloc _), ⟨.inl rfl, fun _ => rfl, Nat.le_refl _, by simp [maxLen]⟩, HOK.out⟩, (h0.trans hf56).alloc _⟩
theorem snew_no (s : Sp) (room : Int) (h : ¬ (s.Right ∧ 0 ≤ room ∧ room ≤ 1000000000)) (w : World) :
    Calls Try.prog 10 #[spv s, .int .i64 room] w fun e w' => e = .returned (.tuple #[.pointer none, .int .i64 2]) ∧ Fr0 w w' := by
  have HB := Lib.hid (heap_alloc_new w (.cells (spc s) 23))
  have HF0 := Lib.hid ((Fr.refl (fun _ => False) w).alloc (.cells (spc s) 23))
  obtain ⟨c0, c1, c2, c3, c4⟩ := sp_cells HB.out
  by_cases hs : s.Right
  · have HN := Lib.hid (new_yes s hs)
    have hd : (true && (decide (0 ≤ room) && decide (room ≤ 1000000000))) = false := by
      have : ¬ (0 ≤ room ∧ room ≤ 1000000000) := fun k => h ⟨hs, k⟩
      rw [Bool.true_and, ← Bool.decide_and]
      exact decide_eq_false this
    have HA := Lib.hid (fun n W hn t => sall3p_calls (0 ≤ room) (0 ≤ room) (room ≤ 1000000000) true false hd n W hn t)
    clear hs h hd
    go_enter Try.func10, Try.ntmps10
    go_wp2_with (first
      | (go_at_call 25; refine (HN.out _).mono ?_; rintro e w5 ⟨⟨g, rfl, hg, hb5⟩, hf5⟩)
      | (go_at_call 26; (with_reducible refine (HA.out _ _ (by simp) _).mono ?_); rintro e w6 ⟨rfl, hf6⟩))
    go_ret2
    exact ⟨rfl, (HF0.out.trans hf5).trans (((Fr.refl (fun _ => False) w5).alloc _).trans hf6)⟩
  · have HN := Lib.hid (new_no s hs)
    have HA := Lib.hid (fun n W hn t => sall3p_calls (0 ≤ room) (0 ≤ room) (room ≤ 1000000000) false false (by rw [Bool.false_and]) n W hn t)
    clear hs h
    go_enter Try.func10, Try.ntmps10
    go_wp2_with (first
      | (go_at_call 25; refine (HN.out _).mono ?_; rintro e w5 ⟨rfl, hf5⟩)
      | (go_at_call 26; (with_reducible refine (HA.out _ _ (by simp) _).mono ?_); rintro e w6 ⟨rfl, hf6⟩))
    go_ret2
    exact ⟨rfl, (HF0.out.trans hf5).trans (((Fr.refl (fun _ => False) w5).alloc _).trans hf6)⟩
end Go.Proofs.Ytmnadploikcljaa
