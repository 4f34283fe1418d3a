/- Chapter 15: Copy. -/
import Derived.Test.YtfiiikgjgcnjgaaFfK
set_option linter.unusedVariables false
set_option linter.unusedSimpArgs false
namespace Go.Proofs.Ytfiiikgjgcnjgaa
open Go.RowKit

theorem fdrop_no (v : Value) (fl : Int) (w : World) (h : NoLn w v) : Calls Try.prog 22 #[v, .int .i64 fl] w fun e w' => e = .returned (.int .i64 0) ∧ Fr0 w w' := by
  have hf := (Fr.refl (fun _ => False) w).alloc (.cells #[.int .i64 fl] 2)
  have HN := Lib.hid (fnone_no v _ (h.kept hf))
  have HF := Lib.hid hf
  clear h hf
  go_enter Try.func22, Try.ntmps22
  go_wp2_with (first
    | (go_at_call 28; refine HN.out.mono ?_; rintro e w' ⟨rfl, rfl⟩))
  go_ret
  exact ⟨rfl, HF.out⟩
theorem fclone_calls (a : Addr) (c : Nat) (l : List Pk) (w : World) (hR : Rd (fun _ => False) w (some a) (pks l)) (hl : l.length ≤ 1000000) :
    Calls Try.prog 34 #[.slice (some a) l.length c] w fun e w' => (∃ v, e = .returned v ∧ pkRow w' w.heap.size v l ∧ v.ownBlock.isSome = true) ∧ Fr0 w w' := by
  have hq := fun w : World => Lib.run_eql_slice_nil (P := Try.prog) w 28 34 (some a) l.length c 0 0 Try.underlying28
  have HR := Lib.hid hR
  have HL := Lib.hid (pks_length l)
  clear hR
  go_enter Try.func34, Try.ntmps34
  go_wp2_with (at_builtin; refine wpList_app rfl (.tmp 5) (.tmp 6) _ rfl Try.underlying28 pk_elem (base := w.heap.size) (.slice (some ⟨w.heap.size, 0, none⟩) 0 0) 0 [] rfl (World.ownsRow_made w _ 0 (Nat.le_refl _) (by simp [maxLen]) rfl) (fun _ => False) (some a) l.length c (pks l) rfl (HR.out.kept ((Fr.refl _ w).alloc _)) HL.out (pks_one l) (by simp only [maxLen]; omega) (by omega) (by simp) (by simp) ?_; intro v' w' hown hg hat)
  go_ret
  refine ⟨⟨v', rfl, by simpa using hown, ?_⟩, ((Fr.refl _ w).alloc _).grown hg (fun k hk e => ?_)⟩
  · rcases hat with e | e <;> rw [e] <;> simp [Value.ownBlock]
  · simp [Value.ownBlock] at e
    omega
theorem own_row' {w : World} {base : Nat} {e : TypeId} {size n : Nat} {v : Value} {xs : List Value} (h : w.ownsRow base e size v n xs) (hs : v.ownBlock.isSome = true) : ∃ g c sp, v = .slice (some ⟨g, 0, none⟩) n c ∧ n ≤ c ∧ c ≤ maxLen ∧ base ≤ g ∧ w.heap[g]? = some (.cells (xs ++ sp).toArray e (0, 0)) := by
  rcases h.2 with ⟨rfl, _⟩ | ⟨g, cap, cur, rfl, hb, hh, hn, hm, _⟩
  · simp [Value.ownBlock] at hs
  · obtain ⟨_, sp, hr⟩ := own_row h
    exact ⟨g, cap, sp, rfl, hn, hm, hb, hr⟩
theorem ring_rd {w : World} {b g : Nat} {X : Ln} (h : IsLn w b g X) (S : Nat → Prop) (hS : ¬ S g) : Rd S w (some ⟨g, 0, none⟩) (pks X.ring) := by
  obtain ⟨t, sp, hr⟩ := h.row
  refine .inr ⟨g, 0, rfl, hS, fun i hi => ?_⟩
  rw [Nat.zero_add, cell_of_blk hr i]
  simp [List.getElem?_append_left hi, hi]
set_option maxHeartbeats 1000000 in
theorem fcopy_calls (b g : Nat) (X : Ln) (w : World) (h : IsLn w b g X) :
    Calls Try.prog 18 #[.pointer (some ⟨b, 0, none⟩)] w fun e w' => (∃ b' g', e = .returned (.pointer (some ⟨b', 0, none⟩)) ∧ w.heap.size ≤ b' ∧ w.heap.size ≤ g' ∧ IsLn w' b' g' X) ∧ Fr0 w w' := by
  have HK := Lib.hid h
  have HN := Lib.hid (fnone_calls b g X _ h)
  obtain ⟨c, hc1, hc2, hb⟩ := h.blk
  obtain ⟨c0, c1, c2, c3, c4, c5, c6⟩ := ln_cells hb
  have HB := Lib.hid hb
  have c3a : ∀ o, (w.alloc o).cell? ⟨b, 3, none⟩ = some (.slice (some ⟨g, 0, none⟩) X.ring.length c) := fun o => ((Fr.refl (fun _ => False) w).alloc o).cell c3 (fun h => h)
  clear hb h
  go_enter Try.func18, Try.ntmps18
  go_wp2_with (first
    | (go_at_call 28; refine HN.out.mono ?_; rintro e w' ⟨rfl, rfl⟩))
  have hfa := (Fr.refl (fun _ => False) w).alloc (.cells (lnc X g c) 58)
  have HFA := Lib.hid hfa
  have HNB := Lib.hid (heap_alloc_new w (.cells (lnc X g c) 58))
  have HR := Lib.hid (ring_rd (HK.out.kept0 hfa) (fun _ => False) (fun h => h))
  have HM := Lib.hid HK.out.max
  clear hfa
  refine (fclone_calls _ c X.ring _ HR.out HM.out).mono ?_
  rintro e w5 ⟨⟨v, rfl, hown, hsome⟩, hf5⟩
  obtain ⟨g', c', sp, rfl, hc1', hc2', hg', hr'⟩ := own_row' hown hsome
  have hnb5 := hf5.blk HNB.out (fun h => h)
  have fz : w5.frozen? ⟨w.heap.size, 3, none⟩ = false := free_of_blk hnb5 3
  have cz : w5.cell? ⟨w.heap.size, 3, none⟩ = some (.slice (some ⟨g, 0, none⟩) X.ring.length c) := cell_of_blk hnb5 3
  have hgs : w.heap.size + 1 ≤ g' := by simpa using hg'
  have HI := Lib.hid (show IsLn (w5.setCell ⟨w.heap.size, 3, none⟩ (.slice (some ⟨g', 0, none⟩) X.ring.length c')) w.heap.size g' X from
    ⟨⟨c', hc1', hc2', blk_setCell hnb5 3 _⟩, ⟨_, sp, blk_setCell_other hr' (fun e : w.heap.size = g' => by omega) _⟩, by omega, HK.out.ok, HM.out⟩)
  have HFE := Lib.hid ((HFA.out.trans hf5).setCell (p := ⟨w.heap.size, 3, none⟩) (fun h => absurd h (Nat.lt_irrefl _)) (.slice (some ⟨g', 0, none⟩) X.ring.length c'))
  clear hnb5 hown hsome hf5 hr'
  go_wp2_with fail
  go_ret
  exact ⟨⟨_, g', rfl, Nat.le_refl _, by omega, HI.out⟩, HFE.out⟩
theorem fcopy_no (v : Value) (w : World) (h : NoLn w v) : Calls Try.prog 18 #[v] w fun e w' => e = .returned (.pointer none) ∧ w = w' := by
  have HN := Lib.hid (fnone_no v _ h)
  clear h
  go_enter Try.func18, Try.ntmps18
  go_wp2_with (first
    | (go_at_call 28; refine HN.out.mono ?_; rintro e w' ⟨rfl, rfl⟩))
  go_ret
  exact ⟨rfl, rfl⟩
end Go.Proofs.Ytfiiikgjgcnjgaa
