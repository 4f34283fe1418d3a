/- Chapter 05: the small functions of bound, and of the document. -/
import Derived.Test.YtjldogfpccbkeaaBd0
import Derived.Test.YtjldogfpccbkeaaM4
import Derived.Test.YtjldogfpccbkeaaM5
set_option linter.unusedVariables false
set_option linter.unusedSimpArgs false
namespace Go.Proofs.Ytjldogfpccbkeaa
open Go.RowKit
attribute [local go_sem] Oper.semAt_some

/-- Terms that may be. -/
structure TmOk (c d : Int) : Prop where
  c1 : 0 ≤ c
  c2 : c ≤ 10000000
  d1 : 0 ≤ d
  d2 : d ≤ 1000000
theorem TmOk.iff (c d : Int) : TmOk c d ↔ (0 ≤ c ∧ c ≤ 10000000 ∧ 0 ≤ d ∧ d ≤ 1000000) := ⟨fun ⟨a, b, e, f⟩ => ⟨a, b, e, f⟩, fun ⟨a, b, e, f⟩ => ⟨a, b, e, f⟩⟩
instance (c d : Int) : Decidable (TmOk c d) := decidable_of_iff _ (TmOk.iff c d).symm
/-- What may be asked for. -/
structure MayP (s : Sp) (r c d : Int) : Prop where
  sr : s.Right
  tm : TmOk c d
  r1 : s.rate ≤ r
  r2 : r ≤ 1000000
theorem MayP.iff (s : Sp) (r c d : Int) : MayP s r c d ↔ (s.Right ∧ TmOk c d ∧ s.rate ≤ r ∧ r ≤ 1000000) := ⟨fun ⟨a, b, e, f⟩ => ⟨a, b, e, f⟩, fun ⟨a, b, e, f⟩ => ⟨a, b, e, f⟩⟩
instance (s : Sp) (r c d : Int) : Decidable (MayP s r c d) := decidable_of_iff _ (MayP.iff s r c d).symm
theorem MayP.ok {s : Sp} {r c d : Int} (h : MayP s r c d) : BOk s.peak s.rate s.burst s.most r c d := by
  obtain ⟨⟨a1, a2, a3, a4, a5, a6, a7, a8⟩, ⟨b1, b2, b3, b4⟩, c1, c2⟩ := h
  exact ⟨a1, a2, a3, by omega, a6, a7, a8, b1, b2, b3, b4, c1, c2⟩
theorem bwithin_calls (n lo hi : Int) (w : World) : Calls Try.prog 34 #[.int .i64 n, .int .i64 lo, .int .i64 hi] w fun e w' => e = .returned (.bool (decide (lo ≤ n ∧ n ≤ hi))) ∧ w = w' := by
  by_cases h1 : lo ≤ n
  · go_enter Try.func34, Try.ntmps34
    go_wp2_with fail
    go_ret
    simp [h1]
  · go_enter Try.func34, Try.ntmps34
    go_wp2_with fail
    go_ret
    exact ⟨rtb (by have : ¬ lo ≤ n := by omega
                   simp [this]), rfl⟩
def chkT (c d : Int) : Int := if TmOk c d then 0 else 2
theorem bcheck_calls (c d : Int) (w : World) : Calls Try.prog 11 #[rtv c d] w fun e w' => e = .returned (.int .i64 (chkT c d)) ∧ Fr0 w w' := by
  obtain ⟨c0, c1, _, _⟩ := two_facts (heap_alloc_new w (.cells (rtc c d) 25))
  have HF := Lib.hid ((Fr.refl (fun _ => False) w).alloc (.cells (rtc c d) 25))
  unfold chkT
  rw [show (if TmOk c d then (0 : Int) else 2) = if (0 ≤ c ∧ c ≤ 10000000) ∧ (0 ≤ d ∧ d ≤ 1000000) then 0 else 2 by simp only [TmOk.iff, and_assoc]]
  have HW := Lib.hid (fun n lo hi U => bwithin_calls n lo hi U)
  by_cases h1 : 0 ≤ c ∧ c ≤ 10000000
  · have e1 : decide (0 ≤ c ∧ c ≤ 10000000) = true := decide_eq_true h1
    by_cases h2 : 0 ≤ d ∧ d ≤ 1000000
    · have e2 : decide (0 ≤ d ∧ d ≤ 1000000) = true := decide_eq_true h2
      rw [if_pos ⟨h1, h2⟩]
      clear h1 h2
      go_enter Try.func11, Try.ntmps11
      go_wp2_with (go_at_call 34; (with_reducible refine (HW.out _ _ _ _).mono ?_); (first | rw [e1] | rw [e2]); rintro _ _ ⟨rfl, rfl⟩)
      go_ret
      exact ⟨rfl, HF.out⟩
    · have e2 : decide (0 ≤ d ∧ d ≤ 1000000) = false := decide_eq_false h2
      rw [if_neg (fun h => h2 h.2)]
      clear h1 h2
      go_enter Try.func11, Try.ntmps11
      go_wp2_with (go_at_call 34; (with_reducible refine (HW.out _ _ _ _).mono ?_); (first | rw [e1] | rw [e2]); rintro _ _ ⟨rfl, rfl⟩)
      go_ret
      exact ⟨rfl, HF.out⟩
  · have e1 : decide (0 ≤ c ∧ c ≤ 10000000) = false := decide_eq_false h1
    rw [if_neg (fun h => h1 h.1)]
    clear h1
    go_enter Try.func11, Try.ntmps11
    go_wp2_with (go_at_call 34; (with_reducible refine (HW.out _ _ _ _).mono ?_); rw [e1]; rintro _ _ ⟨rfl, rfl⟩)
    go_ret
    exact ⟨rfl, HF.out⟩
theorem dright5_calls (c d : Int) (w : World) : Calls Try.prog 12 #[rtv c d] w fun e w' => e = .returned (.bool (decide (TmOk c d))) ∧ Fr0 w w' := by
  have HRI := Lib.hid (TmOk.iff c d)
  go_enter Try.func12, Try.ntmps12
  go_wp2_with fail
  all_goals
    go_ret
    refine ⟨rtb ((?_ : _ = decide _).trans (decide_eq_decide.2 HRI.out.symm)), (Fr.refl _ w).alloc _⟩
    first
      | exact (decide_eq_false (by omega)).symm
      | exact decide_eq_decide.2 (by omega)
theorem bmust_calls (x y : Int) (w : World) : Calls Try.prog 55 #[rtv x y, .int .i64 0] w fun e w' => e = .returned (rtv x y) ∧ Fr0 w w' := by
  have hb := blk_alloc (heap_alloc_new w (.cells (rtc x y) 27)) (.cells (rtc 0 0) 27)
  have HB := Lib.hid (heap_an (w := w.alloc (.cells (rtc x y) 27)) (k := w.heap.size + 1) (.cells (rtc x y) 27) (by simp))
  have HF := Lib.hid (((Fr.refl (fun _ => False) w).alloc (.cells (rtc x y) 27)).alloc (.cells (rtc x y) 27))
  obtain ⟨c0, c1, _, _⟩ := two_facts hb
  obtain ⟨_, _, f0, f1⟩ := two_facts (heap_an (w := w.alloc (.cells (rtc x y) 27)) (k := w.heap.size + 1) (.cells (rtc 0 0) 27) (by simp))
  clear hb
  go_enter Try.func55, Try.ntmps55
  go_wp2_with fail
  exact bodyPost_ret (results_cell_row rfl _ _ (w.heap.size + 1) _ _ _ _ rfl HB.out Try.underlying27 rfl (by kernel_rfl)) rfl ⟨rfl, HF.out⟩
theorem sp_box (w : World) (s : Sp) (o : Obj) : (w.alloc (.cells (spc s) 23)).alloc o = (w.alloc (.cells (spc s) 23)).alloc o := rfl
theorem bmay_calls (s : Sp) (r c d : Int) (w : World) : Calls Try.prog 30 #[spv s, .int .i64 r, rtv c d] w fun e w' => e = .returned (.bool (decide (MayP s r c d))) ∧ Fr0 w w' := by
  have hA := blk_alloc (heap_alloc_new w (.cells (spc s) 23)) (.cells (rtc c d) 25)
  have hB := heap_an (w := w.alloc (.cells (spc s) 23)) (k := w.heap.size + 1) (.cells (rtc c d) 25) (by simp)
  have HA := Lib.hid hA
  have HB := Lib.hid hB
  have HF := Lib.hid (((Fr.refl (fun _ => False) w).alloc (.cells (spc s) 23)).alloc (.cells (rtc c d) 25))
  obtain ⟨s0, s1, s2, s3, s4⟩ := sp_cells hA
  have HS := Lib.hid (fun U => check_calls s U)
  have HT := Lib.hid (fun U => bcheck_calls c d U)
  have HW := Lib.hid (fun U => bwithin_calls r s.rate 1000000 U)
  rw [show decide (MayP s r c d) = decide (s.Right ∧ TmOk c d ∧ s.rate ≤ r ∧ r ≤ 1000000) from decide_eq_decide.2 (MayP.iff s r c d)]
  unfold chk at HS
  unfold chkT at HT
  clear hA hB
  by_cases h1 : s.Right
  · rw [if_pos h1] at HS
    by_cases h2 : TmOk c d
    · rw [if_pos h2] at HT
      have e : decide (s.Right ∧ TmOk c d ∧ s.rate ≤ r ∧ r ≤ 1000000) = decide (s.rate ≤ r ∧ r ≤ 1000000) := decide_eq_decide.2 ⟨fun h => h.2.2, fun h => ⟨h1, h2, h⟩⟩
      rw [e]
      clear e h1 h2
      generalize decide (s.rate ≤ r ∧ r ≤ 1000000) = t at *
      go_enter Try.func30, Try.ntmps30
      go_wp2_with (first
        | (go_at_call 51; (with_reducible refine (HS.out _).mono ?_); rintro _ w3 ⟨rfl, hf3⟩; obtain ⟨t0, t1, _, _⟩ := two_facts (hf3.blk HB.out (fun h => h)))
        | (go_at_call 11; (with_reducible refine (HT.out _).mono ?_); rintro _ w4 ⟨rfl, hf4⟩; obtain ⟨u0, u1, u2, u3, u4⟩ := sp_cells ((hf3.trans hf4).blk HA.out (fun h => h)))
        | (go_at_call 34; (with_reducible refine (HW.out _).mono ?_); rintro _ _ ⟨rfl, rfl⟩)
        | fail)
      go_ret
      exact ⟨rfl, (HF.out.trans hf3).trans hf4⟩
    · rw [if_neg h2] at HT
      rw [decide_eq_false (fun h => h2 h.2.1)]
      clear h1 h2
      go_enter Try.func30, Try.ntmps30
      go_wp2_with (first
        | (go_at_call 51; (with_reducible refine (HS.out _).mono ?_); rintro _ w3 ⟨rfl, hf3⟩; obtain ⟨t0, t1, _, _⟩ := two_facts (hf3.blk HB.out (fun h => h)))
        | (go_at_call 11; (with_reducible refine (HT.out _).mono ?_); rintro _ w4 ⟨rfl, hf4⟩)
        | fail)
      go_ret
      exact ⟨rfl, (HF.out.trans hf3).trans hf4⟩
  · rw [if_neg h1] at HS
    rw [decide_eq_false (fun h => h1 h.1)]
    clear h1
    go_enter Try.func30, Try.ntmps30
    go_wp2_with (first
      | (go_at_call 51; (with_reducible refine (HS.out _).mono ?_); rintro _ w3 ⟨rfl, hf3⟩)
      | fail)
    go_ret
    exact ⟨rfl, HF.out.trans hf3⟩
theorem dmay_calls (s : Sp) (r c d : Int) (w : World) : Calls Try.prog 13 #[spv s, .int .i64 r, rtv c d] w fun e w' => e = .returned (.bool (decide (MayP s r c d))) ∧ Fr0 w w' := by
  have hA := blk_alloc (heap_alloc_new w (.cells (spc s) 23)) (.cells (rtc c d) 25)
  have hB := heap_an (w := w.alloc (.cells (spc s) 23)) (k := w.heap.size + 1) (.cells (rtc c d) 25) (by simp)
  have HA := Lib.hid hA
  have HB := Lib.hid hB
  have HF := Lib.hid (((Fr.refl (fun _ => False) w).alloc (.cells (spc s) 23)).alloc (.cells (rtc c d) 25))
  obtain ⟨s0, s1, s2, s3, s4⟩ := sp_cells hA
  have HS := Lib.hid (fun U => rright_calls s U)
  have HT := Lib.hid (fun U => dright5_calls c d U)
  rw [show decide (MayP s r c d) = decide (s.Right ∧ TmOk c d ∧ s.rate ≤ r ∧ r ≤ 1000000) from decide_eq_decide.2 (MayP.iff s r c d)]
  clear hA hB
  by_cases h1 : s.Right
  · rw [decide_eq_true h1] at HS
    by_cases h2 : TmOk c d
    · rw [decide_eq_true h2] at HT
      have e : decide (s.Right ∧ TmOk c d ∧ s.rate ≤ r ∧ r ≤ 1000000) = decide (s.rate ≤ r ∧ r ≤ 1000000) := decide_eq_decide.2 ⟨fun h => h.2.2, fun h => ⟨h1, h2, h⟩⟩
      rw [e]
      clear e h1 h2
      by_cases h3 : s.rate ≤ r
      · have g3 : decide (s.rate ≤ r) = true := decide_eq_true h3
        have e : decide (s.rate ≤ r ∧ r ≤ 1000000) = decide (r ≤ 1000000) := decide_eq_decide.2 ⟨fun h => h.2, fun h => ⟨h3, h⟩⟩
        rw [e]
        clear e h3
        go_enter Try.func13, Try.ntmps13
        go_wp2_with (first
          | (go_at_call 35; (with_reducible refine (HS.out _).mono ?_); rintro _ w3 ⟨rfl, hf3⟩; obtain ⟨t0, t1, _, _⟩ := two_facts (hf3.blk HB.out (fun h => h)))
          | (go_at_call 12; (with_reducible refine (HT.out _).mono ?_); rintro _ w4 ⟨rfl, hf4⟩; obtain ⟨u0, u1, u2, u3, u4⟩ := sp_cells ((hf3.trans hf4).blk HA.out (fun h => h)))
          | fail)
        go_ret
        exact ⟨rfl, (HF.out.trans hf3).trans hf4⟩
      · have g3 : decide (s.rate ≤ r) = false := decide_eq_false h3
        rw [decide_eq_false (fun h => h3 h.1)]
        clear h3
        go_enter Try.func13, Try.ntmps13
        go_wp2_with (first
          | (go_at_call 35; (with_reducible refine (HS.out _).mono ?_); rintro _ w3 ⟨rfl, hf3⟩; obtain ⟨t0, t1, _, _⟩ := two_facts (hf3.blk HB.out (fun h => h)))
          | (go_at_call 12; (with_reducible refine (HT.out _).mono ?_); rintro _ w4 ⟨rfl, hf4⟩; obtain ⟨u0, u1, u2, u3, u4⟩ := sp_cells ((hf3.trans hf4).blk HA.out (fun h => h)))
          | fail)
        go_ret
        exact ⟨rfl, (HF.out.trans hf3).trans hf4⟩
    · rw [decide_eq_false h2] at HT
      rw [decide_eq_false (fun h => h2 h.2.1)]
      clear h1 h2
      go_enter Try.func13, Try.ntmps13
      go_wp2_with (first
        | (go_at_call 35; (with_reducible refine (HS.out _).mono ?_); rintro _ w3 ⟨rfl, hf3⟩; obtain ⟨t0, t1, _, _⟩ := two_facts (hf3.blk HB.out (fun h => h)))
        | (go_at_call 12; (with_reducible refine (HT.out _).mono ?_); rintro _ w4 ⟨rfl, hf4⟩)
        | fail)
      go_ret
      exact ⟨rfl, (HF.out.trans hf3).trans hf4⟩
  · rw [decide_eq_false h1] at HS
    rw [decide_eq_false (fun h => h1 h.1)]
    clear h1
    go_enter Try.func13, Try.ntmps13
    go_wp2_with (first
      | (go_at_call 35; (with_reducible refine (HS.out _).mono ?_); rintro _ w3 ⟨rfl, hf3⟩)
      | fail)
    go_ret
    exact ⟨rfl, HF.out.trans hf3⟩
end Go.Proofs.Ytjldogfpccbkeaa
