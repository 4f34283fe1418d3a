/- Chapter 05: BoundFaster walked (written by genBdF.py). -/
import Derived.Test.YtjldogfpccbkeaaBd8
set_option linter.unusedVariables false
set_option linter.unusedSimpArgs false
namespace Go.Proofs.Ytjldogfpccbkeaa
open Go.RowKit
attribute [local go_sem] Oper.semAt_some

theorem tks_mono {s : Sp} {r c d : Int} (h : MayP s r c d) : ∀ n : Nat, r + n ≤ 1000000 → tks s (r + n) c d ≤ tks s r c d
  | 0, _ => by simp
  | n + 1, hn => by
    have ih := tks_mono h n (by omega)
    have hm : MayP s (r + n) c d := ⟨h.sr, h.tm, by have := h.r1; omega, by omega⟩
    have h2 := tks_falls hm (by omega)
    rw [show r + ((n + 1 : Nat) : Int) = r + n + 1 by omega]
    omega
/-- Rate falls where more ticks are allowed. -/
theorem rate_falls {s : Sp} {c d t m g n h : Int} (h1 : RateR s c d t m g) (h2 : RateR s c d (t + 100) n h) (ht : 0 ≤ t) (ht2 : t ≤ 900000) (hg : g = 0) : h = 0 ∧ n ≤ m := by
  rcases h1 with ⟨_, _, hk⟩ | ⟨_, _, _, _, _, hk⟩ | ⟨a1, a2, a3, _, b1, b2, b3, b4⟩
  · omega
  · omega
  have hm : MayP s m c d := ⟨a1, a2, b1, b2⟩
  rcases h2 with ⟨hn, _, _⟩ | ⟨_, _, _, hn, _, _⟩ | ⟨_, _, _, hk, c1, c2, c3, c4⟩
  · exact absurd ⟨a1, a2, by omega, by omega⟩ hn
  · have := tks_mono hm (1000000 - m).toNat (by omega)
    rw [show m + ((1000000 - m).toNat : Int) = 1000000 by omega] at this
    omega
  · refine ⟨hk, ?_⟩
    rcases Int.lt_or_le m n with hlt | hle
    · have := c4 m b1 hlt
      omega
    · exact hle
theorem half_range {x : Int} (h : I64r x) : I64r (x.tdiv 2) ∧ I64r (x - x.tdiv 2) ∧ (1 ≤ x → 1 ≤ x - x.tdiv 2 ∧ x - x.tdiv 2 ≤ x) := by
  obtain ⟨h1, h2⟩ := h
  by_cases h0 : 0 ≤ x
  · have e := Int.tdiv_eq_ediv_of_nonneg (b := 2) h0
    rw [e]
    exact ⟨⟨by omega, by omega⟩, ⟨by omega, by omega⟩, fun _ => by omega⟩
  · have e := Int.tdiv_eq_ediv_of_nonneg (a := -x) (b := 2) (by omega)
    rw [Int.neg_tdiv] at e
    exact ⟨⟨by omega, by omega⟩, ⟨by omega, by omega⟩, fun _ => by omega⟩
theorem upN_falls {n d e : Int} (hn : 1 ≤ n) (hd : 1 ≤ d) (h : d ≤ e) : upN n e ≤ upN n d := by
  unfold upN
  rw [Int.le_ediv_iff_mul_le (by omega)]
  have h1 := Int.ediv_mul_le (n + e - 1) (show e ≠ 0 by omega)
  have h0 : 0 ≤ (n + e - 1) / e := Int.ediv_nonneg (by omega) (by omega)
  generalize (n + e - 1) / e = q at *
  by_cases hq : q = 0
  · subst hq; omega
  · -- q e ≤ n + e - 1, so (q - 1) e ≤ n - 1, so (q - 1) d ≤ n - 1
    have h2 : (q - 1) * e ≤ n - 1 := by rw [Int.sub_mul]; omega
    have h3 := Int.mul_le_mul_of_nonneg_left h (show 0 ≤ q - 1 by omega)
    have h4 : (q - 1) * d = q * d - d := by rw [Int.sub_mul]; omega
    omega
set_option maxHeartbeats 4000000 in
set_option maxRecDepth 20000 in
theorem faster_yes (s : Sp) (c d x0 x1 x2 x3 D1 D2 : Int) (w : World) (hx : I64r x0) (hD : D1 ≤ D2)
    (HL : Hid (∀ U, Calls Try.prog 25 #[.int .i64 x0, .int .i64 x1, .int .i64 x2] U fun e w' => e = .returned (.tuple #[rtv x1 D1, .int .i64 0]) ∧ Fr0 U w'))
    (HM : Hid (∀ U, Calls Try.prog 25 #[.int .i64 (x0 - x0.tdiv 2), .int .i64 x1, .int .i64 x2] U fun e w' => e = .returned (.tuple #[rtv x1 D2, .int .i64 0]) ∧ Fr0 U w'))
    : Calls Try.prog 5 #[spv s, rtv c d, .agg #[.int .i64 x0, .int .i64 x1, .int .i64 x2, .int .i64 x3]] w fun e w' => e = .returned (.bool true) ∧ Fr0 w w' := by
  have HK := Lib.hid known5_calls
  obtain ⟨⟨i1, i2⟩, ⟨i3, i4⟩, _⟩ := half_range hx
  have g1 : IntKind.i64.wrap (x0.tdiv 2) = x0.tdiv 2 := by rw [IntKind.wrap_i64]; omega
  have g2 : wrap64 (x0.tdiv 2) = x0.tdiv 2 := w64_id i1 i2
  have g3 : wrap64 (x0 - x0.tdiv 2) = x0 - x0.tdiv 2 := w64_id i3 i4
  have g4 : decide (D2 < D1) = false := decide_eq_false (by omega)
  clear i1 i2 i3 i4 hx hD
  have HRT := Lib.hid (fun t U => bRate_calls s c d t U)
  by_cases h3 : x3 < 0 ∨ 900000 < x3
  · by_cases h4 : x3 < 0
    · have e3 : decide (x3 < 0) = true := decide_eq_true h4
      clear h3 h4
      have KS0 := Lib.hid (blk_alloc (blk_alloc (heap_alloc_new w (.cells (spc s) 23)) (.cells (rtc c d) 25)) (.cells #[.int .i64 x0, .int .i64 x1, .int .i64 x2, .int .i64 x3] 52))
      have KT0 := Lib.hid (blk_alloc (heap_an (w := w.alloc (.cells (spc s) 23)) (k := w.heap.size + 1) (.cells (rtc c d) 25) (by simp)) (.cells #[.int .i64 x0, .int .i64 x1, .int .i64 x2, .int .i64 x3] 52))
      have KX0 := Lib.hid (heap_an (w := (w.alloc (.cells (spc s) 23)).alloc (.cells (rtc c d) 25)) (k := w.heap.size + 1 + 1) (.cells #[.int .i64 x0, .int .i64 x1, .int .i64 x2, .int .i64 x3] 52) (by simp))
      have KF0 := Lib.hid ((((Fr.refl (fun _ => False) w).alloc (.cells (spc s) 23)).alloc (.cells (rtc c d) 25)).alloc (.cells #[.int .i64 x0, .int .i64 x1, .int .i64 x2, .int .i64 x3] 52))
      obtain ⟨_, _, _, _, _⟩ := sp_cells KS0.out
      obtain ⟨_, _, _, _⟩ := two_facts KT0.out
      have zX0 := cell_of_blk KX0.out 0; have zX1 := cell_of_blk KX0.out 1; have zX2 := cell_of_blk KX0.out 2; have zX3 := cell_of_blk KX0.out 3
      go_enter Try.func5, Try.ntmps5
      go_wp2_with (first
        | (go_at_call 25; (with_reducible refine (HL.out _).mono ?_); rintro _ v1 ⟨rfl, hf1⟩; have KS1 := Lib.hid (blk_alloc (hf1.blk KS0.out (fun h => h)) (.cells (rtc x1 D1) 25)); have KT1 := Lib.hid (blk_alloc (hf1.blk KT0.out (fun h => h)) (.cells (rtc x1 D1) 25)); have KX1 := Lib.hid (blk_alloc (hf1.blk KX0.out (fun h => h)) (.cells (rtc x1 D1) 25)); have K11 := Lib.hid (heap_alloc_new v1 (.cells (rtc x1 D1) 25)); have KF1 := Lib.hid ((KF0.out.trans hf1).alloc (.cells (rtc x1 D1) 25)); clear KS0 KT0 KX0 KF0 hf1; have zX0 := cell_of_blk KX1.out 0; have zX1 := cell_of_blk KX1.out 1; have zX2 := cell_of_blk KX1.out 2; have zX3 := cell_of_blk KX1.out 3)
        | (go_at_call 25; (with_reducible refine (HM.out _).mono ?_); rintro _ v2 ⟨rfl, hf2⟩; have KS2 := Lib.hid (blk_alloc (hf2.blk KS1.out (fun h => h)) (.cells (rtc x1 D2) 25)); have KT2 := Lib.hid (blk_alloc (hf2.blk KT1.out (fun h => h)) (.cells (rtc x1 D2) 25)); have KX2 := Lib.hid (blk_alloc (hf2.blk KX1.out (fun h => h)) (.cells (rtc x1 D2) 25)); have K12 := Lib.hid (blk_alloc (hf2.blk K11.out (fun h => h)) (.cells (rtc x1 D2) 25)); have K22 := Lib.hid (heap_alloc_new v2 (.cells (rtc x1 D2) 25)); have KF2 := Lib.hid ((KF1.out.trans hf2).alloc (.cells (rtc x1 D2) 25)); clear KS1 KT1 KX1 K11 KF1 hf2; have zX0 := cell_of_blk KX2.out 0; have zX1 := cell_of_blk KX2.out 1; have zX2 := cell_of_blk KX2.out 2; have zX3 := cell_of_blk KX2.out 3; obtain ⟨_, _, _, _, _⟩ := sp_cells KS2.out; obtain ⟨_, _, _, _⟩ := two_facts KT2.out; obtain ⟨_, _, _, _⟩ := two_facts K12.out; obtain ⟨_, _, _, _⟩ := two_facts K22.out)
        | (go_at_call 14; (with_reducible refine (HK.out _).mono ?_); rintro _ v3 ⟨rfl, hf3⟩; have KS3 := Lib.hid (hf3.blk KS2.out (fun h => h)); have KT3 := Lib.hid (hf3.blk KT2.out (fun h => h)); have KX3 := Lib.hid (hf3.blk KX2.out (fun h => h)); have K13 := Lib.hid (hf3.blk K12.out (fun h => h)); have K23 := Lib.hid (hf3.blk K22.out (fun h => h)); have KF3 := Lib.hid (KF2.out.trans hf3); clear KS2 KT2 KX2 K12 K22 KF2 hf3)
        | fail)
      go_ret
      exact ⟨rfl, KF3.out⟩
    · have e3 : decide (x3 < 0) = false := decide_eq_false h4
      have e4 : decide (900000 < x3) = true := decide_eq_true (by omega)
      clear h3 h4
      have KS0 := Lib.hid (blk_alloc (blk_alloc (heap_alloc_new w (.cells (spc s) 23)) (.cells (rtc c d) 25)) (.cells #[.int .i64 x0, .int .i64 x1, .int .i64 x2, .int .i64 x3] 52))
      have KT0 := Lib.hid (blk_alloc (heap_an (w := w.alloc (.cells (spc s) 23)) (k := w.heap.size + 1) (.cells (rtc c d) 25) (by simp)) (.cells #[.int .i64 x0, .int .i64 x1, .int .i64 x2, .int .i64 x3] 52))
      have KX0 := Lib.hid (heap_an (w := (w.alloc (.cells (spc s) 23)).alloc (.cells (rtc c d) 25)) (k := w.heap.size + 1 + 1) (.cells #[.int .i64 x0, .int .i64 x1, .int .i64 x2, .int .i64 x3] 52) (by simp))
      have KF0 := Lib.hid ((((Fr.refl (fun _ => False) w).alloc (.cells (spc s) 23)).alloc (.cells (rtc c d) 25)).alloc (.cells #[.int .i64 x0, .int .i64 x1, .int .i64 x2, .int .i64 x3] 52))
      obtain ⟨_, _, _, _, _⟩ := sp_cells KS0.out
      obtain ⟨_, _, _, _⟩ := two_facts KT0.out
      have zX0 := cell_of_blk KX0.out 0; have zX1 := cell_of_blk KX0.out 1; have zX2 := cell_of_blk KX0.out 2; have zX3 := cell_of_blk KX0.out 3
      go_enter Try.func5, Try.ntmps5
      go_wp2_with (first
        | (go_at_call 25; (with_reducible refine (HL.out _).mono ?_); rintro _ v1 ⟨rfl, hf1⟩; have KS1 := Lib.hid (blk_alloc (hf1.blk KS0.out (fun h => h)) (.cells (rtc x1 D1) 25)); have KT1 := Lib.hid (blk_alloc (hf1.blk KT0.out (fun h => h)) (.cells (rtc x1 D1) 25)); have KX1 := Lib.hid (blk_alloc (hf1.blk KX0.out (fun h => h)) (.cells (rtc x1 D1) 25)); have K11 := Lib.hid (heap_alloc_new v1 (.cells (rtc x1 D1) 25)); have KF1 := Lib.hid ((KF0.out.trans hf1).alloc (.cells (rtc x1 D1) 25)); clear KS0 KT0 KX0 KF0 hf1; have zX0 := cell_of_blk KX1.out 0; have zX1 := cell_of_blk KX1.out 1; have zX2 := cell_of_blk KX1.out 2; have zX3 := cell_of_blk KX1.out 3)
        | (go_at_call 25; (with_reducible refine (HM.out _).mono ?_); rintro _ v2 ⟨rfl, hf2⟩; have KS2 := Lib.hid (blk_alloc (hf2.blk KS1.out (fun h => h)) (.cells (rtc x1 D2) 25)); have KT2 := Lib.hid (blk_alloc (hf2.blk KT1.out (fun h => h)) (.cells (rtc x1 D2) 25)); have KX2 := Lib.hid (blk_alloc (hf2.blk KX1.out (fun h => h)) (.cells (rtc x1 D2) 25)); have K12 := Lib.hid (blk_alloc (hf2.blk K11.out (fun h => h)) (.cells (rtc x1 D2) 25)); have K22 := Lib.hid (heap_alloc_new v2 (.cells (rtc x1 D2) 25)); have KF2 := Lib.hid ((KF1.out.trans hf2).alloc (.cells (rtc x1 D2) 25)); clear KS1 KT1 KX1 K11 KF1 hf2; have zX0 := cell_of_blk KX2.out 0; have zX1 := cell_of_blk KX2.out 1; have zX2 := cell_of_blk KX2.out 2; have zX3 := cell_of_blk KX2.out 3; obtain ⟨_, _, _, _, _⟩ := sp_cells KS2.out; obtain ⟨_, _, _, _⟩ := two_facts KT2.out; obtain ⟨_, _, _, _⟩ := two_facts K12.out; obtain ⟨_, _, _, _⟩ := two_facts K22.out)
        | (go_at_call 14; (with_reducible refine (HK.out _).mono ?_); rintro _ v3 ⟨rfl, hf3⟩; have KS3 := Lib.hid (hf3.blk KS2.out (fun h => h)); have KT3 := Lib.hid (hf3.blk KT2.out (fun h => h)); have KX3 := Lib.hid (hf3.blk KX2.out (fun h => h)); have K13 := Lib.hid (hf3.blk K12.out (fun h => h)); have K23 := Lib.hid (hf3.blk K22.out (fun h => h)); have KF3 := Lib.hid (KF2.out.trans hf3); clear KS2 KT2 KX2 K12 K22 KF2 hf3)
        | fail)
      go_ret
      exact ⟨rfl, KF3.out⟩
  · have e3 : decide (x3 < 0) = false := decide_eq_false (by omega)
    have e4 : decide (900000 < x3) = false := decide_eq_false (by omega)
    have HX3 : Hid (0 ≤ x3 ∧ x3 ≤ 900000) := ⟨by omega, by omega⟩
    have g5 : wrap64 (x3 + 100) = x3 + 100 := w64_id (by omega) (by omega)
    clear h3
    have KS0 := Lib.hid (blk_alloc (blk_alloc (heap_alloc_new w (.cells (spc s) 23)) (.cells (rtc c d) 25)) (.cells #[.int .i64 x0, .int .i64 x1, .int .i64 x2, .int .i64 x3] 52))
    have KT0 := Lib.hid (blk_alloc (heap_an (w := w.alloc (.cells (spc s) 23)) (k := w.heap.size + 1) (.cells (rtc c d) 25) (by simp)) (.cells #[.int .i64 x0, .int .i64 x1, .int .i64 x2, .int .i64 x3] 52))
    have KX0 := Lib.hid (heap_an (w := (w.alloc (.cells (spc s) 23)).alloc (.cells (rtc c d) 25)) (k := w.heap.size + 1 + 1) (.cells #[.int .i64 x0, .int .i64 x1, .int .i64 x2, .int .i64 x3] 52) (by simp))
    have KF0 := Lib.hid ((((Fr.refl (fun _ => False) w).alloc (.cells (spc s) 23)).alloc (.cells (rtc c d) 25)).alloc (.cells #[.int .i64 x0, .int .i64 x1, .int .i64 x2, .int .i64 x3] 52))
    obtain ⟨_, _, _, _, _⟩ := sp_cells KS0.out
    obtain ⟨_, _, _, _⟩ := two_facts KT0.out
    have zX0 := cell_of_blk KX0.out 0; have zX1 := cell_of_blk KX0.out 1; have zX2 := cell_of_blk KX0.out 2; have zX3 := cell_of_blk KX0.out 3
    go_enter Try.func5, Try.ntmps5
    go_upto_region 9 with (first
      | (go_at_call 25; (with_reducible refine (HL.out _).mono ?_); rintro _ v1 ⟨rfl, hf1⟩; have KS1 := Lib.hid (blk_alloc (hf1.blk KS0.out (fun h => h)) (.cells (rtc x1 D1) 25)); have KT1 := Lib.hid (blk_alloc (hf1.blk KT0.out (fun h => h)) (.cells (rtc x1 D1) 25)); have KX1 := Lib.hid (blk_alloc (hf1.blk KX0.out (fun h => h)) (.cells (rtc x1 D1) 25)); have K11 := Lib.hid (heap_alloc_new v1 (.cells (rtc x1 D1) 25)); have KF1 := Lib.hid ((KF0.out.trans hf1).alloc (.cells (rtc x1 D1) 25)); clear KS0 KT0 KX0 KF0 hf1; have zX0 := cell_of_blk KX1.out 0; have zX1 := cell_of_blk KX1.out 1; have zX2 := cell_of_blk KX1.out 2; have zX3 := cell_of_blk KX1.out 3)
      | (go_at_call 25; (with_reducible refine (HM.out _).mono ?_); rintro _ v2 ⟨rfl, hf2⟩; have KS2 := Lib.hid (blk_alloc (hf2.blk KS1.out (fun h => h)) (.cells (rtc x1 D2) 25)); have KT2 := Lib.hid (blk_alloc (hf2.blk KT1.out (fun h => h)) (.cells (rtc x1 D2) 25)); have KX2 := Lib.hid (blk_alloc (hf2.blk KX1.out (fun h => h)) (.cells (rtc x1 D2) 25)); have K12 := Lib.hid (blk_alloc (hf2.blk K11.out (fun h => h)) (.cells (rtc x1 D2) 25)); have K22 := Lib.hid (heap_alloc_new v2 (.cells (rtc x1 D2) 25)); have KF2 := Lib.hid ((KF1.out.trans hf2).alloc (.cells (rtc x1 D2) 25)); clear KS1 KT1 KX1 K11 KF1 hf2; have zX0 := cell_of_blk KX2.out 0; have zX1 := cell_of_blk KX2.out 1; have zX2 := cell_of_blk KX2.out 2; have zX3 := cell_of_blk KX2.out 3; obtain ⟨_, _, _, _, _⟩ := sp_cells KS2.out; obtain ⟨_, _, _, _⟩ := two_facts KT2.out; obtain ⟨_, _, _, _⟩ := two_facts K12.out; obtain ⟨_, _, _, _⟩ := two_facts K22.out)
      | (go_at_call 26; (with_reducible refine (HRT.out x3 _).mono ?_); rintro _ v3 ⟨⟨m, g, rfl, hr1⟩, hf3⟩; have HR1 := Lib.hid hr1; clear hr1; have KS3 := Lib.hid (hf3.blk KS2.out (fun h => h)); have KT3 := Lib.hid (hf3.blk KT2.out (fun h => h)); have KX3 := Lib.hid (hf3.blk KX2.out (fun h => h)); have K13 := Lib.hid (hf3.blk K12.out (fun h => h)); have K23 := Lib.hid (hf3.blk K22.out (fun h => h)); have KF3 := Lib.hid (KF2.out.trans hf3); clear KS2 KT2 KX2 K12 K22 KF2 hf3; have zX0 := cell_of_blk KX3.out 0; have zX1 := cell_of_blk KX3.out 1; have zX2 := cell_of_blk KX3.out 2; have zX3 := cell_of_blk KX3.out 3; obtain ⟨_, _, _, _, _⟩ := sp_cells KS3.out; obtain ⟨_, _, _, _⟩ := two_facts KT3.out)
      | (go_at_call 26; (with_reducible refine (HRT.out (x3 + 100) _).mono ?_); rintro _ v4 ⟨⟨n, h, rfl, hr2⟩, hf4⟩; have HR2 := Lib.hid hr2; clear hr2; have KS4 := Lib.hid (hf4.blk KS3.out (fun h => h)); have KT4 := Lib.hid (hf4.blk KT3.out (fun h => h)); have KX4 := Lib.hid (hf4.blk KX3.out (fun h => h)); have K14 := Lib.hid (hf4.blk K13.out (fun h => h)); have K24 := Lib.hid (hf4.blk K23.out (fun h => h)); have KF4 := Lib.hid (KF3.out.trans hf4); clear KS3 KT3 KX3 K13 K23 KF3 hf4)
      | fail)
    by_cases hg : g = 0
    · obtain ⟨hh, hn⟩ := rate_falls HR1.out HR2.out HX3.out.1 HX3.out.2 hg
      subst hg
      subst hh
      have e5 : decide (n ≤ m) = true := decide_eq_true hn
      clear hn
      go_wp2_with (first
        | (go_at_call 14; (with_reducible refine (HK.out _).mono ?_); rintro _ v5 ⟨rfl, hf5⟩; have KS5 := Lib.hid (hf5.blk KS4.out (fun h => h)); have KT5 := Lib.hid (hf5.blk KT4.out (fun h => h)); have KX5 := Lib.hid (hf5.blk KX4.out (fun h => h)); have K15 := Lib.hid (hf5.blk K14.out (fun h => h)); have K25 := Lib.hid (hf5.blk K24.out (fun h => h)); have KF5 := Lib.hid (KF4.out.trans hf5); clear KS4 KT4 KX4 K14 K24 KF4 hf5)
        | fail)
      go_ret
      exact ⟨rfl, KF5.out⟩
    · have e5 : decide (g = 0) = false := decide_eq_false hg
      have e6 : (g == 0) = false := by simpa using hg
      have e7 : (g != 0) = true := by simpa using hg
      clear hg
      go_wp2_with (first
        | (go_at_call 14; (with_reducible refine (HK.out _).mono ?_); rintro _ v5 ⟨rfl, hf5⟩; have KS5 := Lib.hid (hf5.blk KS4.out (fun h => h)); have KT5 := Lib.hid (hf5.blk KT4.out (fun h => h)); have KX5 := Lib.hid (hf5.blk KX4.out (fun h => h)); have K15 := Lib.hid (hf5.blk K14.out (fun h => h)); have K25 := Lib.hid (hf5.blk K24.out (fun h => h)); have KF5 := Lib.hid (KF4.out.trans hf5); clear KS4 KT4 KX4 K14 K24 KF4 hf5)
        | fail)
      go_ret
      exact ⟨rfl, KF5.out⟩
set_option maxHeartbeats 4000000 in
set_option maxRecDepth 20000 in
theorem faster_no (s : Sp) (c d x0 x1 x2 x3 cb db kb : Int) (w : World) (hx : I64r x0)
    (HL : Hid (∀ U, Calls Try.prog 25 #[.int .i64 x0, .int .i64 x1, .int .i64 x2] U fun e w' => e = .returned (.tuple #[rtv 0 0, .int .i64 2]) ∧ Fr0 U w'))
    (HM : Hid (∀ U, Calls Try.prog 25 #[.int .i64 (x0 - x0.tdiv 2), .int .i64 x1, .int .i64 x2] U fun e w' => e = .returned (.tuple #[rtv cb db, .int .i64 kb]) ∧ Fr0 U w'))
    : Calls Try.prog 5 #[spv s, rtv c d, .agg #[.int .i64 x0, .int .i64 x1, .int .i64 x2, .int .i64 x3]] w fun e w' => e = .returned (.bool true) ∧ Fr0 w w' := by
  have HK := Lib.hid known5_calls
  obtain ⟨⟨i1, i2⟩, ⟨i3, i4⟩, _⟩ := half_range hx
  have g1 : IntKind.i64.wrap (x0.tdiv 2) = x0.tdiv 2 := by rw [IntKind.wrap_i64]; omega
  have g2 : wrap64 (x0.tdiv 2) = x0.tdiv 2 := w64_id i1 i2
  have g3 : wrap64 (x0 - x0.tdiv 2) = x0 - x0.tdiv 2 := w64_id i3 i4
  clear i1 i2 i3 i4 hx
  have HRT := Lib.hid (fun t U => bRate_calls s c d t U)
  by_cases h3 : x3 < 0 ∨ 900000 < x3
  · by_cases h4 : x3 < 0
    · have e3 : decide (x3 < 0) = true := decide_eq_true h4
      clear h3 h4
      have KS0 := Lib.hid (blk_alloc (blk_alloc (heap_alloc_new w (.cells (spc s) 23)) (.cells (rtc c d) 25)) (.cells #[.int .i64 x0, .int .i64 x1, .int .i64 x2, .int .i64 x3] 52))
      have KT0 := Lib.hid (blk_alloc (heap_an (w := w.alloc (.cells (spc s) 23)) (k := w.heap.size + 1) (.cells (rtc c d) 25) (by simp)) (.cells #[.int .i64 x0, .int .i64 x1, .int .i64 x2, .int .i64 x3] 52))
      have KX0 := Lib.hid (heap_an (w := (w.alloc (.cells (spc s) 23)).alloc (.cells (rtc c d) 25)) (k := w.heap.size + 1 + 1) (.cells #[.int .i64 x0, .int .i64 x1, .int .i64 x2, .int .i64 x3] 52) (by simp))
      have KF0 := Lib.hid ((((Fr.refl (fun _ => False) w).alloc (.cells (spc s) 23)).alloc (.cells (rtc c d) 25)).alloc (.cells #[.int .i64 x0, .int .i64 x1, .int .i64 x2, .int .i64 x3] 52))
      obtain ⟨_, _, _, _, _⟩ := sp_cells KS0.out
      obtain ⟨_, _, _, _⟩ := two_facts KT0.out
      have zX0 := cell_of_blk KX0.out 0; have zX1 := cell_of_blk KX0.out 1; have zX2 := cell_of_blk KX0.out 2; have zX3 := cell_of_blk KX0.out 3
      go_enter Try.func5, Try.ntmps5
      go_wp2_with (first
        | (go_at_call 25; (with_reducible refine (HL.out _).mono ?_); rintro _ v1 ⟨rfl, hf1⟩; have KS1 := Lib.hid (blk_alloc (hf1.blk KS0.out (fun h => h)) (.cells (rtc 0 0) 25)); have KT1 := Lib.hid (blk_alloc (hf1.blk KT0.out (fun h => h)) (.cells (rtc 0 0) 25)); have KX1 := Lib.hid (blk_alloc (hf1.blk KX0.out (fun h => h)) (.cells (rtc 0 0) 25)); have K11 := Lib.hid (heap_alloc_new v1 (.cells (rtc 0 0) 25)); have KF1 := Lib.hid ((KF0.out.trans hf1).alloc (.cells (rtc 0 0) 25)); clear KS0 KT0 KX0 KF0 hf1; have zX0 := cell_of_blk KX1.out 0; have zX1 := cell_of_blk KX1.out 1; have zX2 := cell_of_blk KX1.out 2; have zX3 := cell_of_blk KX1.out 3)
        | (go_at_call 25; (with_reducible refine (HM.out _).mono ?_); rintro _ v2 ⟨rfl, hf2⟩; have KS2 := Lib.hid (blk_alloc (hf2.blk KS1.out (fun h => h)) (.cells (rtc cb db) 25)); have KT2 := Lib.hid (blk_alloc (hf2.blk KT1.out (fun h => h)) (.cells (rtc cb db) 25)); have KX2 := Lib.hid (blk_alloc (hf2.blk KX1.out (fun h => h)) (.cells (rtc cb db) 25)); have K12 := Lib.hid (blk_alloc (hf2.blk K11.out (fun h => h)) (.cells (rtc cb db) 25)); have K22 := Lib.hid (heap_alloc_new v2 (.cells (rtc cb db) 25)); have KF2 := Lib.hid ((KF1.out.trans hf2).alloc (.cells (rtc cb db) 25)); clear KS1 KT1 KX1 K11 KF1 hf2; have zX0 := cell_of_blk KX2.out 0; have zX1 := cell_of_blk KX2.out 1; have zX2 := cell_of_blk KX2.out 2; have zX3 := cell_of_blk KX2.out 3; obtain ⟨_, _, _, _, _⟩ := sp_cells KS2.out; obtain ⟨_, _, _, _⟩ := two_facts KT2.out; obtain ⟨_, _, _, _⟩ := two_facts K12.out; obtain ⟨_, _, _, _⟩ := two_facts K22.out)
        | (go_at_call 14; (with_reducible refine (HK.out _).mono ?_); rintro _ v3 ⟨rfl, hf3⟩; have KS3 := Lib.hid (hf3.blk KS2.out (fun h => h)); have KT3 := Lib.hid (hf3.blk KT2.out (fun h => h)); have KX3 := Lib.hid (hf3.blk KX2.out (fun h => h)); have K13 := Lib.hid (hf3.blk K12.out (fun h => h)); have K23 := Lib.hid (hf3.blk K22.out (fun h => h)); have KF3 := Lib.hid (KF2.out.trans hf3); clear KS2 KT2 KX2 K12 K22 KF2 hf3)
        | fail)
      go_ret
      exact ⟨rfl, KF3.out⟩
    · have e3 : decide (x3 < 0) = false := decide_eq_false h4
      have e4 : decide (900000 < x3) = true := decide_eq_true (by omega)
      clear h3 h4
      have KS0 := Lib.hid (blk_alloc (blk_alloc (heap_alloc_new w (.cells (spc s) 23)) (.cells (rtc c d) 25)) (.cells #[.int .i64 x0, .int .i64 x1, .int .i64 x2, .int .i64 x3] 52))
      have KT0 := Lib.hid (blk_alloc (heap_an (w := w.alloc (.cells (spc s) 23)) (k := w.heap.size + 1) (.cells (rtc c d) 25) (by simp)) (.cells #[.int .i64 x0, .int .i64 x1, .int .i64 x2, .int .i64 x3] 52))
      have KX0 := Lib.hid (heap_an (w := (w.alloc (.cells (spc s) 23)).alloc (.cells (rtc c d) 25)) (k := w.heap.size + 1 + 1) (.cells #[.int .i64 x0, .int .i64 x1, .int .i64 x2, .int .i64 x3] 52) (by simp))
      have KF0 := Lib.hid ((((Fr.refl (fun _ => False) w).alloc (.cells (spc s) 23)).alloc (.cells (rtc c d) 25)).alloc (.cells #[.int .i64 x0, .int .i64 x1, .int .i64 x2, .int .i64 x3] 52))
      obtain ⟨_, _, _, _, _⟩ := sp_cells KS0.out
      obtain ⟨_, _, _, _⟩ := two_facts KT0.out
      have zX0 := cell_of_blk KX0.out 0; have zX1 := cell_of_blk KX0.out 1; have zX2 := cell_of_blk KX0.out 2; have zX3 := cell_of_blk KX0.out 3
      go_enter Try.func5, Try.ntmps5
      go_wp2_with (first
        | (go_at_call 25; (with_reducible refine (HL.out _).mono ?_); rintro _ v1 ⟨rfl, hf1⟩; have KS1 := Lib.hid (blk_alloc (hf1.blk KS0.out (fun h => h)) (.cells (rtc 0 0) 25)); have KT1 := Lib.hid (blk_alloc (hf1.blk KT0.out (fun h => h)) (.cells (rtc 0 0) 25)); have KX1 := Lib.hid (blk_alloc (hf1.blk KX0.out (fun h => h)) (.cells (rtc 0 0) 25)); have K11 := Lib.hid (heap_alloc_new v1 (.cells (rtc 0 0) 25)); have KF1 := Lib.hid ((KF0.out.trans hf1).alloc (.cells (rtc 0 0) 25)); clear KS0 KT0 KX0 KF0 hf1; have zX0 := cell_of_blk KX1.out 0; have zX1 := cell_of_blk KX1.out 1; have zX2 := cell_of_blk KX1.out 2; have zX3 := cell_of_blk KX1.out 3)
        | (go_at_call 25; (with_reducible refine (HM.out _).mono ?_); rintro _ v2 ⟨rfl, hf2⟩; have KS2 := Lib.hid (blk_alloc (hf2.blk KS1.out (fun h => h)) (.cells (rtc cb db) 25)); have KT2 := Lib.hid (blk_alloc (hf2.blk KT1.out (fun h => h)) (.cells (rtc cb db) 25)); have KX2 := Lib.hid (blk_alloc (hf2.blk KX1.out (fun h => h)) (.cells (rtc cb db) 25)); have K12 := Lib.hid (blk_alloc (hf2.blk K11.out (fun h => h)) (.cells (rtc cb db) 25)); have K22 := Lib.hid (heap_alloc_new v2 (.cells (rtc cb db) 25)); have KF2 := Lib.hid ((KF1.out.trans hf2).alloc (.cells (rtc cb db) 25)); clear KS1 KT1 KX1 K11 KF1 hf2; have zX0 := cell_of_blk KX2.out 0; have zX1 := cell_of_blk KX2.out 1; have zX2 := cell_of_blk KX2.out 2; have zX3 := cell_of_blk KX2.out 3; obtain ⟨_, _, _, _, _⟩ := sp_cells KS2.out; obtain ⟨_, _, _, _⟩ := two_facts KT2.out; obtain ⟨_, _, _, _⟩ := two_facts K12.out; obtain ⟨_, _, _, _⟩ := two_facts K22.out)
        | (go_at_call 14; (with_reducible refine (HK.out _).mono ?_); rintro _ v3 ⟨rfl, hf3⟩; have KS3 := Lib.hid (hf3.blk KS2.out (fun h => h)); have KT3 := Lib.hid (hf3.blk KT2.out (fun h => h)); have KX3 := Lib.hid (hf3.blk KX2.out (fun h => h)); have K13 := Lib.hid (hf3.blk K12.out (fun h => h)); have K23 := Lib.hid (hf3.blk K22.out (fun h => h)); have KF3 := Lib.hid (KF2.out.trans hf3); clear KS2 KT2 KX2 K12 K22 KF2 hf3)
        | fail)
      go_ret
      exact ⟨rfl, KF3.out⟩
  · have e3 : decide (x3 < 0) = false := decide_eq_false (by omega)
    have e4 : decide (900000 < x3) = false := decide_eq_false (by omega)
    have HX3 : Hid (0 ≤ x3 ∧ x3 ≤ 900000) := ⟨by omega, by omega⟩
    have g5 : wrap64 (x3 + 100) = x3 + 100 := w64_id (by omega) (by omega)
    clear h3
    have KS0 := Lib.hid (blk_alloc (blk_alloc (heap_alloc_new w (.cells (spc s) 23)) (.cells (rtc c d) 25)) (.cells #[.int .i64 x0, .int .i64 x1, .int .i64 x2, .int .i64 x3] 52))
    have KT0 := Lib.hid (blk_alloc (heap_an (w := w.alloc (.cells (spc s) 23)) (k := w.heap.size + 1) (.cells (rtc c d) 25) (by simp)) (.cells #[.int .i64 x0, .int .i64 x1, .int .i64 x2, .int .i64 x3] 52))
    have KX0 := Lib.hid (heap_an (w := (w.alloc (.cells (spc s) 23)).alloc (.cells (rtc c d) 25)) (k := w.heap.size + 1 + 1) (.cells #[.int .i64 x0, .int .i64 x1, .int .i64 x2, .int .i64 x3] 52) (by simp))
    have KF0 := Lib.hid ((((Fr.refl (fun _ => False) w).alloc (.cells (spc s) 23)).alloc (.cells (rtc c d) 25)).alloc (.cells #[.int .i64 x0, .int .i64 x1, .int .i64 x2, .int .i64 x3] 52))
    obtain ⟨_, _, _, _, _⟩ := sp_cells KS0.out
    obtain ⟨_, _, _, _⟩ := two_facts KT0.out
    have zX0 := cell_of_blk KX0.out 0; have zX1 := cell_of_blk KX0.out 1; have zX2 := cell_of_blk KX0.out 2; have zX3 := cell_of_blk KX0.out 3
    go_enter Try.func5, Try.ntmps5
    go_upto_region 9 with (first
      | (go_at_call 25; (with_reducible refine (HL.out _).mono ?_); rintro _ v1 ⟨rfl, hf1⟩; have KS1 := Lib.hid (blk_alloc (hf1.blk KS0.out (fun h => h)) (.cells (rtc 0 0) 25)); have KT1 := Lib.hid (blk_alloc (hf1.blk KT0.out (fun h => h)) (.cells (rtc 0 0) 25)); have KX1 := Lib.hid (blk_alloc (hf1.blk KX0.out (fun h => h)) (.cells (rtc 0 0) 25)); have K11 := Lib.hid (heap_alloc_new v1 (.cells (rtc 0 0) 25)); have KF1 := Lib.hid ((KF0.out.trans hf1).alloc (.cells (rtc 0 0) 25)); clear KS0 KT0 KX0 KF0 hf1; have zX0 := cell_of_blk KX1.out 0; have zX1 := cell_of_blk KX1.out 1; have zX2 := cell_of_blk KX1.out 2; have zX3 := cell_of_blk KX1.out 3)
      | (go_at_call 25; (with_reducible refine (HM.out _).mono ?_); rintro _ v2 ⟨rfl, hf2⟩; have KS2 := Lib.hid (blk_alloc (hf2.blk KS1.out (fun h => h)) (.cells (rtc cb db) 25)); have KT2 := Lib.hid (blk_alloc (hf2.blk KT1.out (fun h => h)) (.cells (rtc cb db) 25)); have KX2 := Lib.hid (blk_alloc (hf2.blk KX1.out (fun h => h)) (.cells (rtc cb db) 25)); have K12 := Lib.hid (blk_alloc (hf2.blk K11.out (fun h => h)) (.cells (rtc cb db) 25)); have K22 := Lib.hid (heap_alloc_new v2 (.cells (rtc cb db) 25)); have KF2 := Lib.hid ((KF1.out.trans hf2).alloc (.cells (rtc cb db) 25)); clear KS1 KT1 KX1 K11 KF1 hf2; have zX0 := cell_of_blk KX2.out 0; have zX1 := cell_of_blk KX2.out 1; have zX2 := cell_of_blk KX2.out 2; have zX3 := cell_of_blk KX2.out 3; obtain ⟨_, _, _, _, _⟩ := sp_cells KS2.out; obtain ⟨_, _, _, _⟩ := two_facts KT2.out; obtain ⟨_, _, _, _⟩ := two_facts K12.out; obtain ⟨_, _, _, _⟩ := two_facts K22.out)
      | (go_at_call 26; (with_reducible refine (HRT.out x3 _).mono ?_); rintro _ v3 ⟨⟨m, g, rfl, hr1⟩, hf3⟩; have HR1 := Lib.hid hr1; clear hr1; have KS3 := Lib.hid (hf3.blk KS2.out (fun h => h)); have KT3 := Lib.hid (hf3.blk KT2.out (fun h => h)); have KX3 := Lib.hid (hf3.blk KX2.out (fun h => h)); have K13 := Lib.hid (hf3.blk K12.out (fun h => h)); have K23 := Lib.hid (hf3.blk K22.out (fun h => h)); have KF3 := Lib.hid (KF2.out.trans hf3); clear KS2 KT2 KX2 K12 K22 KF2 hf3; have zX0 := cell_of_blk KX3.out 0; have zX1 := cell_of_blk KX3.out 1; have zX2 := cell_of_blk KX3.out 2; have zX3 := cell_of_blk KX3.out 3; obtain ⟨_, _, _, _, _⟩ := sp_cells KS3.out; obtain ⟨_, _, _, _⟩ := two_facts KT3.out)
      | (go_at_call 26; (with_reducible refine (HRT.out (x3 + 100) _).mono ?_); rintro _ v4 ⟨⟨n, h, rfl, hr2⟩, hf4⟩; have HR2 := Lib.hid hr2; clear hr2; have KS4 := Lib.hid (hf4.blk KS3.out (fun h => h)); have KT4 := Lib.hid (hf4.blk KT3.out (fun h => h)); have KX4 := Lib.hid (hf4.blk KX3.out (fun h => h)); have K14 := Lib.hid (hf4.blk K13.out (fun h => h)); have K24 := Lib.hid (hf4.blk K23.out (fun h => h)); have KF4 := Lib.hid (KF3.out.trans hf4); clear KS3 KT3 KX3 K13 K23 KF3 hf4)
      | fail)
    by_cases hg : g = 0
    · obtain ⟨hh, hn⟩ := rate_falls HR1.out HR2.out HX3.out.1 HX3.out.2 hg
      subst hg
      subst hh
      have e5 : decide (n ≤ m) = true := decide_eq_true hn
      clear hn
      go_wp2_with (first
        | (go_at_call 14; (with_reducible refine (HK.out _).mono ?_); rintro _ v5 ⟨rfl, hf5⟩; have KS5 := Lib.hid (hf5.blk KS4.out (fun h => h)); have KT5 := Lib.hid (hf5.blk KT4.out (fun h => h)); have KX5 := Lib.hid (hf5.blk KX4.out (fun h => h)); have K15 := Lib.hid (hf5.blk K14.out (fun h => h)); have K25 := Lib.hid (hf5.blk K24.out (fun h => h)); have KF5 := Lib.hid (KF4.out.trans hf5); clear KS4 KT4 KX4 K14 K24 KF4 hf5)
        | fail)
      go_ret
      exact ⟨rfl, KF5.out⟩
    · have e5 : decide (g = 0) = false := decide_eq_false hg
      have e6 : (g == 0) = false := by simpa using hg
      have e7 : (g != 0) = true := by simpa using hg
      clear hg
      go_wp2_with (first
        | (go_at_call 14; (with_reducible refine (HK.out _).mono ?_); rintro _ v5 ⟨rfl, hf5⟩; have KS5 := Lib.hid (hf5.blk KS4.out (fun h => h)); have KT5 := Lib.hid (hf5.blk KT4.out (fun h => h)); have KX5 := Lib.hid (hf5.blk KX4.out (fun h => h)); have K15 := Lib.hid (hf5.blk K14.out (fun h => h)); have K25 := Lib.hid (hf5.blk K24.out (fun h => h)); have KF5 := Lib.hid (KF4.out.trans hf5); clear KS4 KT4 KX4 K14 K24 KF4 hf5)
        | fail)
      go_ret
      exact ⟨rfl, KF5.out⟩
theorem faster_walk (s : Sp) (c d x0 x1 x2 x3 : Int) (hx : I64r x0 ∧ I64r x1 ∧ I64r x2 ∧ I64r x3) (w : World) : Calls Try.prog 5 #[spv s, rtv c d, .agg #[.int .i64 x0, .int .i64 x1, .int .i64 x2, .int .i64 x3]] w fun e w' => e = .returned (.bool true) ∧ Fr0 w w' := by
  by_cases h : LkOk x0 x1 x2
  · obtain ⟨_, _, h3⟩ := half_range hx.1
    have h4 := h3 h.1.1
    have h5 : LkOk (x0 - x0.tdiv 2) x1 x2 := ⟨⟨h4.1, by have := h.1.2; omega⟩, h.2⟩
    have h6 := upN_falls (n := x1) h.2.1.1 h4.1 h4.2
    exact faster_yes s c d x0 x1 x2 x3 _ _ w hx.1 (by omega) (Lib.hid (fun U => bLink_yes x0 x1 x2 h U)) (Lib.hid (fun U => bLink_yes _ x1 x2 h5 U))
  · by_cases h5 : LkOk (x0 - x0.tdiv 2) x1 x2
    · exact faster_no s c d x0 x1 x2 x3 _ _ _ w hx.1 (Lib.hid (fun U => bLink_no x0 x1 x2 h U)) (Lib.hid (fun U => bLink_yes _ x1 x2 h5 U))
    · exact faster_no s c d x0 x1 x2 x3 _ _ _ w hx.1 (Lib.hid (fun U => bLink_no x0 x1 x2 h U)) (Lib.hid (fun U => bLink_no _ x1 x2 h5 U))
end Go.Proofs.Ytjldogfpccbkeaa
