/- Chapter 05: a link's terms, a way's. -/
import Derived.Test.YtjldogfpccbkeaaBd1
import Derived.Test.YtjldogfpccbkeaaM3
import Derived.Test.YtjldogfpccbkeaaM6
set_option linter.unusedVariables false
set_option linter.unusedSimpArgs false
namespace Go.Proofs.Ytjldogfpccbkeaa
open Go.RowKit
attribute [local go_sem] Oper.semAt_some

def upN (n d : Int) : Int := (n + d - 1) / d
theorem upN_eq {n d : Int} (hn : 0 ≤ n) (hd : 1 ≤ d) : upN n d = if 0 < n.tmod d then n.tdiv d + 1 else n.tdiv d := by
  rw [Int.tmod_eq_emod_of_nonneg hn, Int.tdiv_eq_ediv_of_nonneg hn]
  have h1 := Int.emod_add_mul_ediv n d
  have h2 := Int.emod_nonneg n (show d ≠ 0 by omega)
  have h3 := Int.emod_lt_of_pos n (show 0 < d by omega)
  unfold upN
  generalize n / d = q at *
  generalize n % d = r at *
  split
  · have e : n + d - 1 = (r - 1) + d * (q + 1) := by rw [Int.mul_add]; omega
    rw [e, Int.add_mul_ediv_left _ _ (by omega), Int.ediv_eq_zero_of_lt (by omega) (by omega)]
    omega
  · have e : n + d - 1 = (d - 1) + d * q := by omega
    rw [e, Int.add_mul_ediv_left _ _ (by omega), Int.ediv_eq_zero_of_lt (by omega) (by omega)]
    omega
theorem upN_range {n d : Int} (h1 : 1 ≤ n) (h2 : n ≤ 2000) (h3 : 1 ≤ d) : 0 ≤ upN n d ∧ upN n d ≤ n := by
  unfold upN
  constructor
  · exact Int.ediv_nonneg (by omega) (by omega)
  · refine Int.le_of_lt_add_one ?_
    rw [Int.ediv_lt_iff_lt_mul (by omega)]
    have := Int.mul_le_mul (show (1 : Int) ≤ n by omega) h3 (by omega) (by omega)
    have e : (n + 1) * d = n * d + d := by rw [Int.add_mul]; omega
    have h5 : n ≤ n * d := by
      have := Int.mul_le_mul_of_nonneg_left h3 (show 0 ≤ n by omega)
      omega
    omega
theorem bup_calls (n d : Int) (h1 : 1 ≤ n) (h2 : n ≤ 2000) (h3 : 1 ≤ d) (h4 : d ≤ 1000000) (w : World) : Calls Try.prog 50 #[.int .i64 n, .int .i64 d] w fun e w' => e = .returned (.int .i64 (upN n d)) ∧ w = w' := by
  have hr := upN_range h1 h2 h3
  have hu : (n + d - 1).tdiv d = upN n d := Int.tdiv_eq_ediv_of_nonneg (by omega)
  generalize upN n d = u at *
  have d1 : decide (d = 0) = false := decide_eq_false (by omega)
  have d1n : (d == 0) = false := by simp; omega
  have d2 : ¬ d = 0 := by omega
  have g1 : wrap64 (n + d) = n + d := w64_id (by omega) (by omega)
  have g2 : wrap64 (n + d - 1) = n + d - 1 := w64_id (by omega) (by omega)
  have g3 : wrap64 u = u := w64_id (by omega) (by omega)
  have g4 : IntKind.i64.wrap ((n + d - 1).tdiv d) = u := by rw [hu, IntKind.wrap_i64]; omega
  have g5 : wrap64 ((n + d - 1).tdiv d) = u := by rw [hu]; exact w64_id (by omega) (by omega)
  clear h1 h2 h3 h4 hr
  go_enter Try.func50, Try.ntmps50
  go_wp2_with fail
  go_ret
  exact ⟨by first | rfl | (simp only [g1, g2, g3, g4, g5, hu] <;> rfl), rfl⟩
theorem dup_calls (n d : Int) (h1 : 1 ≤ n) (h2 : n ≤ 2000) (h3 : 1 ≤ d) (h4 : d ≤ 1000000) (w : World) : Calls Try.prog 54 #[.int .i64 n, .int .i64 d] w fun e w' => e = .returned (.int .i64 (upN n d)) ∧ w = w' := by
  have hr := upN_range h1 h2 h3
  have hu := upN_eq (n := n) (d := d) (by omega) h3
  have h5 := Int.tmod_nonneg d (show 0 ≤ n by omega)
  have h6 := Int.tmod_lt_of_pos n (show 0 < d by omega)
  have d1 : decide (d = 0) = false := decide_eq_false (by omega)
  have d1n : (d == 0) = false := by simp; omega
  have d2 : ¬ d = 0 := by omega
  by_cases hm : 0 < n.tmod d
  · rw [if_pos hm] at hu
    have hd : decide (0 < n.tmod d) = true := decide_eq_true hm
    rw [hu]
    obtain ⟨q, hq⟩ : ∃ q, q = n.tdiv d := ⟨_, rfl⟩
    obtain ⟨t, htm⟩ : ∃ t, t = n.tmod d := ⟨_, rfl⟩
    rw [← hq] at hu
    rw [← htm] at h5 h6 hm hd
    have hq1 : n.tdiv d = q := hq.symm
    have ht1 : n.tmod d = t := htm.symm
    have g1 : IntKind.i64.wrap (n.tdiv d) = q := by rw [hq1, IntKind.wrap_i64]; omega
    have g2 : wrap64 (n.tdiv d) = q := by rw [hq1]; exact w64_id (by omega) (by omega)
    have g3 : IntKind.i64.wrap (n.tmod d) = t := by rw [ht1, IntKind.wrap_i64]; omega
    have g4 : wrap64 (n.tmod d) = t := by rw [ht1]; exact w64_id (by omega) (by omega)
    have g5 : wrap64 (q + 1) = q + 1 := w64_id (by omega) (by omega)
    have g6 : wrap64 q = q := w64_id (by omega) (by omega)
    have g7 : wrap64 t = t := w64_id (by omega) (by omega)
    clear h1 h2 h3 h4 h5 h6 hr hm hq htm hu
    go_enter Try.func54, Try.ntmps54
    go_wp2_with fail
    go_ret
    exact ⟨by first | rfl | (simp only [g5, g6, hq1] <;> rfl), rfl⟩
  · rw [if_neg hm] at hu
    have hd : decide (0 < n.tmod d) = false := decide_eq_false hm
    rw [hu]
    obtain ⟨q, hq⟩ : ∃ q, q = n.tdiv d := ⟨_, rfl⟩
    obtain ⟨t, htm⟩ : ∃ t, t = n.tmod d := ⟨_, rfl⟩
    rw [← hq] at hu
    rw [← htm] at h5 h6 hm hd
    have hq1 : n.tdiv d = q := hq.symm
    have ht1 : n.tmod d = t := htm.symm
    have g1 : IntKind.i64.wrap (n.tdiv d) = q := by rw [hq1, IntKind.wrap_i64]; omega
    have g2 : wrap64 (n.tdiv d) = q := by rw [hq1]; exact w64_id (by omega) (by omega)
    have g3 : IntKind.i64.wrap (n.tmod d) = t := by rw [ht1, IntKind.wrap_i64]; omega
    have g4 : wrap64 (n.tmod d) = t := by rw [ht1]; exact w64_id (by omega) (by omega)
    have g6 : wrap64 q = q := w64_id (by omega) (by omega)
    have g7 : wrap64 t = t := w64_id (by omega) (by omega)
    clear h1 h2 h3 h4 h5 h6 hr hm hq htm hu
    go_enter Try.func54, Try.ntmps54
    go_wp2_with fail
    go_ret
    exact ⟨by first | rfl | (simp only [g6, hq1] <;> rfl), rfl⟩
/-- What a link may be. -/
def LkOk (rate most far : Int) : Prop := (1 ≤ rate ∧ rate ≤ 1000000) ∧ (1 ≤ most ∧ most ≤ 2000) ∧ (0 ≤ far ∧ far ≤ 100000)
instance (a b c : Int) : Decidable (LkOk a b c) := by unfold LkOk; infer_instance
theorem bLink_yes (rate most far : Int) (h : LkOk rate most far) (w : World) :
    Calls Try.prog 25 #[.int .i64 rate, .int .i64 most, .int .i64 far] w fun e w' => e = .returned (.tuple #[rtv most (upN most rate + 1 + far), .int .i64 0]) ∧ Fr0 w w' := by
  obtain ⟨h1, h2, h3⟩ := h
  have HU := Lib.hid (fun U => bup_calls most rate h2.1 h2.2 h1.1 h1.2 U)
  have hr := upN_range h2.1 h2.2 h1.1
  have HW := Lib.hid (fun n lo hi U => bwithin_calls n lo hi U)
  have e1 : decide (1 ≤ rate ∧ rate ≤ 1000000) = true := decide_eq_true h1
  have e2 : decide (1 ≤ most ∧ most ≤ 2000) = true := decide_eq_true h2
  have e3 : decide (0 ≤ far ∧ far ≤ 100000) = true := decide_eq_true h3
  generalize upN most rate = u at *
  have g1 : wrap64 (u + 1) = u + 1 := w64_id (by omega) (by omega)
  have g2 : wrap64 (u + 1 + far) = u + 1 + far := w64_id (by omega) (by omega)
  have HB := Lib.hid (heap_alloc_new w (.cells (rtc most (u + 1 + far)) 25))
  have HF := Lib.hid ((Fr.refl (fun _ => False) w).alloc (.cells (rtc most (u + 1 + far)) 25))
  obtain ⟨_, _, f0, f1⟩ := two_facts (heap_alloc_new w (.cells (rtc 0 0) 25))
  clear h1 h2 h3 hr
  go_enter Try.func25, Try.ntmps25
  go_wp2_with fail
  refine wp_scope_fwd 0 rfl ?_
  go_wp2_with (first
    | (go_at_call 34; (with_reducible refine (HW.out _ _ _ _).mono ?_); (first | rw [e1] | rw [e2] | rw [e3]); rintro _ _ ⟨rfl, rfl⟩)
    | (go_at_call 50; (with_reducible refine (HU.out _).mono ?_); rintro _ _ ⟨rfl, rfl⟩)
    | fail)
  rw [jump_ret]
  exact bodyPost_ret (results_row_tmp (p := 6) (u := 7) rfl _ _ w.heap.size _ _ _ _ rfl HB.out Try.underlying25 rfl (by kernel_rfl)) rfl ⟨rfl, HF.out⟩
theorem bLink_no (rate most far : Int) (h : ¬ LkOk rate most far) (w : World) :
    Calls Try.prog 25 #[.int .i64 rate, .int .i64 most, .int .i64 far] w fun e w' => e = .returned (.tuple #[rtv 0 0, .int .i64 2]) ∧ Fr0 w w' := by
  have HW := Lib.hid (fun n lo hi U => bwithin_calls n lo hi U)
  have HB := Lib.hid (heap_alloc_new w (.cells (rtc 0 0) 25))
  have HF := Lib.hid ((Fr.refl (fun _ => False) w).alloc (.cells (rtc 0 0) 25))
  obtain ⟨c0, c1, f0, f1⟩ := two_facts (heap_alloc_new w (.cells (rtc 0 0) 25))
  by_cases h1 : 1 ≤ rate ∧ rate ≤ 1000000
  · have e1 : decide (1 ≤ rate ∧ rate ≤ 1000000) = true := decide_eq_true h1
    by_cases h2 : 1 ≤ most ∧ most ≤ 2000
    · have e2 : decide (1 ≤ most ∧ most ≤ 2000) = true := decide_eq_true h2
      have e3 : decide (0 ≤ far ∧ far ≤ 100000) = false := decide_eq_false (fun h3 => h ⟨h1, h2, h3⟩)
      clear h h1 h2
      go_enter Try.func25, Try.ntmps25
      go_wp2_with fail
      refine wp_scope_fwd 0 rfl ?_
      go_wp2_with (first
        | (go_at_call 34; (with_reducible refine (HW.out _ _ _ _).mono ?_); (first | rw [e1] | rw [e2] | rw [e3]); rintro _ _ ⟨rfl, rfl⟩)
        | fail)
      apply wp_goto
      refine And.intro rfl ?_
      show Code.wp _ _ _ _ _
      go_wp2
      rw [Exit.noGoto_ret]
      exact bodyPost_ret (results_row_tmp (p := 6) (u := 7) rfl _ _ w.heap.size _ _ _ _ rfl HB.out Try.underlying25 rfl (by kernel_rfl)) rfl ⟨rfl, HF.out⟩
    · have e2 : decide (1 ≤ most ∧ most ≤ 2000) = false := decide_eq_false h2
      clear h h1 h2
      go_enter Try.func25, Try.ntmps25
      go_wp2_with fail
      refine wp_scope_fwd 0 rfl ?_
      go_wp2_with (first
        | (go_at_call 34; (with_reducible refine (HW.out _ _ _ _).mono ?_); (first | rw [e1] | rw [e2]); rintro _ _ ⟨rfl, rfl⟩)
        | fail)
      apply wp_goto
      refine And.intro rfl ?_
      show Code.wp _ _ _ _ _
      go_wp2
      rw [Exit.noGoto_ret]
      exact bodyPost_ret (results_row_tmp (p := 6) (u := 7) rfl _ _ w.heap.size _ _ _ _ rfl HB.out Try.underlying25 rfl (by kernel_rfl)) rfl ⟨rfl, HF.out⟩
  · have e1 : decide (1 ≤ rate ∧ rate ≤ 1000000) = false := decide_eq_false h1
    clear h h1
    go_enter Try.func25, Try.ntmps25
    go_wp2_with fail
    refine wp_scope_fwd 0 rfl ?_
    go_wp2_with (first
      | (go_at_call 34; (with_reducible refine (HW.out _ _ _ _).mono ?_); rw [e1]; rintro _ _ ⟨rfl, rfl⟩)
      | fail)
    apply wp_goto
    refine And.intro rfl ?_
    show Code.wp _ _ _ _ _
    go_wp2
    rw [Exit.noGoto_ret]
    exact bodyPost_ret (results_row_tmp (p := 6) (u := 7) rfl _ _ w.heap.size _ _ _ _ rfl HB.out Try.underlying25 rfl (by kernel_rfl)) rfl ⟨rfl, HF.out⟩
theorem dLink_yes (rate most far : Int) (h : LkOk rate most far) (w : World) :
    Calls Try.prog 27 #[.int .i64 rate, .int .i64 most, .int .i64 far] w fun e w' => e = .returned (.tuple #[rtv most (upN most rate + 1 + far), .bool true]) ∧ Fr0 w w' := by
  obtain ⟨h1, h2, h3⟩ := h
  have HU := Lib.hid (fun U => dup_calls most rate h2.1 h2.2 h1.1 h1.2 U)
  have hr := upN_range h2.1 h2.2 h1.1
  have e1 : decide (rate < 1) = false := decide_eq_false (by omega)
  have e2 : decide (1000000 < rate) = false := decide_eq_false (by omega)
  have e3 : decide (most < 1) = false := decide_eq_false (by omega)
  have e4 : decide (2000 < most) = false := decide_eq_false (by omega)
  have e5 : decide (far < 0) = false := decide_eq_false (by omega)
  have e6 : decide (100000 < far) = false := decide_eq_false (by omega)
  generalize upN most rate = u at *
  have g1 : wrap64 (u + 1) = u + 1 := w64_id (by omega) (by omega)
  have g2 : wrap64 (u + 1 + far) = u + 1 + far := w64_id (by omega) (by omega)
  have HB := Lib.hid (heap_alloc_new w (.cells (rtc most (u + 1 + far)) 25))
  have HF := Lib.hid ((Fr.refl (fun _ => False) w).alloc (.cells (rtc most (u + 1 + far)) 25))
  obtain ⟨_, _, f0, f1⟩ := two_facts (heap_alloc_new w (.cells (rtc 0 0) 25))
  clear h1 h2 h3 hr
  go_enter Try.func27, Try.ntmps27
  go_wp2_with (first
    | (go_at_call 54; (with_reducible refine (HU.out _).mono ?_); rintro _ _ ⟨rfl, rfl⟩)
    | fail)
  exact bodyPost_ret (results_row_tmp (p := 6) (u := 7) rfl _ _ w.heap.size _ _ _ _ rfl HB.out Try.underlying25 rfl (by kernel_rfl)) rfl ⟨rfl, HF.out⟩
theorem dLink_no (rate most far : Int) (h : ¬ LkOk rate most far) (w : World) :
    Calls Try.prog 27 #[.int .i64 rate, .int .i64 most, .int .i64 far] w fun e w' => e = .returned (.tuple #[rtv 0 0, .bool false]) ∧ Fr0 w w' := by
  have HB := Lib.hid (heap_alloc_new w (.cells (rtc 0 0) 25))
  have HF := Lib.hid ((Fr.refl (fun _ => False) w).alloc (.cells (rtc 0 0) 25))
  obtain ⟨c0, c1, f0, f1⟩ := two_facts (heap_alloc_new w (.cells (rtc 0 0) 25))
  by_cases h0 : rate < 1
  · have e0 : decide (rate < 1) = true := decide_eq_true h0
    clear h h0
    go_enter Try.func27, Try.ntmps27
    go_wp2_with fail
    exact bodyPost_ret (results_row_tmp (p := 6) (u := 7) rfl _ _ w.heap.size _ _ _ _ rfl HB.out Try.underlying25 rfl (by kernel_rfl)) rfl ⟨rfl, HF.out⟩
  have e0 : decide (rate < 1) = false := decide_eq_false h0
  by_cases h1 : 1000000 < rate
  · have e1 : decide (1000000 < rate) = true := decide_eq_true h1
    clear h h0 h1
    go_enter Try.func27, Try.ntmps27
    go_wp2_with fail
    exact bodyPost_ret (results_row_tmp (p := 6) (u := 7) rfl _ _ w.heap.size _ _ _ _ rfl HB.out Try.underlying25 rfl (by kernel_rfl)) rfl ⟨rfl, HF.out⟩
  have e1 : decide (1000000 < rate) = false := decide_eq_false h1
  by_cases h2 : most < 1
  · have e2 : decide (most < 1) = true := decide_eq_true h2
    clear h h0 h1 h2
    go_enter Try.func27, Try.ntmps27
    go_wp2_with fail
    exact bodyPost_ret (results_row_tmp (p := 6) (u := 7) rfl _ _ w.heap.size _ _ _ _ rfl HB.out Try.underlying25 rfl (by kernel_rfl)) rfl ⟨rfl, HF.out⟩
  have e2 : decide (most < 1) = false := decide_eq_false h2
  by_cases h3 : 2000 < most
  · have e3 : decide (2000 < most) = true := decide_eq_true h3
    clear h h0 h1 h2 h3
    go_enter Try.func27, Try.ntmps27
    go_wp2_with fail
    exact bodyPost_ret (results_row_tmp (p := 6) (u := 7) rfl _ _ w.heap.size _ _ _ _ rfl HB.out Try.underlying25 rfl (by kernel_rfl)) rfl ⟨rfl, HF.out⟩
  have e3 : decide (2000 < most) = false := decide_eq_false h3
  by_cases h4 : far < 0
  · have e4 : decide (far < 0) = true := decide_eq_true h4
    clear h h0 h1 h2 h3 h4
    go_enter Try.func27, Try.ntmps27
    go_wp2_with fail
    exact bodyPost_ret (results_row_tmp (p := 6) (u := 7) rfl _ _ w.heap.size _ _ _ _ rfl HB.out Try.underlying25 rfl (by kernel_rfl)) rfl ⟨rfl, HF.out⟩
  have e4 : decide (far < 0) = false := decide_eq_false h4
  by_cases h5 : 100000 < far
  · have e5 : decide (100000 < far) = true := decide_eq_true h5
    clear h h0 h1 h2 h3 h4 h5
    go_enter Try.func27, Try.ntmps27
    go_wp2_with fail
    exact bodyPost_ret (results_row_tmp (p := 6) (u := 7) rfl _ _ w.heap.size _ _ _ _ rfl HB.out Try.underlying25 rfl (by kernel_rfl)) rfl ⟨rfl, HF.out⟩
  have e5 : decide (100000 < far) = false := decide_eq_false h5
  exact absurd ⟨⟨by omega, by omega⟩, ⟨by omega, by omega⟩, ⟨by omega, by omega⟩⟩ h
end Go.Proofs.Ytjldogfpccbkeaa
