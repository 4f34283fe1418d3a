/- Chapter 01: Floor, Ceil. -/
import Derived.Test.YtdakeenjeieekaaRaV
set_option linter.unusedVariables false
set_option linter.unusedSimpArgs false
namespace Go.Proofs.Ytdakeenjeieekaa
open Go.RowKit
attribute [local go_sem] Oper.semAt_some

def chk (n d : Int) : Int := if RtOk n d then 0 else 2
def floorN (n d : Int) : Int := if RtOk n d then n / d else 0
def ceilN (n d : Int) : Int := if RtOk n d then -((-n) / d) else 0
theorem tdiv_floor {n d : Int} (hd : 1 ≤ d) : n / d = if n.tmod d < 0 then n.tdiv d - 1 else n.tdiv d := by
  have h1 := Int.tmod_add_mul_tdiv n d
  have h3 := Int.tmod_lt_of_pos n (show 0 < d by omega)
  have h4 : -d < n.tmod d := by
    have := Int.tmod_lt_of_pos (-n) (show 0 < d by omega)
    rw [Int.neg_tmod] at this
    omega
  split
  · rw [show n = (n.tmod d + d) + d * (n.tdiv d - 1) by rw [Int.mul_sub]; omega, Int.add_mul_ediv_left _ _ (by omega), Int.ediv_eq_zero_of_lt (by omega) (by omega)]
    rw [show (n.tmod d + d) + d * (n.tdiv d - 1) = n by rw [Int.mul_sub]; omega]
    omega
  · rw [show n = n.tmod d + d * n.tdiv d by omega, Int.add_mul_ediv_left _ _ (by omega), Int.ediv_eq_zero_of_lt (by omega) (by omega)]
    rw [show n.tmod d + d * n.tdiv d = n by omega]
    omega
theorem tdiv_ceil {n d : Int} (hd : 1 ≤ d) : -((-n) / d) = if 0 < n.tmod d then n.tdiv d + 1 else n.tdiv d := by
  rw [tdiv_floor hd, Int.neg_tmod, Int.neg_tdiv]
  split <;> split <;> omega
theorem tdiv_range {n d : Int} (hd : 1 ≤ d) (hn : I64r n) : I64r (n.tdiv d) := by
  have h := Int.natAbs_tdiv_le_natAbs n d
  obtain ⟨h1, h2⟩ := hn
  by_cases h0 : 0 ≤ n
  · have := Int.tdiv_nonneg h0 (show 0 ≤ d by omega)
    exact ⟨by omega, by omega⟩
  · exact ⟨by omega, by
      have := Int.tdiv_nonneg (show 0 ≤ -n by omega) (show 0 ≤ d by omega)
      rw [Int.neg_tdiv] at this
      omega⟩
theorem tmod_range {d : Int} (hd : 1 ≤ d) (h : I64r d) (n : Int) : I64r (n.tmod d) := by
  have h3 := Int.tmod_lt_of_pos n (show 0 < d by omega)
  have h4 : -d < n.tmod d := by
    have := Int.tmod_lt_of_pos (-n) (show 0 < d by omega)
    rw [Int.neg_tmod] at this
    omega
  exact ⟨by have := h.2; omega, by have := h.2; omega⟩
theorem wrap64_id {x : Int} (h : I64r x) : wrap64 x = x := by
  obtain ⟨h1, h2⟩ := h
  simp only [wrap64]; omega
theorem rfloor_calls (n d : Int) (hn : I64r n) (hd : I64r d) (w : World) : Calls Try.prog 16 #[rtv n d] w fun e w' => e = .returned (.tuple #[.int .i64 (floorN n d), .int .i64 (chk n d)]) ∧ Fr0 w w' := by
  have HC := Lib.hid (fun U => rcheck_calls n d hn hd U)
  have HF := Lib.hid ((Fr.refl (fun _ => False) w).alloc (.cells (rtc n d) 23))
  obtain ⟨c0, c1, _, _⟩ := two_facts (heap_alloc_new w (.cells (rtc n d) 23))
  have HK := Lib.hid (And.intro c0 c1)
  clear c0 c1
  unfold floorN chk
  by_cases hok : RtOk n d
  · rw [if_pos hok] at HC
    rw [if_pos hok, if_pos hok, tdiv_floor hok.1]
    have hr := tdiv_range hok.1 hn
    have d1 : decide (d = 0) = false := decide_eq_false (by have := hok.1; omega)
    have d1n : (d == 0) = false := by simp; have := hok.1; omega
    have d2 : ¬ d = 0 := by have := hok.1; omega
    have e1 : IntKind.i64.wrap (n.tdiv d) = n.tdiv d := by rw [IntKind.wrap_i64]; have := hr.1; have := hr.2; omega
    have hr2 := tmod_range hok.1 hd n
    have e2 : IntKind.i64.wrap (n.tmod d) = n.tmod d := by rw [IntKind.wrap_i64]; have := hr2.1; have := hr2.2; omega
    have e1w := wrap64_id hr
    have e2w := wrap64_id hr2
    have e3 : n.tmod d < 0 → wrap64 (n.tdiv d - 1) = n.tdiv d - 1 := by
      intro h
      refine wrap64_id ?_
      unfold I64r
      have h5 := Int.tmod_add_mul_tdiv n d
      have h6 : n.tdiv d ≠ -9223372036854775808 := by
        intro h7
        have := Int.natAbs_tdiv_le_natAbs n d
        have := hn.1; have := hn.2; have := hok.2.1; omega
      have := hr.1; have := hr.2; omega
    clear hok hr hr2
    by_cases hm : n.tmod d < 0
    · have e4 := e3 hm
      rw [if_pos hm]
      have hmd : decide (n.tmod d < 0) = true := decide_eq_true hm
      clear e3 hm
      go_enter Try.func16, Try.ntmps16
      go_wp2_with (first | (go_at_call 13; refine (HC.out _).mono ?_; rintro _ w3 ⟨rfl, hf3⟩; have c0 := hf3.cell HK.out.1 (fun h => h); have c1 := hf3.cell HK.out.2 (fun h => h)) | fail)
      go_ret2
      refine ⟨?_, HF.out.trans hf3⟩
      first
        | rfl
        | (show Ending.returned (.tuple #[.int .i64 (wrap64 (n.tdiv d - 1)), .int .i64 0]) = _; rw [e4])
    · rw [if_neg hm]
      have hmd : decide (n.tmod d < 0) = false := decide_eq_false hm
      clear e3 hm
      go_enter Try.func16, Try.ntmps16
      go_wp2_with (first | (go_at_call 13; refine (HC.out _).mono ?_; rintro _ w3 ⟨rfl, hf3⟩; have c0 := hf3.cell HK.out.1 (fun h => h); have c1 := hf3.cell HK.out.2 (fun h => h)) | fail)
      go_ret2
      exact ⟨rfl, HF.out.trans hf3⟩
  · rw [if_neg hok] at HC
    rw [if_neg hok, if_neg hok]
    clear hok
    go_enter Try.func16, Try.ntmps16
    go_wp2_with (first | (go_at_call 13; refine (HC.out _).mono ?_; rintro _ w3 ⟨rfl, hf3⟩) | fail)
    go_ret2
    exact ⟨rfl, HF.out.trans hf3⟩
theorem rceil_calls (n d : Int) (hn : I64r n) (hd : I64r d) (w : World) : Calls Try.prog 17 #[rtv n d] w fun e w' => e = .returned (.tuple #[.int .i64 (ceilN n d), .int .i64 (chk n d)]) ∧ Fr0 w w' := by
  have HC := Lib.hid (fun U => rcheck_calls n d hn hd U)
  have HF := Lib.hid ((Fr.refl (fun _ => False) w).alloc (.cells (rtc n d) 23))
  obtain ⟨c0, c1, _, _⟩ := two_facts (heap_alloc_new w (.cells (rtc n d) 23))
  have HK := Lib.hid (And.intro c0 c1)
  clear c0 c1
  unfold ceilN chk
  by_cases hok : RtOk n d
  · rw [if_pos hok] at HC
    rw [if_pos hok, if_pos hok, tdiv_ceil hok.1]
    have hr := tdiv_range hok.1 hn
    have d1 : decide (d = 0) = false := decide_eq_false (by have := hok.1; omega)
    have d1n : (d == 0) = false := by simp; have := hok.1; omega
    have d2 : ¬ d = 0 := by have := hok.1; omega
    have e1 : IntKind.i64.wrap (n.tdiv d) = n.tdiv d := by rw [IntKind.wrap_i64]; have := hr.1; have := hr.2; omega
    have hr2 := tmod_range hok.1 hd n
    have e2 : IntKind.i64.wrap (n.tmod d) = n.tmod d := by rw [IntKind.wrap_i64]; have := hr2.1; have := hr2.2; omega
    have e1w := wrap64_id hr
    have e2w := wrap64_id hr2
    have e3 : 0 < n.tmod d → wrap64 (n.tdiv d + 1) = n.tdiv d + 1 := by
      intro h
      refine wrap64_id ?_
      unfold I64r
      have h5 := Int.tmod_add_mul_tdiv n d
      have h6 : n.tdiv d ≠ 9223372036854775807 ∨ d = 1 := by
        by_cases hd1 : d = 1
        · exact .inr hd1
        · refine .inl fun h7 => ?_
          rw [h7] at h5
          have := hok.1; have := hn.2; omega
      rcases h6 with h6 | h6
      · have := hr.1; have := hr.2; omega
      · subst h6; rw [Int.tmod_one] at h; omega
    clear hok hr hr2
    by_cases hm : 0 < n.tmod d
    · have e4 := e3 hm
      rw [if_pos hm]
      have hmd : decide (0 < n.tmod d) = true := decide_eq_true hm
      clear e3 hm
      go_enter Try.func17, Try.ntmps17
      go_wp2_with (first | (go_at_call 13; refine (HC.out _).mono ?_; rintro _ w3 ⟨rfl, hf3⟩; have c0 := hf3.cell HK.out.1 (fun h => h); have c1 := hf3.cell HK.out.2 (fun h => h)) | fail)
      go_ret2
      refine ⟨?_, HF.out.trans hf3⟩
      first
        | rfl
        | (show Ending.returned (.tuple #[.int .i64 (wrap64 (n.tdiv d + 1)), .int .i64 0]) = _; rw [e4])
    · rw [if_neg hm]
      have hmd : decide (0 < n.tmod d) = false := decide_eq_false hm
      clear e3 hm
      go_enter Try.func17, Try.ntmps17
      go_wp2_with (first | (go_at_call 13; refine (HC.out _).mono ?_; rintro _ w3 ⟨rfl, hf3⟩; have c0 := hf3.cell HK.out.1 (fun h => h); have c1 := hf3.cell HK.out.2 (fun h => h)) | fail)
      go_ret2
      exact ⟨rfl, HF.out.trans hf3⟩
  · rw [if_neg hok] at HC
    rw [if_neg hok, if_neg hok]
    clear hok
    go_enter Try.func17, Try.ntmps17
    go_wp2_with (first | (go_at_call 13; refine (HC.out _).mono ?_; rintro _ w3 ⟨rfl, hf3⟩) | fail)
    go_ret2
    exact ⟨rfl, HF.out.trans hf3⟩
end Go.Proofs.Ytdakeenjeieekaa
