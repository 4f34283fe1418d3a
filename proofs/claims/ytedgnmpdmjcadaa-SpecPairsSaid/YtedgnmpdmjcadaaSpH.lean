/- The statement SpecAllows walked. -/
import Derived.Test.YtedgnmpdmjcadaaSpO
set_option linter.unusedVariables false
set_option linter.unusedSimpArgs false
namespace Go.Proofs.Ytedgnmpdmjcadaa
open Go.RowKit

theorem alw_mono {s : Sp} (h : s.Right) {t u : Int} (h0 : 0 ≤ t) (h1 : t ≤ u) : alw s t ≤ alw s u := by
  obtain ⟨q1, q2, q3, q4, q5, q6, q7, q8⟩ := h
  have a := Int.mul_le_mul_of_nonneg_left h1 (show 0 ≤ s.peak by omega)
  have b := Int.mul_le_mul_of_nonneg_left h1 (show 0 ≤ s.rate by omega)
  unfold alw
  omega
theorem alw_sub {s : Sp} (h : s.Right) {a b : Int} (h0 : 0 ≤ a) (h1 : 0 ≤ b) : alw s (a + b) ≤ alw s a + alw s b := by
  obtain ⟨q1, q2, q3, q4, q5, q6, q7, q8⟩ := h
  have e1 : s.peak * (a + b) = s.peak * a + s.peak * b := Int.mul_add ..
  have e2 : s.rate * (a + b) = s.rate * a + s.rate * b := Int.mul_add ..
  have x := Int.mul_le_mul_of_nonneg_right q2 h0
  have y := Int.mul_le_mul_of_nonneg_right q2 h1
  have z1 := Int.mul_nonneg (show 0 ≤ s.rate by omega) h0
  have z2 := Int.mul_nonneg (show 0 ≤ s.rate by omega) h1
  unfold alw
  rw [e1, e2]
  omega

set_option maxHeartbeats 1000000 in
theorem allows_walk (s : Sp) (a b : Int) (w : World) (ha : -9223372036854775808 ≤ a ∧ a ≤ 9223372036854775807) (hb : -9223372036854775808 ≤ b ∧ b ≤ 9223372036854775807) :
    Calls Try.prog 4 #[spv s, .int .i64 a, .int .i64 b] w (Good' w) := by
  have HI := Lib.hid (InS.start w s)
  have HA := Lib.hid (fun t w => allowsx_calls s t w)
  have HRR := Lib.hid (rright_calls s)
  have HKN := Lib.hid (known_calls)
  by_cases hok : s.Right ∧ 0 ≤ a ∧ a ≤ 2147483647
  · obtain ⟨hr, a0, a1⟩ := hok
    have HA1 := Lib.hid (HA.out a)
    rw [if_pos ⟨hr, a0, a1⟩] at HA1
    rw [decide_eq_true hr] at HRR
    have HRA := Lib.hid (fun w => rallows_calls s a w hr a0 a1)
    have ra := alw_range hr a0 a1
    by_cases hb2 : 0 ≤ b ∧ b ≤ 2147483647 - a
    · have HA2 := Lib.hid (HA.out b)
      rw [if_pos ⟨hr, hb2.1, by omega⟩] at HA2
      have HA3 := Lib.hid (HA.out (a + b))
      rw [if_pos ⟨hr, by omega, by omega⟩] at HA3
      have rb := alw_range hr hb2.1 (show b ≤ 2147483647 by omega)
      have rc := alw_range hr (show 0 ≤ a + b by omega) (show a + b ≤ 2147483647 by omega)
      have k1 := alw_sub hr a0 hb2.1
      have k2 := alw_mono hr a0 (show a ≤ a + b by omega)
      generalize alw s (a + b) = vc at *
      generalize alw s a = va at *
      generalize alw s b = vb at *
      go_enter Try.func4, Try.ntmps4
      go_wp2_with fail
      generalize w.alloc (.cells #[.int .i64 s.peak, .int .i64 s.rate, .int .i64 s.burst, .int .i64 s.most, .int .i64 s.least] 23) = w1 at *
      refine (HA1.out _).mono ?_
      rintro e w2 ⟨rfl, hf2⟩
      have HI := Lib.hid (HI.out.step hf2)
      obtain ⟨b0, b1, b2, b3, b4⟩ := HI.out.cells
      clear hf2
      go_wp2_with (first
        | (go_at_call 13; refine (HRR.out _).mono ?_; rintro e wk ⟨rfl, hf⟩; have HI := Lib.hid (HI.out.step hf); clear b0 b1 b2 b3 b4; obtain ⟨b0, b1, b2, b3, b4⟩ := HI.out.cells; clear hf)
        | (go_at_call 18; refine (HRA.out _).mono ?_; rintro e wk ⟨rfl, hf⟩; have HI := Lib.hid (HI.out.step hf); clear b0 b1 b2 b3 b4; obtain ⟨b0, b1, b2, b3, b4⟩ := HI.out.cells; clear hf))
      refine (HA2.out _).mono ?_
      rintro e w5 ⟨rfl, hf5⟩
      have HI := Lib.hid (HI.out.step hf5)
      clear b0 b1 b2 b3 b4
      obtain ⟨b0, b1, b2, b3, b4⟩ := HI.out.cells
      clear hf5
      go_wp2_with fail
      refine (HA3.out _).mono ?_
      rintro e w6 ⟨rfl, hf6⟩
      have HI := Lib.hid (HI.out.step hf6)
      clear b0 b1 b2 b3 b4 hf6
      have d1 : decide (vc ≤ va + vb) = true := decide_eq_true k1
      have d2 : decide (va ≤ vc) = true := decide_eq_true k2
      go_wp2_with (first
        | (go_at_call 10; refine (HKN.out _).mono ?_; rintro e wk ⟨rfl, hf⟩; have HI := Lib.hid (HI.out.step hf); clear hf))
      go_ret
      exact ⟨rfl, HI.out.2⟩
    · have hb3 : b < 0 ∨ 2147483647 - a < b := by omega
      generalize alw s a = va at *
      go_enter Try.func4, Try.ntmps4
      go_wp2_with fail
      generalize w.alloc (.cells #[.int .i64 s.peak, .int .i64 s.rate, .int .i64 s.burst, .int .i64 s.most, .int .i64 s.least] 23) = w1 at *
      refine (HA1.out _).mono ?_
      rintro e w2 ⟨rfl, hf2⟩
      have HI := Lib.hid (HI.out.step hf2)
      obtain ⟨b0, b1, b2, b3, b4⟩ := HI.out.cells
      clear hf2
      by_cases hb4 : b < 0
      all_goals
        go_wp2_with (first
          | (go_at_call 13; refine (HRR.out _).mono ?_; rintro e wk ⟨rfl, hf⟩; have HI := Lib.hid (HI.out.step hf); clear b0 b1 b2 b3 b4; obtain ⟨b0, b1, b2, b3, b4⟩ := HI.out.cells; clear hf)
          | (go_at_call 18; refine (HRA.out _).mono ?_; rintro e wk ⟨rfl, hf⟩; have HI := Lib.hid (HI.out.step hf); clear b0 b1 b2 b3 b4; obtain ⟨b0, b1, b2, b3, b4⟩ := HI.out.cells; clear hf)
          | (go_at_call 10; refine (HKN.out _).mono ?_; rintro e wk ⟨rfl, hf⟩; have HI := Lib.hid (HI.out.step hf); clear b0 b1 b2 b3 b4; obtain ⟨b0, b1, b2, b3, b4⟩ := HI.out.cells; clear hf))
        go_ret
        exact ⟨rfl, HI.out.2⟩
  · have HA1 := Lib.hid (HA.out a)
    rw [if_neg hok] at HA1
    by_cases hr : s.Right
    · rw [decide_eq_true hr] at HRR
      by_cases ha0 : a < 0
      · go_enter Try.func4, Try.ntmps4
        go_wp2_with (first
          | (go_at_call 17; refine (HA1.out _).mono ?_; rintro e wk ⟨rfl, hf⟩; have HI := Lib.hid (HI.out.step hf); obtain ⟨b0, b1, b2, b3, b4⟩ := HI.out.cells; clear hf)
          | (go_at_call 13; refine (HRR.out _).mono ?_; rintro e wk ⟨rfl, hf⟩; have HI := Lib.hid (HI.out.step hf); clear b0 b1 b2 b3 b4; obtain ⟨b0, b1, b2, b3, b4⟩ := HI.out.cells; clear hf)
          | (go_at_call 10; refine (HKN.out _).mono ?_; rintro e wk ⟨rfl, hf⟩; have HI := Lib.hid (HI.out.step hf); clear b0 b1 b2 b3 b4; obtain ⟨b0, b1, b2, b3, b4⟩ := HI.out.cells; clear hf))
        go_ret
        exact ⟨rfl, HI.out.2⟩
      · have ha1 : 2147483647 < a := Int.not_le.1 (fun h => hok ⟨hr, by omega, h⟩)
        go_enter Try.func4, Try.ntmps4
        go_wp2_with (first
          | (go_at_call 17; refine (HA1.out _).mono ?_; rintro e wk ⟨rfl, hf⟩; have HI := Lib.hid (HI.out.step hf); obtain ⟨b0, b1, b2, b3, b4⟩ := HI.out.cells; clear hf)
          | (go_at_call 13; refine (HRR.out _).mono ?_; rintro e wk ⟨rfl, hf⟩; have HI := Lib.hid (HI.out.step hf); clear b0 b1 b2 b3 b4; obtain ⟨b0, b1, b2, b3, b4⟩ := HI.out.cells; clear hf)
          | (go_at_call 10; refine (HKN.out _).mono ?_; rintro e wk ⟨rfl, hf⟩; have HI := Lib.hid (HI.out.step hf); clear b0 b1 b2 b3 b4; obtain ⟨b0, b1, b2, b3, b4⟩ := HI.out.cells; clear hf))
        go_ret
        exact ⟨rfl, HI.out.2⟩
    · rw [decide_eq_false hr] at HRR
      go_enter Try.func4, Try.ntmps4
      go_wp2_with (first
        | (go_at_call 17; refine (HA1.out _).mono ?_; rintro e wk ⟨rfl, hf⟩; have HI := Lib.hid (HI.out.step hf); obtain ⟨b0, b1, b2, b3, b4⟩ := HI.out.cells; clear hf)
        | (go_at_call 13; refine (HRR.out _).mono ?_; rintro e wk ⟨rfl, hf⟩; have HI := Lib.hid (HI.out.step hf); clear b0 b1 b2 b3 b4; obtain ⟨b0, b1, b2, b3, b4⟩ := HI.out.cells; clear hf)
        | (go_at_call 10; refine (HKN.out _).mono ?_; rintro e wk ⟨rfl, hf⟩; have HI := Lib.hid (HI.out.step hf); clear b0 b1 b2 b3 b4; obtain ⟨b0, b1, b2, b3, b4⟩ := HI.out.cells; clear hf))
      go_ret
      exact ⟨rfl, HI.out.2⟩
end Go.Proofs.Ytedgnmpdmjcadaa
