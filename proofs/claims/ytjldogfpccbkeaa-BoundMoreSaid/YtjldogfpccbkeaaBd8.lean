/- Chapter 05: what every statement asks at its end. -/
import Derived.Test.YtjldogfpccbkeaaBd5
import Derived.Test.YtjldogfpccbkeaaBd6
import Derived.Test.YtjldogfpccbkeaaM4
set_option linter.unusedVariables false
set_option linter.unusedSimpArgs false
namespace Go.Proofs.Ytjldogfpccbkeaa
open Go.RowKit
attribute [local go_sem] Oper.semAt_some

theorem eq_tm (a b c d : Int) (w : World) : (Op.equalIn 10000 25 (.agg #[.int .i64 a, .int .i64 b]) (.agg #[.int .i64 c, .int .i64 d])).run Try.prog w = .ok (decide (a = c ∧ b = d)) w := by
  have h23 := Try.underlying25
  have h2 := Try.underlying2
  rw [show (10000 : Nat) = 9999 + 1 from rfl]
  simp [go_sem, Op.eqItems, h23, h2]
  by_cases h1 : a = c <;> by_cases h2 : b = d <;> simp [h1, h2]
abbrev sp0 : Sp := ⟨10, 2, 20, 8, 1⟩
theorem sp0_may {r : Int} (h1 : 2 ≤ r) (h2 : r ≤ 1000000) : MayP sp0 r 8 3 := ⟨⟨by decide, by decide, by decide, by decide, by decide, by decide, by decide, by decide⟩, ⟨by decide, by decide, by decide, by decide⟩, h1, h2⟩
theorem kn_bq : (bqs sp0 4 8 3).num = 37 ∧ ((bqs sp0 4 8 3).den : Int) = 4 := by constructor <;> kernel_rfl
theorem kn_t4 : tks sp0 4 8 3 = 10 := by kernel_rfl
theorem kn_t3 : tks sp0 3 8 3 = 12 := by kernel_rfl
theorem kn_t2 : tks sp0 2 8 3 = 17 := by kernel_rfl
theorem kn_tm : tks sp0 1000000 8 3 = 4 := by kernel_rfl
theorem kn_rate {v k : Int} (h : RateR sp0 8 3 10 v k) : v = 4 ∧ k = 0 := by
  have hm := sp0_may (r := 4) (by omega) (by omega)
  rcases h with ⟨h, _, _⟩ | ⟨_, _, _, h, _, _⟩ | ⟨_, _, _, hk, h1, h2, h3, h4⟩
  · exact absurd ⟨hm.sr, hm.tm, by omega⟩ h
  · rw [kn_tm] at h; omega
  · refine ⟨?_, hk⟩
    have h5 : ¬ 4 < v := fun hv => by have := h4 4 (by decide) hv; rw [kn_t4] at this; omega
    have h6 : v ≠ 3 := fun hv => by rw [hv, kn_t3] at h3; omega
    have h7 : v ≠ 2 := fun hv => by rw [hv, kn_t2] at h3; omega
    have h8 : (2 : Int) ≤ v := h1
    omega
theorem some5_calls (w : World) : Calls Try.prog 36 #[] w fun e w' => e = .returned (spv sp0) ∧ Fr0 w w' := by
  have HB := Lib.hid (heap_alloc_new w (.cells (spc sp0) 23))
  have HF := Lib.hid ((Fr.refl (fun _ => False) w).alloc (.cells (spc sp0) 23))
  have hz := heap_alloc_new w (.cells (spc ⟨0, 0, 0, 0, 0⟩) 23)
  have f0 := free_of_blk hz 0
  have f1 := free_of_blk hz 1
  have f2 := free_of_blk hz 2
  have f3 := free_of_blk hz 3
  have f4 := free_of_blk hz 4
  clear hz
  go_enter Try.func36, Try.ntmps36
  go_wp2_with fail
  exact bodyPost_ret (results_cell_row rfl _ _ w.heap.size _ _ _ _ rfl HB.out Try.underlying23 rfl (by kernel_rfl)) rfl ⟨rfl, HF.out⟩
set_option maxHeartbeats 2000000 in
theorem known5_calls (w : World) : Calls Try.prog 14 #[] w fun e w' => e = .returned (.bool true) ∧ Fr0 w w' := by
  have HS := Lib.hid some5_calls
  have HL := Lib.hid (fun U => bLink_yes 3 8 2 ⟨by decide, by decide, by decide⟩ U)
  rw [show upN 8 3 + 1 + 2 = 6 by decide] at HL
  have hm := sp0_may (r := 4) (by omega) (by omega)
  have HB := Lib.hid (fun U => bBound_yes sp0 4 8 3 hm U)
  rw [kn_bq.1, kn_bq.2] at HB
  have HR := Lib.hid (fun U => bRoom_yes sp0 4 8 3 hm U)
  rw [show roomV sp0 4 8 3 = 40 by unfold roomV; rw [kn_t4]; rfl, if_neg (by decide), if_neg (by decide)] at HR
  have HRT : Hid (∀ U, Calls Try.prog 26 #[spv sp0, rtv 8 3, .int .i64 10] U fun e w' => e = .returned (.tuple #[.int .i64 4, .int .i64 0]) ∧ Fr0 U w') := fun U =>
    (bRate_calls sp0 8 3 10 U).mono (fun e V h => by
      obtain ⟨⟨v, k, rfl, hr⟩, hf⟩ := h
      obtain ⟨rfl, rfl⟩ := kn_rate hr
      exact ⟨rfl, hf⟩)
  have HF := Lib.hid (Fr.refl (fun _ => False) w)
  have heq := fun (U : World) => eq_rat 37 4 37 4 U
  have heqt := fun (U : World) => eq_tm 8 6 8 6 U
  simp only [and_self, decide_true] at heq heqt
  clear hm
  go_enter Try.func14, Try.ntmps14
  go_wp2_with (first
    | (go_at_call 25; (with_reducible refine (HL.out _).mono ?_); rintro _ w1 ⟨rfl, hf1⟩; have K1 := Lib.hid (heap_alloc_new w1 (.cells (rtc 8 6) 25)); have F1 := Lib.hid ((HF.out.trans hf1).alloc (.cells (rtc 8 6) 25)))
    | (go_at_call 8; (with_reducible refine (HB.out _).mono ?_); rintro _ w3 ⟨rfl, hf3⟩; have K3 := Lib.hid (heap_alloc_new w3 (.cells (rtc 37 4) 27)); have K13 := Lib.hid (blk_alloc (hf3.blk K12.out (fun h => h)) (.cells (rtc 37 4) 27)); have F3 := Lib.hid ((F2.out.trans hf3).alloc (.cells (rtc 37 4) 27)))
    | (go_at_call 10; (with_reducible refine (HR.out _).mono ?_); rintro _ w5 ⟨rfl, hf5⟩; have K15 := Lib.hid (hf5.blk K14.out (fun h => h)); have K35 := Lib.hid (hf5.blk K34.out (fun h => h)); have F5 := Lib.hid (F4.out.trans hf5))
    | (go_at_call 26; (with_reducible refine (HRT.out _).mono ?_); rintro _ w7 ⟨rfl, hf7⟩; have F7 := Lib.hid (F6.out.trans hf7); obtain ⟨_, _, _, _⟩ := two_facts (hf7.blk K16.out (fun h => h)); obtain ⟨_, _, _, _⟩ := two_facts (hf7.blk K36.out (fun h => h)))
    | (go_at_call 36; (with_reducible refine (HS.out _).mono ?_); rintro _ w6 ⟨rfl, hf6⟩; have K16 := Lib.hid (hf6.blk K15.out (fun h => h)); have K36 := Lib.hid (hf6.blk K35.out (fun h => h)); have F6 := Lib.hid (F5.out.trans hf6))
    | (go_at_call 36; (with_reducible refine (HS.out _).mono ?_); rintro _ w4 ⟨rfl, hf4⟩; have K14 := Lib.hid (hf4.blk K13.out (fun h => h)); have K34 := Lib.hid (hf4.blk K3.out (fun h => h)); have F4 := Lib.hid (F3.out.trans hf4))
    | (go_at_call 36; (with_reducible refine (HS.out _).mono ?_); rintro _ w2 ⟨rfl, hf2⟩; have K12 := Lib.hid (hf2.blk K1.out (fun h => h)); have F2 := Lib.hid (F1.out.trans hf2))
    | fail)
  go_ret
  exact ⟨rfl, F7.out⟩
end Go.Proofs.Ytjldogfpccbkeaa
