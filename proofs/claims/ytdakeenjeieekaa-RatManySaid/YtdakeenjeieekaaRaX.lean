/- Chapter 01: known. -/
import Derived.Test.YtdakeenjeieekaaRaW
set_option linter.unusedVariables false
set_option linter.unusedSimpArgs false
namespace Go.Proofs.Ytdakeenjeieekaa
open Go.RowKit
attribute [local go_sem] Oper.semAt_some

theorem eq_rat (a b c d : Int) (w : World) : (Op.equalIn 10000 23 (.agg #[.int .i64 a, .int .i64 b]) (.agg #[.int .i64 c, .int .i64 d])).run Try.prog w = .ok (decide (a = c ∧ b = d)) w := by
  have h23 := Try.underlying23
  have h2 := Try.underlying2
  rw [show (10000 : Nat) = 9999 + 1 from rfl]
  simp [go_sem, Op.eqItems, h23, h2]
  by_cases h1 : a = c <;> by_cases h2 : b = d <;> simp [h1, h2]
theorem kn_add : twoR (1, 2) (1, 3) (rR (rq 1 2 + rq 1 3)) = .ok (5, 6) := by kernel_rfl
theorem kn_make : makeR 6 (-4) = .ok (-3, 2) := by kernel_rfl
theorem known_calls (w : World) : Calls Try.prog 15 #[] w fun e w' => e = .returned (.bool true) ∧ Fr0 w w' := by
  have HA := Lib.hid (fun U => radd_calls (1, 2) (1, 3) ⟨by unfold I64r; simp, by unfold I64r; simp⟩ ⟨by unfold I64r; simp, by unfold I64r; simp⟩ U)
  have HL := Lib.hid (fun U => rfloor_calls (-3) 2 (by unfold I64r; omega) (by unfold I64r; omega) U)
  have HM := Lib.hid (fun U => rMake_calls 6 (-4) (by unfold I64r; omega) (by unfold I64r; omega) U)
  rw [kn_add] at HA
  rw [kn_make] at HM
  rw [show floorN (-3) 2 = -2 by decide +kernel, show chk (-3) 2 = 0 by decide +kernel] at HL
  change Hid (∀ U, Calls Try.prog _ #[rtv 1 2, rtv 1 3] U fun e w' => e = .returned (.tuple #[rtv 5 6, .int .i64 0]) ∧ Fr0 U w') at HA
  change Hid (∀ U, Calls Try.prog _ _ U fun e w' => e = .returned (.tuple #[rtv (-3) 2, .int .i64 0]) ∧ Fr0 U w') at HM
  have q1 : ∀ U, (Op.equalIn 10000 23 (rtv 5 6) (rtv 5 6)).run Try.prog U = .ok true U := fun U => by rw [eq_rat]; rfl
  have q2 : ∀ U, (Op.equalIn 10000 23 (rtv (-3) 2) (rtv (-3) 2)).run Try.prog U = .ok true U := fun U => by rw [eq_rat]; rfl
  go_enter Try.func15, Try.ntmps15
  go_wp2_with (first
    | (go_at_call 18; refine (HA.out _).mono ?_; rintro _ w3 ⟨rfl, hf3⟩; have hb3 := heap_alloc_new w3 (.cells (rtc 5 6) 23))
    | (go_at_call 16; refine (HL.out _).mono ?_; rintro _ w4 ⟨rfl, hf4⟩)
    | (go_at_call 11; refine (HM.out _).mono ?_; rintro _ w5 ⟨rfl, hf5⟩; obtain ⟨c0, c1, _, _⟩ := two_facts (blk_alloc ((hf4.trans hf5).blk hb3 (fun h => h)) (.cells (rtc (-3) 2) 23)); obtain ⟨d0, d1, _, _⟩ := two_facts (heap_alloc_new w5 (.cells (rtc (-3) 2) 23)))
    | fail)
  go_ret
  exact ⟨rfl, (((hf3.alloc _).trans hf4).trans hf5).alloc _⟩
end Go.Proofs.Ytdakeenjeieekaa
