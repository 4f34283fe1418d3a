/- Chapter 05: BoundWays walked (written by genBdW.py). -/
import Derived.Test.YtjldogfpccbkeaaBd7
import Derived.Test.YtjldogfpccbkeaaBd8
set_option linter.unusedVariables false
set_option linter.unusedSimpArgs false
namespace Go.Proofs.Ytjldogfpccbkeaa
open Go.RowKit
attribute [local go_sem] Oper.semAt_some

theorem ways_long (A : Option Addr) (c : Nat) (l : List (Int × Int)) (x0 x1 x2 : Int) (w : World) (h : 30 < l.length) : Calls Try.prog 6 #[.agg #[.int .i64 x0, .int .i64 x1, .int .i64 x2], .slice A l.length c] w fun e w' => e = .returned (.bool true) ∧ Fr0 w w' := by
  have h1 : decide (30 < l.length) = true := decide_eq_true h
  have h2 : decide ((30 : Int) < (l.length : Int)) = true := decide_eq_true (by omega)
  have HK := Lib.hid known5_calls
  have HF := Lib.hid ((Fr.refl (fun _ => False) w).alloc (.cells #[.int .i64 x0, .int .i64 x1, .int .i64 x2] 57))
  clear h
  go_enter Try.func6, Try.ntmps6
  go_wp2_with (first | (go_at_call 14; (with_reducible refine (HK.out _).mono ?_); rintro _ w3 ⟨rfl, hf3⟩) | fail)
  go_ret
  exact ⟨rfl, HF.out.trans hf3⟩
set_option maxHeartbeats 4000000 in
theorem ways_yes (A : Option Addr) (c : Nat) (l : List (Int × Int)) (x0 x1 x2 a1 b1 a2 b2 k2 : Int) (w : World) (h30 : l.length ≤ 30)
    (HL : Hid (∀ U, Calls Try.prog 25 #[.int .i64 x0, .int .i64 x1, .int .i64 x2] U fun e w' => e = .returned (.tuple #[rtv a1 b1, .int .i64 0]) ∧ Fr0 U w'))
    (HD : Hid (∀ U, Calls Try.prog 27 #[.int .i64 x0, .int .i64 x1, .int .i64 x2] U fun e w' => e = .returned (.tuple #[rtv a1 b1, .bool true]) ∧ Fr0 U w'))
    (HW : Hid (∀ U, Fr0 w U → Calls Try.prog 28 #[.slice A l.length c] U fun e w' => e = .returned (.tuple #[rtv a2 b2, .int .i64 k2]) ∧ Fr0 U w'))
    (HV : Hid (∀ U, Fr0 w U → Calls Try.prog 29 #[.slice A l.length c] U fun e w' => e = .returned (.tuple #[rtv a2 b2, .int .i64 k2]) ∧ Fr0 U w'))
    : Calls Try.prog 6 #[.agg #[.int .i64 x0, .int .i64 x1, .int .i64 x2], .slice A l.length c] w fun e w' => e = .returned (.bool true) ∧ Fr0 w w' := by
  have h1 : decide (30 < l.length) = false := decide_eq_false (by omega)
  have h2 : decide ((30 : Int) < (l.length : Int)) = false := decide_eq_false (by omega)
  have HK := Lib.hid known5_calls
  have heq := fun (x y : Int) (U : World) => eq_tm x y x y U
  simp only [and_self, decide_true] at heq
  have heq1 := heq a1 b1
  have heq2 := heq a2 b2
  clear heq
  have KX0 := Lib.hid (heap_alloc_new w (.cells #[.int .i64 x0, .int .i64 x1, .int .i64 x2] 57))
  have KF0 := Lib.hid ((Fr.refl (fun _ => False) w).alloc (.cells #[.int .i64 x0, .int .i64 x1, .int .i64 x2] 57))
  have zX0 := cell_of_blk KX0.out 0; have zX1 := cell_of_blk KX0.out 1; have zX2 := cell_of_blk KX0.out 2
  clear h30
  go_enter Try.func6, Try.ntmps6
  go_wp2_with (first
    | (go_at_call 25; (with_reducible refine (HL.out _).mono ?_); rintro _ v1 ⟨rfl, hf1⟩; have KX1 := Lib.hid (blk_alloc (hf1.blk KX0.out (fun h => h)) (.cells (rtc a1 b1) 25)); have K11 := Lib.hid (heap_alloc_new v1 (.cells (rtc a1 b1) 25)); have KF1 := Lib.hid ((KF0.out.trans hf1).alloc (.cells (rtc a1 b1) 25)); clear KX0 KF0 hf1; have zX0 := cell_of_blk KX1.out 0; have zX1 := cell_of_blk KX1.out 1; have zX2 := cell_of_blk KX1.out 2)
    | (go_at_call 27; (with_reducible refine (HD.out _).mono ?_); rintro _ v2 ⟨rfl, hf2⟩; have KX2 := Lib.hid (blk_alloc (hf2.blk KX1.out (fun h => h)) (.cells (rtc a1 b1) 25)); have K12 := Lib.hid (blk_alloc (hf2.blk K11.out (fun h => h)) (.cells (rtc a1 b1) 25)); have K22 := Lib.hid (heap_alloc_new v2 (.cells (rtc a1 b1) 25)); have KF2 := Lib.hid ((KF1.out.trans hf2).alloc (.cells (rtc a1 b1) 25)); clear KX1 K11 KF1 hf2)
    | (go_at_call 28; (with_reducible refine (HW.out _ KF2.out).mono ?_); rintro _ v3 ⟨rfl, hf3⟩; have KX3 := Lib.hid (blk_alloc (hf3.blk KX2.out (fun h => h)) (.cells (rtc a2 b2) 25)); have K13 := Lib.hid (blk_alloc (hf3.blk K12.out (fun h => h)) (.cells (rtc a2 b2) 25)); have K23 := Lib.hid (blk_alloc (hf3.blk K22.out (fun h => h)) (.cells (rtc a2 b2) 25)); have K33 := Lib.hid (heap_alloc_new v3 (.cells (rtc a2 b2) 25)); have KF3 := Lib.hid ((KF2.out.trans hf3).alloc (.cells (rtc a2 b2) 25)); clear KX2 K12 K22 KF2 hf3)
    | (go_at_call 29; (with_reducible refine (HV.out _ KF3.out).mono ?_); rintro _ v4 ⟨rfl, hf4⟩; have KX4 := Lib.hid (blk_alloc (hf4.blk KX3.out (fun h => h)) (.cells (rtc a2 b2) 25)); have K14 := Lib.hid (blk_alloc (hf4.blk K13.out (fun h => h)) (.cells (rtc a2 b2) 25)); have K24 := Lib.hid (blk_alloc (hf4.blk K23.out (fun h => h)) (.cells (rtc a2 b2) 25)); have K34 := Lib.hid (blk_alloc (hf4.blk K33.out (fun h => h)) (.cells (rtc a2 b2) 25)); have K44 := Lib.hid (heap_alloc_new v4 (.cells (rtc a2 b2) 25)); have KF4 := Lib.hid ((KF3.out.trans hf4).alloc (.cells (rtc a2 b2) 25)); clear KX3 K13 K23 K33 KF3 hf4; obtain ⟨_, _, _, _⟩ := two_facts K14.out; obtain ⟨_, _, _, _⟩ := two_facts K24.out; obtain ⟨_, _, _, _⟩ := two_facts K34.out; obtain ⟨_, _, _, _⟩ := two_facts K44.out)
    | (go_at_call 14; (with_reducible refine (HK.out _).mono ?_); rintro _ v5 ⟨rfl, hf5⟩; have KX5 := Lib.hid (hf5.blk KX4.out (fun h => h)); have K15 := Lib.hid (hf5.blk K14.out (fun h => h)); have K25 := Lib.hid (hf5.blk K24.out (fun h => h)); have K35 := Lib.hid (hf5.blk K34.out (fun h => h)); have K45 := Lib.hid (hf5.blk K44.out (fun h => h)); have KF5 := Lib.hid (KF4.out.trans hf5); clear KX4 K14 K24 K34 K44 KF4 hf5)
    | fail)
  go_ret
  exact ⟨rfl, KF5.out⟩
set_option maxHeartbeats 4000000 in
theorem ways_no (A : Option Addr) (c : Nat) (l : List (Int × Int)) (x0 x1 x2 a1 b1 a2 b2 k2 : Int) (w : World) (h30 : l.length ≤ 30)
    (HL : Hid (∀ U, Calls Try.prog 25 #[.int .i64 x0, .int .i64 x1, .int .i64 x2] U fun e w' => e = .returned (.tuple #[rtv a1 b1, .int .i64 2]) ∧ Fr0 U w'))
    (HD : Hid (∀ U, Calls Try.prog 27 #[.int .i64 x0, .int .i64 x1, .int .i64 x2] U fun e w' => e = .returned (.tuple #[rtv a1 b1, .bool false]) ∧ Fr0 U w'))
    (HW : Hid (∀ U, Fr0 w U → Calls Try.prog 28 #[.slice A l.length c] U fun e w' => e = .returned (.tuple #[rtv a2 b2, .int .i64 k2]) ∧ Fr0 U w'))
    (HV : Hid (∀ U, Fr0 w U → Calls Try.prog 29 #[.slice A l.length c] U fun e w' => e = .returned (.tuple #[rtv a2 b2, .int .i64 k2]) ∧ Fr0 U w'))
    : Calls Try.prog 6 #[.agg #[.int .i64 x0, .int .i64 x1, .int .i64 x2], .slice A l.length c] w fun e w' => e = .returned (.bool true) ∧ Fr0 w w' := by
  have h1 : decide (30 < l.length) = false := decide_eq_false (by omega)
  have h2 : decide ((30 : Int) < (l.length : Int)) = false := decide_eq_false (by omega)
  have HK := Lib.hid known5_calls
  have heq := fun (x y : Int) (U : World) => eq_tm x y x y U
  simp only [and_self, decide_true] at heq
  have heq1 := heq a1 b1
  have heq2 := heq a2 b2
  clear heq
  have KX0 := Lib.hid (heap_alloc_new w (.cells #[.int .i64 x0, .int .i64 x1, .int .i64 x2] 57))
  have KF0 := Lib.hid ((Fr.refl (fun _ => False) w).alloc (.cells #[.int .i64 x0, .int .i64 x1, .int .i64 x2] 57))
  have zX0 := cell_of_blk KX0.out 0; have zX1 := cell_of_blk KX0.out 1; have zX2 := cell_of_blk KX0.out 2
  clear h30
  go_enter Try.func6, Try.ntmps6
  go_wp2_with (first
    | (go_at_call 25; (with_reducible refine (HL.out _).mono ?_); rintro _ v1 ⟨rfl, hf1⟩; have KX1 := Lib.hid (blk_alloc (hf1.blk KX0.out (fun h => h)) (.cells (rtc a1 b1) 25)); have K11 := Lib.hid (heap_alloc_new v1 (.cells (rtc a1 b1) 25)); have KF1 := Lib.hid ((KF0.out.trans hf1).alloc (.cells (rtc a1 b1) 25)); clear KX0 KF0 hf1; have zX0 := cell_of_blk KX1.out 0; have zX1 := cell_of_blk KX1.out 1; have zX2 := cell_of_blk KX1.out 2)
    | (go_at_call 27; (with_reducible refine (HD.out _).mono ?_); rintro _ v2 ⟨rfl, hf2⟩; have KX2 := Lib.hid (blk_alloc (hf2.blk KX1.out (fun h => h)) (.cells (rtc a1 b1) 25)); have K12 := Lib.hid (blk_alloc (hf2.blk K11.out (fun h => h)) (.cells (rtc a1 b1) 25)); have K22 := Lib.hid (heap_alloc_new v2 (.cells (rtc a1 b1) 25)); have KF2 := Lib.hid ((KF1.out.trans hf2).alloc (.cells (rtc a1 b1) 25)); clear KX1 K11 KF1 hf2)
    | (go_at_call 28; (with_reducible refine (HW.out _ KF2.out).mono ?_); rintro _ v3 ⟨rfl, hf3⟩; have KX3 := Lib.hid (blk_alloc (hf3.blk KX2.out (fun h => h)) (.cells (rtc a2 b2) 25)); have K13 := Lib.hid (blk_alloc (hf3.blk K12.out (fun h => h)) (.cells (rtc a2 b2) 25)); have K23 := Lib.hid (blk_alloc (hf3.blk K22.out (fun h => h)) (.cells (rtc a2 b2) 25)); have K33 := Lib.hid (heap_alloc_new v3 (.cells (rtc a2 b2) 25)); have KF3 := Lib.hid ((KF2.out.trans hf3).alloc (.cells (rtc a2 b2) 25)); clear KX2 K12 K22 KF2 hf3)
    | (go_at_call 29; (with_reducible refine (HV.out _ KF3.out).mono ?_); rintro _ v4 ⟨rfl, hf4⟩; have KX4 := Lib.hid (blk_alloc (hf4.blk KX3.out (fun h => h)) (.cells (rtc a2 b2) 25)); have K14 := Lib.hid (blk_alloc (hf4.blk K13.out (fun h => h)) (.cells (rtc a2 b2) 25)); have K24 := Lib.hid (blk_alloc (hf4.blk K23.out (fun h => h)) (.cells (rtc a2 b2) 25)); have K34 := Lib.hid (blk_alloc (hf4.blk K33.out (fun h => h)) (.cells (rtc a2 b2) 25)); have K44 := Lib.hid (heap_alloc_new v4 (.cells (rtc a2 b2) 25)); have KF4 := Lib.hid ((KF3.out.trans hf4).alloc (.cells (rtc a2 b2) 25)); clear KX3 K13 K23 K33 KF3 hf4; obtain ⟨_, _, _, _⟩ := two_facts K14.out; obtain ⟨_, _, _, _⟩ := two_facts K24.out; obtain ⟨_, _, _, _⟩ := two_facts K34.out; obtain ⟨_, _, _, _⟩ := two_facts K44.out)
    | (go_at_call 14; (with_reducible refine (HK.out _).mono ?_); rintro _ v5 ⟨rfl, hf5⟩; have KX5 := Lib.hid (hf5.blk KX4.out (fun h => h)); have K15 := Lib.hid (hf5.blk K14.out (fun h => h)); have K25 := Lib.hid (hf5.blk K24.out (fun h => h)); have K35 := Lib.hid (hf5.blk K34.out (fun h => h)); have K45 := Lib.hid (hf5.blk K44.out (fun h => h)); have KF5 := Lib.hid (KF4.out.trans hf5); clear KX4 K14 K24 K34 K44 KF4 hf5)
    | fail)
  go_ret
  exact ⟨rfl, KF5.out⟩
theorem ways_walk (A : Option Addr) (c : Nat) (l : List (Int × Int)) (x0 x1 x2 : Int) (w : World) (hR : Rd (fun _ => False) w A (sends l)) : Calls Try.prog 6 #[.agg #[.int .i64 x0, .int .i64 x1, .int .i64 x2], .slice A l.length c] w fun e w' => e = .returned (.bool true) ∧ Fr0 w w' := by
  by_cases h30 : 30 < l.length
  · exact ways_long A c l x0 x1 x2 w h30
  have HW := Lib.hid (fun (U : World) (hU : Fr0 w U) => bWay_calls A c l U (hR.kept hU) (by omega))
  have HV := Lib.hid (fun (U : World) (hU : Fr0 w U) => dWay_calls A c l U (hR.kept hU) (by omega))
  by_cases hk : LkOk x0 x1 x2
  · exact ways_yes A c l x0 x1 x2 _ _ _ _ _ w (by omega) (Lib.hid (fun U => bLink_yes x0 x1 x2 hk U)) (Lib.hid (fun U => dLink_yes x0 x1 x2 hk U)) HW HV
  · exact ways_no A c l x0 x1 x2 _ _ _ _ _ w (by omega) (Lib.hid (fun U => bLink_no x0 x1 x2 hk U)) (Lib.hid (fun U => dLink_no x0 x1 x2 hk U)) HW HV
end Go.Proofs.Ytjldogfpccbkeaa
