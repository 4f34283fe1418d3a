/- Chapter 05: BoundTells walked (written by genBdT.py). -/
import Derived.Test.YtjldogfpccbkeaaBd8
set_option linter.unusedVariables false
set_option linter.unusedSimpArgs false
namespace Go.Proofs.Ytjldogfpccbkeaa
open Go.RowKit
attribute [local go_sem] Oper.semAt_some

set_option maxHeartbeats 4000000 in
set_option maxRecDepth 20000 in
theorem tells_no_a (s : Sp) (r c d : Int) (w : World)
    (HB : Hid (∀ U, Calls Try.prog 8 #[spv s, .int .i64 r, rtv c d] U fun e w' => e = .returned (.tuple #[rtv 0 0, .int .i64 2]) ∧ Fr0 U w'))
    (HT : Hid (∀ U, Calls Try.prog 9 #[spv s, .int .i64 r, rtv c d] U fun e w' => e = .returned (.tuple #[.int .i64 0, .int .i64 2]) ∧ Fr0 U w'))
    (HR : Hid (∀ U, Calls Try.prog 10 #[spv s, .int .i64 r, rtv c d] U fun e w' => e = .returned (.tuple #[.int .i64 0, .int .i64 2]) ∧ Fr0 U w'))
    (HCT : Hid (∀ U, Calls Try.prog 11 #[rtv c d] U fun e w' => e = .returned (.int .i64 0) ∧ Fr0 U w'))
    (HCR : Hid (∀ U, Calls Try.prog 12 #[rtv c d] U fun e w' => e = .returned (.bool true) ∧ Fr0 U w'))
    (HM : Hid (∀ U, Calls Try.prog 13 #[spv s, .int .i64 r, rtv c d] U fun e w' => e = .returned (.bool false) ∧ Fr0 U w'))
    : Calls Try.prog 3 #[spv s, .int .i64 r, rtv c d] w fun e w' => e = .returned (.bool true) ∧ Fr0 w w' := by
  have hmx : Try.prog.follows .mixedOrders = true := by kernel_rfl
  have HK := Lib.hid known5_calls
  have heq := fun (x y : Int) (U : World) => eq_rat x y x y U
  simp only [and_self, decide_true] at heq
  have heq1 := heq 0 0
  clear heq
  have KS0 := Lib.hid (blk_alloc (heap_alloc_new w (.cells (spc s) 23)) (.cells (rtc c d) 25))
  have KT0 := Lib.hid (heap_an (w := w.alloc (.cells (spc s) 23)) (k := w.heap.size + 1) (.cells (rtc c d) 25) (by simp))
  have KF0 := Lib.hid (((Fr.refl (fun _ => False) w).alloc (.cells (spc s) 23)).alloc (.cells (rtc c d) 25))
  obtain ⟨_, _, _, _, _⟩ := sp_cells KS0.out
  obtain ⟨_, _, _, _⟩ := two_facts KT0.out
  go_enter Try.func3, Try.ntmps3
  go_upto_region 4 with (first
    | (go_at_call 8; (with_reducible refine (HB.out _).mono ?_); rintro _ v1 ⟨rfl, hf1⟩; have KS1 := Lib.hid (blk_alloc (hf1.blk KS0.out (fun h => h)) (.cells (rtc 0 0) 27)); have KT1 := Lib.hid (blk_alloc (hf1.blk KT0.out (fun h => h)) (.cells (rtc 0 0) 27)); have K11 := Lib.hid (heap_alloc_new v1 (.cells (rtc 0 0) 27)); have KF1 := Lib.hid ((KF0.out.trans hf1).alloc (.cells (rtc 0 0) 27)); clear KS0 KT0 KF0 hf1; obtain ⟨_, _, _, _, _⟩ := sp_cells KS1.out; obtain ⟨_, _, _, _⟩ := two_facts KT1.out)
    | (go_at_call 9; (with_reducible refine (HT.out _).mono ?_); rintro _ v2 ⟨rfl, hf2⟩; have KS2 := Lib.hid (hf2.blk KS1.out (fun h => h)); have KT2 := Lib.hid (hf2.blk KT1.out (fun h => h)); have K12 := Lib.hid (hf2.blk K11.out (fun h => h)); have KF2 := Lib.hid (KF1.out.trans hf2); clear KS1 KT1 K11 KF1 hf2; obtain ⟨_, _, _, _, _⟩ := sp_cells KS2.out; obtain ⟨_, _, _, _⟩ := two_facts KT2.out)
    | (go_at_call 10; (with_reducible refine (HR.out _).mono ?_); rintro _ v3 ⟨rfl, hf3⟩; have KS3 := Lib.hid (hf3.blk KS2.out (fun h => h)); have KT3 := Lib.hid (hf3.blk KT2.out (fun h => h)); have K13 := Lib.hid (hf3.blk K12.out (fun h => h)); have KF3 := Lib.hid (KF2.out.trans hf3); clear KS2 KT2 K12 KF2 hf3)
    | fail)
  obtain ⟨wq, hwq⟩ : ∃ v, v = v3 := ⟨_, rfl⟩
  subst hwq
  obtain ⟨y0, y1, _, _⟩ := two_facts KT3.out
  have r0 := cg_cell y0
  have r1 := cg_cell y1
  go_cut [41] from 36 to 41 (fun sx wx => sx = .bool false ∧ Hid (Fr0 wq wx))
  case first =>
    refine wp_region_cg hmx (by kernel_rfl) ?_
    repeat (first
      | go_big_quiet_step (fail)
      | go_big_quiet_step (first
        | ((go_at_call 11; with_reducible exact quiet_cg (HCT.out _)))
        | ((go_at_call 12; with_reducible exact quiet_cg (HCR.out _)))))
    refine wpQuiet_nil ?_
    intro w6 hf6
    go_wp2_with fail
    go_meet
    exact ⟨rfl, hf6⟩
  case rest =>
    obtain ⟨rfl, HX6⟩ := hcut
    obtain ⟨wp, hwp⟩ : ∃ v, v = wc := ⟨_, rfl⟩
    subst hwp
    have KSx := Lib.hid (HX6.out.blk KS3.out (fun h => h))
    have KTx := Lib.hid (HX6.out.blk KT3.out (fun h => h))
    have K1x := Lib.hid (HX6.out.blk K13.out (fun h => h))
    have KFx := Lib.hid (KF3.out.trans HX6.out)
    clear KS3 KT3 K13 KF3
    obtain ⟨_, _, _, _, _⟩ := sp_cells KSx.out
    obtain ⟨_, _, _, _⟩ := two_facts KTx.out
    go_wp2_with (first
      | (go_at_call 13; (with_reducible refine (HM.out _).mono ?_); rintro _ v4 ⟨rfl, hf4⟩; have KS4 := Lib.hid (hf4.blk KSx.out (fun h => h)); have KT4 := Lib.hid (hf4.blk KTx.out (fun h => h)); have K14 := Lib.hid (hf4.blk K1x.out (fun h => h)); have KF4 := Lib.hid (KFx.out.trans hf4); clear KSx KTx K1x KFx hf4; obtain ⟨_, _, _, _⟩ := two_facts K14.out)
      | (go_at_call 14; (with_reducible refine (HK.out _).mono ?_); rintro _ v5 ⟨rfl, hf5⟩; have KS5 := Lib.hid (hf5.blk KS4.out (fun h => h)); have KT5 := Lib.hid (hf5.blk KT4.out (fun h => h)); have K15 := Lib.hid (hf5.blk K14.out (fun h => h)); have KF5 := Lib.hid (KF4.out.trans hf5); clear KS4 KT4 K14 KF4 hf5)
      | fail)
    go_ret
    exact ⟨rfl, KF5.out⟩
set_option maxHeartbeats 4000000 in
set_option maxRecDepth 20000 in
theorem tells_no_b (s : Sp) (r c d : Int) (w : World)
    (HB : Hid (∀ U, Calls Try.prog 8 #[spv s, .int .i64 r, rtv c d] U fun e w' => e = .returned (.tuple #[rtv 0 0, .int .i64 2]) ∧ Fr0 U w'))
    (HT : Hid (∀ U, Calls Try.prog 9 #[spv s, .int .i64 r, rtv c d] U fun e w' => e = .returned (.tuple #[.int .i64 0, .int .i64 2]) ∧ Fr0 U w'))
    (HR : Hid (∀ U, Calls Try.prog 10 #[spv s, .int .i64 r, rtv c d] U fun e w' => e = .returned (.tuple #[.int .i64 0, .int .i64 2]) ∧ Fr0 U w'))
    (HCT : Hid (∀ U, Calls Try.prog 11 #[rtv c d] U fun e w' => e = .returned (.int .i64 2) ∧ Fr0 U w'))
    (HCR : Hid (∀ U, Calls Try.prog 12 #[rtv c d] U fun e w' => e = .returned (.bool false) ∧ Fr0 U w'))
    (HM : Hid (∀ U, Calls Try.prog 13 #[spv s, .int .i64 r, rtv c d] U fun e w' => e = .returned (.bool false) ∧ Fr0 U w'))
    : Calls Try.prog 3 #[spv s, .int .i64 r, rtv c d] w fun e w' => e = .returned (.bool true) ∧ Fr0 w w' := by
  have hmx : Try.prog.follows .mixedOrders = true := by kernel_rfl
  have HK := Lib.hid known5_calls
  have heq := fun (x y : Int) (U : World) => eq_rat x y x y U
  simp only [and_self, decide_true] at heq
  have heq1 := heq 0 0
  clear heq
  have KS0 := Lib.hid (blk_alloc (heap_alloc_new w (.cells (spc s) 23)) (.cells (rtc c d) 25))
  have KT0 := Lib.hid (heap_an (w := w.alloc (.cells (spc s) 23)) (k := w.heap.size + 1) (.cells (rtc c d) 25) (by simp))
  have KF0 := Lib.hid (((Fr.refl (fun _ => False) w).alloc (.cells (spc s) 23)).alloc (.cells (rtc c d) 25))
  obtain ⟨_, _, _, _, _⟩ := sp_cells KS0.out
  obtain ⟨_, _, _, _⟩ := two_facts KT0.out
  go_enter Try.func3, Try.ntmps3
  go_upto_region 4 with (first
    | (go_at_call 8; (with_reducible refine (HB.out _).mono ?_); rintro _ v1 ⟨rfl, hf1⟩; have KS1 := Lib.hid (blk_alloc (hf1.blk KS0.out (fun h => h)) (.cells (rtc 0 0) 27)); have KT1 := Lib.hid (blk_alloc (hf1.blk KT0.out (fun h => h)) (.cells (rtc 0 0) 27)); have K11 := Lib.hid (heap_alloc_new v1 (.cells (rtc 0 0) 27)); have KF1 := Lib.hid ((KF0.out.trans hf1).alloc (.cells (rtc 0 0) 27)); clear KS0 KT0 KF0 hf1; obtain ⟨_, _, _, _, _⟩ := sp_cells KS1.out; obtain ⟨_, _, _, _⟩ := two_facts KT1.out)
    | (go_at_call 9; (with_reducible refine (HT.out _).mono ?_); rintro _ v2 ⟨rfl, hf2⟩; have KS2 := Lib.hid (hf2.blk KS1.out (fun h => h)); have KT2 := Lib.hid (hf2.blk KT1.out (fun h => h)); have K12 := Lib.hid (hf2.blk K11.out (fun h => h)); have KF2 := Lib.hid (KF1.out.trans hf2); clear KS1 KT1 K11 KF1 hf2; obtain ⟨_, _, _, _, _⟩ := sp_cells KS2.out; obtain ⟨_, _, _, _⟩ := two_facts KT2.out)
    | (go_at_call 10; (with_reducible refine (HR.out _).mono ?_); rintro _ v3 ⟨rfl, hf3⟩; have KS3 := Lib.hid (hf3.blk KS2.out (fun h => h)); have KT3 := Lib.hid (hf3.blk KT2.out (fun h => h)); have K13 := Lib.hid (hf3.blk K12.out (fun h => h)); have KF3 := Lib.hid (KF2.out.trans hf3); clear KS2 KT2 K12 KF2 hf3)
    | fail)
  obtain ⟨wq, hwq⟩ : ∃ v, v = v3 := ⟨_, rfl⟩
  subst hwq
  obtain ⟨y0, y1, _, _⟩ := two_facts KT3.out
  have r0 := cg_cell y0
  have r1 := cg_cell y1
  go_cut [41] from 36 to 41 (fun sx wx => sx = .bool false ∧ Hid (Fr0 wq wx))
  case first =>
    refine wp_region_cg hmx (by kernel_rfl) ?_
    repeat (first
      | go_big_quiet_step (fail)
      | go_big_quiet_step (first
        | ((go_at_call 11; with_reducible exact quiet_cg (HCT.out _)))
        | ((go_at_call 12; with_reducible exact quiet_cg (HCR.out _)))))
    refine wpQuiet_nil ?_
    intro w6 hf6
    go_wp2_with fail
    go_meet
    exact ⟨rfl, hf6⟩
  case rest =>
    obtain ⟨rfl, HX6⟩ := hcut
    obtain ⟨wp, hwp⟩ : ∃ v, v = wc := ⟨_, rfl⟩
    subst hwp
    have KSx := Lib.hid (HX6.out.blk KS3.out (fun h => h))
    have KTx := Lib.hid (HX6.out.blk KT3.out (fun h => h))
    have K1x := Lib.hid (HX6.out.blk K13.out (fun h => h))
    have KFx := Lib.hid (KF3.out.trans HX6.out)
    clear KS3 KT3 K13 KF3
    obtain ⟨_, _, _, _, _⟩ := sp_cells KSx.out
    obtain ⟨_, _, _, _⟩ := two_facts KTx.out
    go_wp2_with (first
      | (go_at_call 13; (with_reducible refine (HM.out _).mono ?_); rintro _ v4 ⟨rfl, hf4⟩; have KS4 := Lib.hid (hf4.blk KSx.out (fun h => h)); have KT4 := Lib.hid (hf4.blk KTx.out (fun h => h)); have K14 := Lib.hid (hf4.blk K1x.out (fun h => h)); have KF4 := Lib.hid (KFx.out.trans hf4); clear KSx KTx K1x KFx hf4; obtain ⟨_, _, _, _⟩ := two_facts K14.out)
      | (go_at_call 14; (with_reducible refine (HK.out _).mono ?_); rintro _ v5 ⟨rfl, hf5⟩; have KS5 := Lib.hid (hf5.blk KS4.out (fun h => h)); have KT5 := Lib.hid (hf5.blk KT4.out (fun h => h)); have K15 := Lib.hid (hf5.blk K14.out (fun h => h)); have KF5 := Lib.hid (KF4.out.trans hf5); clear KS4 KT4 K14 KF4 hf5)
      | fail)
    go_ret
    exact ⟨rfl, KF5.out⟩
set_option maxHeartbeats 4000000 in
set_option maxRecDepth 20000 in
theorem tells_yes_a (s : Sp) (r c d n k t m : Int) (w : World)
    (HB : Hid (∀ U, Calls Try.prog 8 #[spv s, .int .i64 r, rtv c d] U fun e w' => e = .returned (.tuple #[rtv n k, .int .i64 0]) ∧ Fr0 U w'))
    (HT : Hid (∀ U, Calls Try.prog 9 #[spv s, .int .i64 r, rtv c d] U fun e w' => e = .returned (.tuple #[.int .i64 t, .int .i64 0]) ∧ Fr0 U w'))
    (HR : Hid (∀ U, Calls Try.prog 10 #[spv s, .int .i64 r, rtv c d] U fun e w' => e = .returned (.tuple #[.int .i64 m, .int .i64 0]) ∧ Fr0 U w'))
    (HCT : Hid (∀ U, Calls Try.prog 11 #[rtv c d] U fun e w' => e = .returned (.int .i64 0) ∧ Fr0 U w'))
    (HCR : Hid (∀ U, Calls Try.prog 12 #[rtv c d] U fun e w' => e = .returned (.bool true) ∧ Fr0 U w'))
    (HM : Hid (∀ U, Calls Try.prog 13 #[spv s, .int .i64 r, rtv c d] U fun e w' => e = .returned (.bool true) ∧ Fr0 U w'))
    (HDB : Hid (∀ U, Calls Try.prog 16 #[spv s, .int .i64 r, rtv c d] U fun e w' => e = .returned (rtv n k) ∧ Fr0 U w'))
    (HDT : Hid (∀ U, Calls Try.prog 17 #[spv s, .int .i64 r, rtv c d] U fun e w' => e = .returned (.int .i64 t) ∧ Fr0 U w'))
    (HDR : Hid (∀ U, Calls Try.prog 15 #[spv s, .int .i64 r, rtv c d] U fun e w' => e = .returned (.tuple #[.int .i64 m, .bool true]) ∧ Fr0 U w'))
    : Calls Try.prog 3 #[spv s, .int .i64 r, rtv c d] w fun e w' => e = .returned (.bool true) ∧ Fr0 w w' := by
  have hmx : Try.prog.follows .mixedOrders = true := by kernel_rfl
  have HK := Lib.hid known5_calls
  have heq := fun (x y : Int) (U : World) => eq_rat x y x y U
  simp only [and_self, decide_true] at heq
  have heq1 := heq n k
  clear heq
  have KS0 := Lib.hid (blk_alloc (heap_alloc_new w (.cells (spc s) 23)) (.cells (rtc c d) 25))
  have KT0 := Lib.hid (heap_an (w := w.alloc (.cells (spc s) 23)) (k := w.heap.size + 1) (.cells (rtc c d) 25) (by simp))
  have KF0 := Lib.hid (((Fr.refl (fun _ => False) w).alloc (.cells (spc s) 23)).alloc (.cells (rtc c d) 25))
  obtain ⟨_, _, _, _, _⟩ := sp_cells KS0.out
  obtain ⟨_, _, _, _⟩ := two_facts KT0.out
  go_enter Try.func3, Try.ntmps3
  go_upto_region 4 with (first
    | (go_at_call 8; (with_reducible refine (HB.out _).mono ?_); rintro _ v1 ⟨rfl, hf1⟩; have KS1 := Lib.hid (blk_alloc (hf1.blk KS0.out (fun h => h)) (.cells (rtc n k) 27)); have KT1 := Lib.hid (blk_alloc (hf1.blk KT0.out (fun h => h)) (.cells (rtc n k) 27)); have K11 := Lib.hid (heap_alloc_new v1 (.cells (rtc n k) 27)); have KF1 := Lib.hid ((KF0.out.trans hf1).alloc (.cells (rtc n k) 27)); clear KS0 KT0 KF0 hf1; obtain ⟨_, _, _, _, _⟩ := sp_cells KS1.out; obtain ⟨_, _, _, _⟩ := two_facts KT1.out)
    | (go_at_call 9; (with_reducible refine (HT.out _).mono ?_); rintro _ v2 ⟨rfl, hf2⟩; have KS2 := Lib.hid (hf2.blk KS1.out (fun h => h)); have KT2 := Lib.hid (hf2.blk KT1.out (fun h => h)); have K12 := Lib.hid (hf2.blk K11.out (fun h => h)); have KF2 := Lib.hid (KF1.out.trans hf2); clear KS1 KT1 K11 KF1 hf2; obtain ⟨_, _, _, _, _⟩ := sp_cells KS2.out; obtain ⟨_, _, _, _⟩ := two_facts KT2.out)
    | (go_at_call 10; (with_reducible refine (HR.out _).mono ?_); rintro _ v3 ⟨rfl, hf3⟩; have KS3 := Lib.hid (hf3.blk KS2.out (fun h => h)); have KT3 := Lib.hid (hf3.blk KT2.out (fun h => h)); have K13 := Lib.hid (hf3.blk K12.out (fun h => h)); have KF3 := Lib.hid (KF2.out.trans hf3); clear KS2 KT2 K12 KF2 hf3)
    | fail)
  obtain ⟨wq, hwq⟩ : ∃ v, v = v3 := ⟨_, rfl⟩
  subst hwq
  obtain ⟨y0, y1, _, _⟩ := two_facts KT3.out
  have r0 := cg_cell y0
  have r1 := cg_cell y1
  go_cut [41] from 36 to 41 (fun sx wx => sx = .bool false ∧ Hid (Fr0 wq wx))
  case first =>
    refine wp_region_cg hmx (by kernel_rfl) ?_
    repeat (first
      | go_big_quiet_step (fail)
      | go_big_quiet_step (first
        | ((go_at_call 11; with_reducible exact quiet_cg (HCT.out _)))
        | ((go_at_call 12; with_reducible exact quiet_cg (HCR.out _)))))
    refine wpQuiet_nil ?_
    intro w6 hf6
    go_wp2_with fail
    go_meet
    exact ⟨rfl, hf6⟩
  case rest =>
    obtain ⟨rfl, HX6⟩ := hcut
    obtain ⟨wp, hwp⟩ : ∃ v, v = wc := ⟨_, rfl⟩
    subst hwp
    have KSx := Lib.hid (HX6.out.blk KS3.out (fun h => h))
    have KTx := Lib.hid (HX6.out.blk KT3.out (fun h => h))
    have K1x := Lib.hid (HX6.out.blk K13.out (fun h => h))
    have KFx := Lib.hid (KF3.out.trans HX6.out)
    clear KS3 KT3 K13 KF3
    obtain ⟨_, _, _, _, _⟩ := sp_cells KSx.out
    obtain ⟨_, _, _, _⟩ := two_facts KTx.out
    go_upto_region 9 with (first
      | (go_at_call 13; (with_reducible refine (HM.out _).mono ?_); rintro _ v4 ⟨rfl, hf4⟩; have KS4 := Lib.hid (hf4.blk KSx.out (fun h => h)); have KT4 := Lib.hid (hf4.blk KTx.out (fun h => h)); have K14 := Lib.hid (hf4.blk K1x.out (fun h => h)); have KF4 := Lib.hid (KFx.out.trans hf4); clear KSx KTx K1x KFx hf4; obtain ⟨_, _, _, _, _⟩ := sp_cells KS4.out; obtain ⟨_, _, _, _⟩ := two_facts KT4.out)
      | (go_at_call 15; (with_reducible refine (HDR.out _).mono ?_); rintro _ v5 ⟨rfl, hf5⟩; have KS5 := Lib.hid (hf5.blk KS4.out (fun h => h)); have KT5 := Lib.hid (hf5.blk KT4.out (fun h => h)); have K15 := Lib.hid (hf5.blk K14.out (fun h => h)); have KF5 := Lib.hid (KF4.out.trans hf5); clear KS4 KT4 K14 KF4 hf5)
      | fail)
    obtain ⟨wr9, hwr9⟩ : ∃ v, v = v5 := ⟨_, rfl⟩
    subst hwr9
    obtain ⟨y0, y1, _, _⟩ := two_facts KT5.out
    obtain ⟨u0, u1, u2, u3, u4⟩ := sp_cells KS5.out
    obtain ⟨q0, q1, _, _⟩ := two_facts K15.out
    have r0 := cg_cell y0
    have r1 := cg_cell y1
    have r2 := cg_cell u0
    have r3 := cg_cell u1
    have r4 := cg_cell u2
    have r5 := cg_cell u3
    have r6 := cg_cell u4
    have r7 := cg_cell q0
    have r8 := cg_cell q1
    clear y0 y1 u0 u1 u2 u3 u4 q0 q1
    refine wp_region_cg hmx (by kernel_rfl) ?_
    repeat (first
      | go_big_quiet_step (fail)
      | go_big_quiet_step (first
        | ((go_at_call 16; with_reducible exact quiet_cg (HDB.out _)))
        | ((go_at_call 17; with_reducible exact quiet_cg (HDT.out _)))
        | ((go_at_call 14; with_reducible exact quiet_cg (HK.out _)))))
    refine wpQuiet_nil ?_
    intro w7 hf7
    go_wp2_with fail
    go_ret
    exact ⟨rfl, KF5.out.trans hf7⟩
set_option maxHeartbeats 4000000 in
set_option maxRecDepth 20000 in
theorem tells_yes_b (s : Sp) (r c d n k t m : Int) (w : World)
    (HB : Hid (∀ U, Calls Try.prog 8 #[spv s, .int .i64 r, rtv c d] U fun e w' => e = .returned (.tuple #[rtv n k, .int .i64 0]) ∧ Fr0 U w'))
    (HT : Hid (∀ U, Calls Try.prog 9 #[spv s, .int .i64 r, rtv c d] U fun e w' => e = .returned (.tuple #[.int .i64 t, .int .i64 0]) ∧ Fr0 U w'))
    (HR : Hid (∀ U, Calls Try.prog 10 #[spv s, .int .i64 r, rtv c d] U fun e w' => e = .returned (.tuple #[.int .i64 m, .int .i64 3]) ∧ Fr0 U w'))
    (HCT : Hid (∀ U, Calls Try.prog 11 #[rtv c d] U fun e w' => e = .returned (.int .i64 0) ∧ Fr0 U w'))
    (HCR : Hid (∀ U, Calls Try.prog 12 #[rtv c d] U fun e w' => e = .returned (.bool true) ∧ Fr0 U w'))
    (HM : Hid (∀ U, Calls Try.prog 13 #[spv s, .int .i64 r, rtv c d] U fun e w' => e = .returned (.bool true) ∧ Fr0 U w'))
    (HDB : Hid (∀ U, Calls Try.prog 16 #[spv s, .int .i64 r, rtv c d] U fun e w' => e = .returned (rtv n k) ∧ Fr0 U w'))
    (HDT : Hid (∀ U, Calls Try.prog 17 #[spv s, .int .i64 r, rtv c d] U fun e w' => e = .returned (.int .i64 t) ∧ Fr0 U w'))
    (HDR : Hid (∀ U, Calls Try.prog 15 #[spv s, .int .i64 r, rtv c d] U fun e w' => e = .returned (.tuple #[.int .i64 m, .bool false]) ∧ Fr0 U w'))
    : Calls Try.prog 3 #[spv s, .int .i64 r, rtv c d] w fun e w' => e = .returned (.bool true) ∧ Fr0 w w' := by
  have hmx : Try.prog.follows .mixedOrders = true := by kernel_rfl
  have HK := Lib.hid known5_calls
  have heq := fun (x y : Int) (U : World) => eq_rat x y x y U
  simp only [and_self, decide_true] at heq
  have heq1 := heq n k
  clear heq
  have KS0 := Lib.hid (blk_alloc (heap_alloc_new w (.cells (spc s) 23)) (.cells (rtc c d) 25))
  have KT0 := Lib.hid (heap_an (w := w.alloc (.cells (spc s) 23)) (k := w.heap.size + 1) (.cells (rtc c d) 25) (by simp))
  have KF0 := Lib.hid (((Fr.refl (fun _ => False) w).alloc (.cells (spc s) 23)).alloc (.cells (rtc c d) 25))
  obtain ⟨_, _, _, _, _⟩ := sp_cells KS0.out
  obtain ⟨_, _, _, _⟩ := two_facts KT0.out
  go_enter Try.func3, Try.ntmps3
  go_upto_region 4 with (first
    | (go_at_call 8; (with_reducible refine (HB.out _).mono ?_); rintro _ v1 ⟨rfl, hf1⟩; have KS1 := Lib.hid (blk_alloc (hf1.blk KS0.out (fun h => h)) (.cells (rtc n k) 27)); have KT1 := Lib.hid (blk_alloc (hf1.blk KT0.out (fun h => h)) (.cells (rtc n k) 27)); have K11 := Lib.hid (heap_alloc_new v1 (.cells (rtc n k) 27)); have KF1 := Lib.hid ((KF0.out.trans hf1).alloc (.cells (rtc n k) 27)); clear KS0 KT0 KF0 hf1; obtain ⟨_, _, _, _, _⟩ := sp_cells KS1.out; obtain ⟨_, _, _, _⟩ := two_facts KT1.out)
    | (go_at_call 9; (with_reducible refine (HT.out _).mono ?_); rintro _ v2 ⟨rfl, hf2⟩; have KS2 := Lib.hid (hf2.blk KS1.out (fun h => h)); have KT2 := Lib.hid (hf2.blk KT1.out (fun h => h)); have K12 := Lib.hid (hf2.blk K11.out (fun h => h)); have KF2 := Lib.hid (KF1.out.trans hf2); clear KS1 KT1 K11 KF1 hf2; obtain ⟨_, _, _, _, _⟩ := sp_cells KS2.out; obtain ⟨_, _, _, _⟩ := two_facts KT2.out)
    | (go_at_call 10; (with_reducible refine (HR.out _).mono ?_); rintro _ v3 ⟨rfl, hf3⟩; have KS3 := Lib.hid (hf3.blk KS2.out (fun h => h)); have KT3 := Lib.hid (hf3.blk KT2.out (fun h => h)); have K13 := Lib.hid (hf3.blk K12.out (fun h => h)); have KF3 := Lib.hid (KF2.out.trans hf3); clear KS2 KT2 K12 KF2 hf3)
    | fail)
  obtain ⟨wq, hwq⟩ : ∃ v, v = v3 := ⟨_, rfl⟩
  subst hwq
  obtain ⟨y0, y1, _, _⟩ := two_facts KT3.out
  have r0 := cg_cell y0
  have r1 := cg_cell y1
  go_cut [41] from 36 to 41 (fun sx wx => sx = .bool false ∧ Hid (Fr0 wq wx))
  case first =>
    refine wp_region_cg hmx (by kernel_rfl) ?_
    repeat (first
      | go_big_quiet_step (fail)
      | go_big_quiet_step (first
        | ((go_at_call 11; with_reducible exact quiet_cg (HCT.out _)))
        | ((go_at_call 12; with_reducible exact quiet_cg (HCR.out _)))))
    refine wpQuiet_nil ?_
    intro w6 hf6
    go_wp2_with fail
    go_meet
    exact ⟨rfl, hf6⟩
  case rest =>
    obtain ⟨rfl, HX6⟩ := hcut
    obtain ⟨wp, hwp⟩ : ∃ v, v = wc := ⟨_, rfl⟩
    subst hwp
    have KSx := Lib.hid (HX6.out.blk KS3.out (fun h => h))
    have KTx := Lib.hid (HX6.out.blk KT3.out (fun h => h))
    have K1x := Lib.hid (HX6.out.blk K13.out (fun h => h))
    have KFx := Lib.hid (KF3.out.trans HX6.out)
    clear KS3 KT3 K13 KF3
    obtain ⟨_, _, _, _, _⟩ := sp_cells KSx.out
    obtain ⟨_, _, _, _⟩ := two_facts KTx.out
    go_upto_region 9 with (first
      | (go_at_call 13; (with_reducible refine (HM.out _).mono ?_); rintro _ v4 ⟨rfl, hf4⟩; have KS4 := Lib.hid (hf4.blk KSx.out (fun h => h)); have KT4 := Lib.hid (hf4.blk KTx.out (fun h => h)); have K14 := Lib.hid (hf4.blk K1x.out (fun h => h)); have KF4 := Lib.hid (KFx.out.trans hf4); clear KSx KTx K1x KFx hf4; obtain ⟨_, _, _, _, _⟩ := sp_cells KS4.out; obtain ⟨_, _, _, _⟩ := two_facts KT4.out)
      | (go_at_call 15; (with_reducible refine (HDR.out _).mono ?_); rintro _ v5 ⟨rfl, hf5⟩; have KS5 := Lib.hid (hf5.blk KS4.out (fun h => h)); have KT5 := Lib.hid (hf5.blk KT4.out (fun h => h)); have K15 := Lib.hid (hf5.blk K14.out (fun h => h)); have KF5 := Lib.hid (KF4.out.trans hf5); clear KS4 KT4 K14 KF4 hf5)
      | fail)
    obtain ⟨wr9, hwr9⟩ : ∃ v, v = v5 := ⟨_, rfl⟩
    subst hwr9
    obtain ⟨y0, y1, _, _⟩ := two_facts KT5.out
    obtain ⟨u0, u1, u2, u3, u4⟩ := sp_cells KS5.out
    obtain ⟨q0, q1, _, _⟩ := two_facts K15.out
    have r0 := cg_cell y0
    have r1 := cg_cell y1
    have r2 := cg_cell u0
    have r3 := cg_cell u1
    have r4 := cg_cell u2
    have r5 := cg_cell u3
    have r6 := cg_cell u4
    have r7 := cg_cell q0
    have r8 := cg_cell q1
    clear y0 y1 u0 u1 u2 u3 u4 q0 q1
    refine wp_region_cg hmx (by kernel_rfl) ?_
    repeat (first
      | go_big_quiet_step (fail)
      | go_big_quiet_step (first
        | ((go_at_call 16; with_reducible exact quiet_cg (HDB.out _)))
        | ((go_at_call 17; with_reducible exact quiet_cg (HDT.out _)))
        | ((go_at_call 14; with_reducible exact quiet_cg (HK.out _)))))
    refine wpQuiet_nil ?_
    intro w7 hf7
    go_wp2_with fail
    go_ret
    exact ⟨rfl, KF5.out.trans hf7⟩
theorem tells_walk (s : Sp) (r c d : Int) (w : World) : Calls Try.prog 3 #[spv s, .int .i64 r, rtv c d] w fun e w' => e = .returned (.bool true) ∧ Fr0 w w' := by
  have HCT := Lib.hid (fun U => bcheck_calls c d U)
  have HCR := Lib.hid (fun U => dright5_calls c d U)
  have HM := Lib.hid (fun U => dmay_calls s r c d U)
  unfold chkT at HCT
  by_cases h : MayP s r c d
  · rw [if_pos h.tm] at HCT
    rw [decide_eq_true h.tm] at HCR
    rw [decide_eq_true h] at HM
    have HR := Lib.hid (fun U => bRoom_yes s r c d h U)
    have HDR := Lib.hid (fun U => dRoom_calls s r c d h U)
    by_cases hb : 1000000000 < roomV s r c d
    · rw [if_pos hb, if_pos hb] at HR
      rw [if_pos hb, decide_eq_true hb] at HDR
      exact tells_yes_b s r c d _ _ _ _ w (Lib.hid (fun U => bBound_yes s r c d h U)) (Lib.hid (fun U => bTicks_yes s r c d h U)) HR HCT HCR HM (Lib.hid (fun U => dBound_calls s r c d h U)) (Lib.hid (fun U => dTicks_calls s r c d h U)) HDR
    · rw [if_neg hb, if_neg hb] at HR
      rw [if_neg hb, decide_eq_false hb] at HDR
      exact tells_yes_a s r c d _ _ _ _ w (Lib.hid (fun U => bBound_yes s r c d h U)) (Lib.hid (fun U => bTicks_yes s r c d h U)) HR HCT HCR HM (Lib.hid (fun U => dBound_calls s r c d h U)) (Lib.hid (fun U => dTicks_calls s r c d h U)) HDR
  · rw [decide_eq_false h] at HM
    have HB := Lib.hid (fun U => bBound_no s r c d h U)
    have HT := Lib.hid (fun U => bTicks_no s r c d h U)
    have HR := Lib.hid (fun U => bRoom_no s r c d h U)
    by_cases ht : TmOk c d
    · rw [if_pos ht] at HCT
      rw [decide_eq_true ht] at HCR
      exact tells_no_a s r c d w HB HT HR HCT HCR HM
    · rw [if_neg ht] at HCT
      rw [decide_eq_false ht] at HCR
      exact tells_no_b s r c d w HB HT HR HCT HCR HM
end Go.Proofs.Ytjldogfpccbkeaa
