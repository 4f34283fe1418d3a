/- Chapter 05: BoundMore walked (written by genBdM.py). -/
import Derived.Test.YtjldogfpccbkeaaBd7
import Derived.Test.YtjldogfpccbkeaaBd8
set_option linter.unusedVariables false
set_option linter.unusedSimpArgs false
namespace Go.Proofs.Ytjldogfpccbkeaa
open Go.RowKit
attribute [local go_sem] Oper.semAt_some

/-- A way of two. -/
theorem way2_calls (c0 d0 c1 d1 : Int) (V : World) (n : Nat) (hn : V.heap.size = n) :
    Calls Try.prog 28 #[.slice (some ⟨n, 0, none⟩) 2 2] (V.alloc (.cells #[.int .i64 c0, .int .i64 d0, .int .i64 c1, .int .i64 d1] 25)) fun e w' =>
      e = .returned (.tuple #[rtv (wayC [(c0, d0), (c1, d1)]) (wayD [(c0, d0), (c1, d1)]), .int .i64 (wayE [(c0, d0), (c1, d1)])]) ∧ Fr0 (V.alloc (.cells #[.int .i64 c0, .int .i64 d0, .int .i64 c1, .int .i64 d1] 25)) w' := by
  have HS := heap_an (.cells #[.int .i64 c0, .int .i64 d0, .int .i64 c1, .int .i64 d1] 25) hn
  exact bWay_calls (some ⟨n, 0, none⟩) 2 [(c0, d0), (c1, d1)] _ (.inr ⟨n, 0, rfl, fun h => h, fun i hi => by
      rw [cell_of_blk HS]
      have : i < 4 := hi
      match i, this with
      | 0, _ => rfl
      | 1, _ => rfl
      | 2, _ => rfl
      | 3, _ => rfl⟩) (by simp)
theorem way2_ok {c0 d0 c1 d1 : Int} (h : wayE [(c0, d0), (c1, d1)] = 0) : TmOk c0 d0 ∧ TmOk c1 d1 ∧ TmOk (c0 + c1) (d0 + d1) ∧ wayC [(c0, d0), (c1, d1)] = c0 + c1 ∧ wayD [(c0, d0), (c1, d1)] = d0 + d1 ∧
    wayC [(c1, d1), (c0, d0)] = c0 + c1 ∧ wayD [(c1, d1), (c0, d0)] = d0 + d1 ∧ wayE [(c1, d1), (c0, d0)] = 0 := by
  have e1 : wsC [(c0, d0), (c1, d1)] 2 = c0 + c1 ∧ wsD [(c0, d0), (c1, d1)] 2 = d0 + d1 := by unfold wsC wsD; simp
  have e2 : wsC [(c1, d1), (c0, d0)] 2 = c0 + c1 ∧ wsD [(c1, d1), (c0, d0)] 2 = d0 + d1 := by unfold wsC wsD; simp; omega
  by_cases ha : AllT [(c0, d0), (c1, d1)]
  · by_cases hw : WayOk [(c0, d0), (c1, d1)]
    · have hy := way_yes ha hw
      have ha2 : AllT [(c1, d1), (c0, d0)] := fun x hx => ha x (by simp at hx ⊢; exact hx.symm)
      have hw' : TmOk (c0 + c1) (d0 + d1) := by
        have : TmOk (wsC [(c0, d0), (c1, d1)] 2) (wsD [(c0, d0), (c1, d1)] 2) := hw
        rwa [e1.1, e1.2] at this
      have hw2 : WayOk [(c1, d1), (c0, d0)] := by
        show TmOk (wsC [(c1, d1), (c0, d0)] 2) (wsD [(c1, d1), (c0, d0)] 2)
        rw [e2.1, e2.2]; exact hw'
      have hy2 := way_yes ha2 hw2
      refine ⟨ha (c0, d0) (by simp), ha (c1, d1) (by simp), hw', hy.1.trans e1.1, hy.2.1.trans e1.2, hy2.1.trans e2.1, hy2.2.1.trans e2.2, hy2.2.2⟩
    · have := (way_no3 ha hw).2.2; omega
  · have := (way_no2 ha).2.2; omega
theorem cmp_not_less {n1 d1 n2 d2 : Int} (h : leF n1 d1 n2 d2) : decide (cmpN n2 d2 n1 d1 < 0) = false := by
  unfold leF at h
  refine decide_eq_false ?_
  unfold cmpN
  rw [if_neg (by omega)]
  split <;> omega
set_option maxHeartbeats 4000000 in
set_option maxRecDepth 20000 in
theorem more_no (s : Sp) (r c0 d0 c1 d1 wa wb k xn xk f yn yk g : Int) (w : World) (hk : k ≠ 0)
    (HW : Hid (∀ (V : World) (n : Nat), V.heap.size = n → Calls Try.prog 28 #[.slice (some ⟨n, 0, none⟩) 2 2] (V.alloc (.cells #[.int .i64 c0, .int .i64 d0, .int .i64 c1, .int .i64 d1] 25)) fun e w' => e = .returned (.tuple #[rtv wa wb, .int .i64 k]) ∧ Fr0 (V.alloc (.cells #[.int .i64 c0, .int .i64 d0, .int .i64 c1, .int .i64 d1] 25)) w'))
    (HX : Hid (∀ U, Calls Try.prog 8 #[spv s, .int .i64 r, rtv c0 d0] U fun e w' => e = .returned (.tuple #[rtv xn xk, .int .i64 f]) ∧ Fr0 U w'))
    (HY : Hid (∀ U, Calls Try.prog 8 #[spv s, .int .i64 r, rtv wa wb] U fun e w' => e = .returned (.tuple #[rtv yn yk, .int .i64 g]) ∧ Fr0 U w'))
    : Calls Try.prog 7 #[spv s, .int .i64 r, .agg #[.int .i64 c0, .int .i64 d0, .int .i64 c1, .int .i64 d1]] w fun e w' => e = .returned (.bool true) ∧ Fr0 w w' := by
  have HK := Lib.hid known5_calls
  have e1 : decide (k = 0) = false := decide_eq_false hk
  have e2 : (k == 0) = false := by simpa using hk
  have e3 : (k != 0) = true := by simpa using hk
  clear hk
  have KS0 := Lib.hid (blk_alloc (heap_alloc_new w (.cells (spc s) 23)) (.cells #[.int .i64 c0, .int .i64 d0, .int .i64 c1, .int .i64 d1] 65))
  have KX0 := Lib.hid (heap_an (w := w.alloc (.cells (spc s) 23)) (k := w.heap.size + 1) (.cells #[.int .i64 c0, .int .i64 d0, .int .i64 c1, .int .i64 d1] 65) (by simp))
  have KF0 := Lib.hid (((Fr.refl (fun _ => False) w).alloc (.cells (spc s) 23)).alloc (.cells #[.int .i64 c0, .int .i64 d0, .int .i64 c1, .int .i64 d1] 65))
  obtain ⟨_, _, _, _, _⟩ := sp_cells KS0.out
  have zX0 := cell_of_blk KX0.out 0; have zX1 := cell_of_blk KX0.out 1; have zX2 := cell_of_blk KX0.out 2; have zX3 := cell_of_blk KX0.out 3
  go_enter Try.func7, Try.ntmps7
  go_wp2_with (first
    | (go_at_call 28; (with_reducible refine (HW.out _ _ (by simp)).mono ?_); rintro _ v1 ⟨rfl, hf1⟩; have KS1 := Lib.hid (blk_alloc (hf1.blk (blk_alloc KS0.out (.cells #[.int .i64 c0, .int .i64 d0, .int .i64 c1, .int .i64 d1] 25)) (fun h => h)) (.cells (rtc wa wb) 25)); have KX1 := Lib.hid (blk_alloc (hf1.blk (blk_alloc KX0.out (.cells #[.int .i64 c0, .int .i64 d0, .int .i64 c1, .int .i64 d1] 25)) (fun h => h)) (.cells (rtc wa wb) 25)); have K11 := Lib.hid (heap_alloc_new v1 (.cells (rtc wa wb) 25)); have KF1 := Lib.hid ((((KF0.out).alloc (.cells #[.int .i64 c0, .int .i64 d0, .int .i64 c1, .int .i64 d1] 25)).trans hf1).alloc (.cells (rtc wa wb) 25)); clear KS0 KX0 KF0 hf1; obtain ⟨_, _, _, _, _⟩ := sp_cells KS1.out; have zX0 := cell_of_blk KX1.out 0; have zX1 := cell_of_blk KX1.out 1; have zX2 := cell_of_blk KX1.out 2; have zX3 := cell_of_blk KX1.out 3)
    | (go_at_call 8; (with_reducible refine (HX.out _).mono ?_); rintro _ v2 ⟨rfl, hf2⟩; have KS2 := Lib.hid (blk_alloc (hf2.blk KS1.out (fun h => h)) (.cells (rtc xn xk) 27)); have KX2 := Lib.hid (blk_alloc (hf2.blk KX1.out (fun h => h)) (.cells (rtc xn xk) 27)); have K12 := Lib.hid (blk_alloc (hf2.blk K11.out (fun h => h)) (.cells (rtc xn xk) 27)); have K22 := Lib.hid (heap_alloc_new v2 (.cells (rtc xn xk) 27)); have KF2 := Lib.hid ((KF1.out.trans hf2).alloc (.cells (rtc xn xk) 27)); clear KS1 KX1 K11 KF1 hf2; obtain ⟨_, _, _, _, _⟩ := sp_cells KS2.out; obtain ⟨_, _, _, _⟩ := two_facts K12.out)
    | (go_at_call 8; (with_reducible refine (HY.out _).mono ?_); rintro _ v3 ⟨rfl, hf3⟩; have KS3 := Lib.hid (blk_alloc (hf3.blk KS2.out (fun h => h)) (.cells (rtc yn yk) 27)); have KX3 := Lib.hid (blk_alloc (hf3.blk KX2.out (fun h => h)) (.cells (rtc yn yk) 27)); have K13 := Lib.hid (blk_alloc (hf3.blk K12.out (fun h => h)) (.cells (rtc yn yk) 27)); have K23 := Lib.hid (blk_alloc (hf3.blk K22.out (fun h => h)) (.cells (rtc yn yk) 27)); have K33 := Lib.hid (heap_alloc_new v3 (.cells (rtc yn yk) 27)); have KF3 := Lib.hid ((KF2.out.trans hf3).alloc (.cells (rtc yn yk) 27)); clear KS2 KX2 K12 K22 KF2 hf3)
    | (go_at_call 14; (with_reducible refine (HK.out _).mono ?_); rintro _ v4 ⟨rfl, hf4⟩; have KS4 := Lib.hid (hf4.blk KS3.out (fun h => h)); have KX4 := Lib.hid (hf4.blk KX3.out (fun h => h)); have K14 := Lib.hid (hf4.blk K13.out (fun h => h)); have K24 := Lib.hid (hf4.blk K23.out (fun h => h)); have K34 := Lib.hid (hf4.blk K33.out (fun h => h)); have KF4 := Lib.hid (KF3.out.trans hf4); clear KS3 KX3 K13 K23 K33 KF3 hf4)
    | fail)
  go_ret
  exact ⟨rfl, KF4.out⟩
set_option maxHeartbeats 4000000 in
set_option maxRecDepth 20000 in
theorem more_not (s : Sp) (r c0 d0 c1 d1 wa wb : Int) (w : World)
    (HW : Hid (∀ (V : World) (n : Nat), V.heap.size = n → Calls Try.prog 28 #[.slice (some ⟨n, 0, none⟩) 2 2] (V.alloc (.cells #[.int .i64 c0, .int .i64 d0, .int .i64 c1, .int .i64 d1] 25)) fun e w' => e = .returned (.tuple #[rtv wa wb, .int .i64 0]) ∧ Fr0 (V.alloc (.cells #[.int .i64 c0, .int .i64 d0, .int .i64 c1, .int .i64 d1] 25)) w'))
    (HX : Hid (∀ U, Calls Try.prog 8 #[spv s, .int .i64 r, rtv c0 d0] U fun e w' => e = .returned (.tuple #[rtv 0 0, .int .i64 2]) ∧ Fr0 U w'))
    (HY : Hid (∀ U, Calls Try.prog 8 #[spv s, .int .i64 r, rtv wa wb] U fun e w' => e = .returned (.tuple #[rtv 0 0, .int .i64 2]) ∧ Fr0 U w'))
    : Calls Try.prog 7 #[spv s, .int .i64 r, .agg #[.int .i64 c0, .int .i64 d0, .int .i64 c1, .int .i64 d1]] w fun e w' => e = .returned (.bool true) ∧ Fr0 w w' := by
  have HK := Lib.hid known5_calls
  have KS0 := Lib.hid (blk_alloc (heap_alloc_new w (.cells (spc s) 23)) (.cells #[.int .i64 c0, .int .i64 d0, .int .i64 c1, .int .i64 d1] 65))
  have KX0 := Lib.hid (heap_an (w := w.alloc (.cells (spc s) 23)) (k := w.heap.size + 1) (.cells #[.int .i64 c0, .int .i64 d0, .int .i64 c1, .int .i64 d1] 65) (by simp))
  have KF0 := Lib.hid (((Fr.refl (fun _ => False) w).alloc (.cells (spc s) 23)).alloc (.cells #[.int .i64 c0, .int .i64 d0, .int .i64 c1, .int .i64 d1] 65))
  obtain ⟨_, _, _, _, _⟩ := sp_cells KS0.out
  have zX0 := cell_of_blk KX0.out 0; have zX1 := cell_of_blk KX0.out 1; have zX2 := cell_of_blk KX0.out 2; have zX3 := cell_of_blk KX0.out 3
  go_enter Try.func7, Try.ntmps7
  go_wp2_with (first
    | (go_at_call 28; (with_reducible refine (HW.out _ _ (by simp)).mono ?_); rintro _ v1 ⟨rfl, hf1⟩; have KS1 := Lib.hid (blk_alloc (hf1.blk (blk_alloc KS0.out (.cells #[.int .i64 c0, .int .i64 d0, .int .i64 c1, .int .i64 d1] 25)) (fun h => h)) (.cells (rtc wa wb) 25)); have KX1 := Lib.hid (blk_alloc (hf1.blk (blk_alloc KX0.out (.cells #[.int .i64 c0, .int .i64 d0, .int .i64 c1, .int .i64 d1] 25)) (fun h => h)) (.cells (rtc wa wb) 25)); have K11 := Lib.hid (heap_alloc_new v1 (.cells (rtc wa wb) 25)); have KF1 := Lib.hid ((((KF0.out).alloc (.cells #[.int .i64 c0, .int .i64 d0, .int .i64 c1, .int .i64 d1] 25)).trans hf1).alloc (.cells (rtc wa wb) 25)); clear KS0 KX0 KF0 hf1; obtain ⟨_, _, _, _, _⟩ := sp_cells KS1.out; have zX0 := cell_of_blk KX1.out 0; have zX1 := cell_of_blk KX1.out 1; have zX2 := cell_of_blk KX1.out 2; have zX3 := cell_of_blk KX1.out 3)
    | (go_at_call 8; (with_reducible refine (HX.out _).mono ?_); rintro _ v2 ⟨rfl, hf2⟩; have KS2 := Lib.hid (blk_alloc (hf2.blk KS1.out (fun h => h)) (.cells (rtc 0 0) 27)); have KX2 := Lib.hid (blk_alloc (hf2.blk KX1.out (fun h => h)) (.cells (rtc 0 0) 27)); have K12 := Lib.hid (blk_alloc (hf2.blk K11.out (fun h => h)) (.cells (rtc 0 0) 27)); have K22 := Lib.hid (heap_alloc_new v2 (.cells (rtc 0 0) 27)); have KF2 := Lib.hid ((KF1.out.trans hf2).alloc (.cells (rtc 0 0) 27)); clear KS1 KX1 K11 KF1 hf2; obtain ⟨_, _, _, _, _⟩ := sp_cells KS2.out; obtain ⟨_, _, _, _⟩ := two_facts K12.out)
    | (go_at_call 8; (with_reducible refine (HY.out _).mono ?_); rintro _ v3 ⟨rfl, hf3⟩; have KS3 := Lib.hid (blk_alloc (hf3.blk KS2.out (fun h => h)) (.cells (rtc 0 0) 27)); have KX3 := Lib.hid (blk_alloc (hf3.blk KX2.out (fun h => h)) (.cells (rtc 0 0) 27)); have K13 := Lib.hid (blk_alloc (hf3.blk K12.out (fun h => h)) (.cells (rtc 0 0) 27)); have K23 := Lib.hid (blk_alloc (hf3.blk K22.out (fun h => h)) (.cells (rtc 0 0) 27)); have K33 := Lib.hid (heap_alloc_new v3 (.cells (rtc 0 0) 27)); have KF3 := Lib.hid ((KF2.out.trans hf3).alloc (.cells (rtc 0 0) 27)); clear KS2 KX2 K12 K22 KF2 hf3)
    | (go_at_call 14; (with_reducible refine (HK.out _).mono ?_); rintro _ v4 ⟨rfl, hf4⟩; have KS4 := Lib.hid (hf4.blk KS3.out (fun h => h)); have KX4 := Lib.hid (hf4.blk KX3.out (fun h => h)); have K14 := Lib.hid (hf4.blk K13.out (fun h => h)); have K24 := Lib.hid (hf4.blk K23.out (fun h => h)); have K34 := Lib.hid (hf4.blk K33.out (fun h => h)); have KF4 := Lib.hid (KF3.out.trans hf4); clear KS3 KX3 K13 K23 K33 KF3 hf4)
    | fail)
  go_ret
  exact ⟨rfl, KF4.out⟩
set_option maxHeartbeats 4000000 in
set_option maxRecDepth 20000 in
theorem more_yes_00 (s : Sp) (r c0 d0 c1 d1 wa wb xn xk yn yk zn zk cy cz t : Int) (w : World) (hcy : decide (cy < 0) = false) (hcz : decide (cz < 0) = false) (g1 : wrap64 (s.burst + 1) = s.burst + 1) (g2 : wrap64 (s.rate * t) = s.rate * t) (g3 : wrap64 (s.burst + s.rate * t) = s.burst + s.rate * t)
    (HW : Hid (∀ (V : World) (n : Nat), V.heap.size = n → Calls Try.prog 28 #[.slice (some ⟨n, 0, none⟩) 2 2] (V.alloc (.cells #[.int .i64 c0, .int .i64 d0, .int .i64 c1, .int .i64 d1] 25)) fun e w' => e = .returned (.tuple #[rtv wa wb, .int .i64 0]) ∧ Fr0 (V.alloc (.cells #[.int .i64 c0, .int .i64 d0, .int .i64 c1, .int .i64 d1] 25)) w'))
    (HV : Hid (∀ (V : World) (n : Nat), V.heap.size = n → Calls Try.prog 28 #[.slice (some ⟨n, 0, none⟩) 2 2] (V.alloc (.cells #[.int .i64 c1, .int .i64 d1, .int .i64 c0, .int .i64 d0] 25)) fun e w' => e = .returned (.tuple #[rtv wa wb, .int .i64 0]) ∧ Fr0 (V.alloc (.cells #[.int .i64 c1, .int .i64 d1, .int .i64 c0, .int .i64 d0] 25)) w'))
    (HX : Hid (∀ U, Calls Try.prog 8 #[spv s, .int .i64 r, rtv c0 d0] U fun e w' => e = .returned (.tuple #[rtv xn xk, .int .i64 0]) ∧ Fr0 U w'))
    (HY : Hid (∀ U, Calls Try.prog 8 #[spv s, .int .i64 r, rtv wa wb] U fun e w' => e = .returned (.tuple #[rtv yn yk, .int .i64 0]) ∧ Fr0 U w'))
    (HZ : Hid (∀ U, Calls Try.prog 8 #[spv ⟨s.peak, s.rate, s.burst + 1, s.most, s.least⟩, .int .i64 r, rtv c0 d0] U fun e w' => e = .returned (.tuple #[rtv zn zk, .int .i64 0]) ∧ Fr0 U w'))
    (HCY : Hid (∀ U, Calls Try.prog 24 #[rtv yn yk, rtv xn xk] U fun e w' => e = .returned (.int .i64 cy) ∧ Fr0 U w'))
    (HCZ : Hid (∀ U, Calls Try.prog 24 #[rtv zn zk, rtv xn xk] U fun e w' => e = .returned (.int .i64 cz) ∧ Fr0 U w'))
    (HT : Hid (∀ U, Calls Try.prog 9 #[spv s, .int .i64 r, rtv c0 d0] U fun e w' => e = .returned (.tuple #[.int .i64 t, .int .i64 0]) ∧ Fr0 U w'))
    (HR : Hid (∀ U, Calls Try.prog 10 #[spv s, .int .i64 r, rtv c0 d0] U fun e w' => e = .returned (.tuple #[.int .i64 (s.burst + s.rate * t), .int .i64 0]) ∧ Fr0 U w'))
    : Calls Try.prog 7 #[spv s, .int .i64 r, .agg #[.int .i64 c0, .int .i64 d0, .int .i64 c1, .int .i64 d1]] w fun e w' => e = .returned (.bool true) ∧ Fr0 w w' := by
  have HK := Lib.hid known5_calls
  have heqt := fun (U : World) => eq_tm wa wb wa wb U
  simp only [and_self, decide_true] at heqt
  have KS0 := Lib.hid (blk_alloc (heap_alloc_new w (.cells (spc s) 23)) (.cells #[.int .i64 c0, .int .i64 d0, .int .i64 c1, .int .i64 d1] 65))
  have KX0 := Lib.hid (heap_an (w := w.alloc (.cells (spc s) 23)) (k := w.heap.size + 1) (.cells #[.int .i64 c0, .int .i64 d0, .int .i64 c1, .int .i64 d1] 65) (by simp))
  have KF0 := Lib.hid (((Fr.refl (fun _ => False) w).alloc (.cells (spc s) 23)).alloc (.cells #[.int .i64 c0, .int .i64 d0, .int .i64 c1, .int .i64 d1] 65))
  obtain ⟨_, _, _, _, _⟩ := sp_cells KS0.out
  have zX0 := cell_of_blk KX0.out 0; have zX1 := cell_of_blk KX0.out 1; have zX2 := cell_of_blk KX0.out 2; have zX3 := cell_of_blk KX0.out 3
  go_enter Try.func7, Try.ntmps7
  go_upto_region 11 with (first
    | (go_at_call 28; (with_reducible refine (HW.out _ _ (by simp)).mono ?_); rintro _ v1 ⟨rfl, hf1⟩; have KS1 := Lib.hid (blk_alloc (hf1.blk (blk_alloc KS0.out (.cells #[.int .i64 c0, .int .i64 d0, .int .i64 c1, .int .i64 d1] 25)) (fun h => h)) (.cells (rtc wa wb) 25)); have KX1 := Lib.hid (blk_alloc (hf1.blk (blk_alloc KX0.out (.cells #[.int .i64 c0, .int .i64 d0, .int .i64 c1, .int .i64 d1] 25)) (fun h => h)) (.cells (rtc wa wb) 25)); have K11 := Lib.hid (heap_alloc_new v1 (.cells (rtc wa wb) 25)); have KF1 := Lib.hid ((((KF0.out).alloc (.cells #[.int .i64 c0, .int .i64 d0, .int .i64 c1, .int .i64 d1] 25)).trans hf1).alloc (.cells (rtc wa wb) 25)); clear KS0 KX0 KF0 hf1; obtain ⟨_, _, _, _, _⟩ := sp_cells KS1.out; have zX0 := cell_of_blk KX1.out 0; have zX1 := cell_of_blk KX1.out 1; have zX2 := cell_of_blk KX1.out 2; have zX3 := cell_of_blk KX1.out 3)
    | (go_at_call 8; (with_reducible refine (HX.out _).mono ?_); rintro _ v2 ⟨rfl, hf2⟩; have KS2 := Lib.hid (blk_alloc (hf2.blk KS1.out (fun h => h)) (.cells (rtc xn xk) 27)); have KX2 := Lib.hid (blk_alloc (hf2.blk KX1.out (fun h => h)) (.cells (rtc xn xk) 27)); have K12 := Lib.hid (blk_alloc (hf2.blk K11.out (fun h => h)) (.cells (rtc xn xk) 27)); have K22 := Lib.hid (heap_alloc_new v2 (.cells (rtc xn xk) 27)); have KF2 := Lib.hid ((KF1.out.trans hf2).alloc (.cells (rtc xn xk) 27)); clear KS1 KX1 K11 KF1 hf2; obtain ⟨_, _, _, _, _⟩ := sp_cells KS2.out; obtain ⟨_, _, _, _⟩ := two_facts K12.out)
    | (go_at_call 8; (with_reducible refine (HY.out _).mono ?_); rintro _ v3 ⟨rfl, hf3⟩; have KS3 := Lib.hid (blk_alloc (hf3.blk KS2.out (fun h => h)) (.cells (rtc yn yk) 27)); have KX3 := Lib.hid (blk_alloc (hf3.blk KX2.out (fun h => h)) (.cells (rtc yn yk) 27)); have K13 := Lib.hid (blk_alloc (hf3.blk K12.out (fun h => h)) (.cells (rtc yn yk) 27)); have K23 := Lib.hid (blk_alloc (hf3.blk K22.out (fun h => h)) (.cells (rtc yn yk) 27)); have K33 := Lib.hid (heap_alloc_new v3 (.cells (rtc yn yk) 27)); have KF3 := Lib.hid ((KF2.out.trans hf3).alloc (.cells (rtc yn yk) 27)); clear KS2 KX2 K12 K22 KF2 hf3; have zX0 := cell_of_blk KX3.out 0; have zX1 := cell_of_blk KX3.out 1; have zX2 := cell_of_blk KX3.out 2; have zX3 := cell_of_blk KX3.out 3)
    | (go_at_call 28; (with_reducible refine (HV.out _ _ (by simp)).mono ?_); rintro _ v4 ⟨rfl, hf4⟩; have KS4 := Lib.hid (blk_alloc (hf4.blk (blk_alloc KS3.out (.cells #[.int .i64 c1, .int .i64 d1, .int .i64 c0, .int .i64 d0] 25)) (fun h => h)) (.cells (rtc wa wb) 25)); have KX4 := Lib.hid (blk_alloc (hf4.blk (blk_alloc KX3.out (.cells #[.int .i64 c1, .int .i64 d1, .int .i64 c0, .int .i64 d0] 25)) (fun h => h)) (.cells (rtc wa wb) 25)); have K14 := Lib.hid (blk_alloc (hf4.blk (blk_alloc K13.out (.cells #[.int .i64 c1, .int .i64 d1, .int .i64 c0, .int .i64 d0] 25)) (fun h => h)) (.cells (rtc wa wb) 25)); have K24 := Lib.hid (blk_alloc (hf4.blk (blk_alloc K23.out (.cells #[.int .i64 c1, .int .i64 d1, .int .i64 c0, .int .i64 d0] 25)) (fun h => h)) (.cells (rtc wa wb) 25)); have K34 := Lib.hid (blk_alloc (hf4.blk (blk_alloc K33.out (.cells #[.int .i64 c1, .int .i64 d1, .int .i64 c0, .int .i64 d0] 25)) (fun h => h)) (.cells (rtc wa wb) 25)); have K44 := Lib.hid (heap_alloc_new v4 (.cells (rtc wa wb) 25)); have KF4 := Lib.hid ((((KF3.out).alloc (.cells #[.int .i64 c1, .int .i64 d1, .int .i64 c0, .int .i64 d0] 25)).trans hf4).alloc (.cells (rtc wa wb) 25)); clear KS3 KX3 K13 K23 K33 KF3 hf4; obtain ⟨_, _, _, _, _⟩ := sp_cells KS4.out; have zX0 := cell_of_blk KX4.out 0; have zX1 := cell_of_blk KX4.out 1; have zX2 := cell_of_blk KX4.out 2; have zX3 := cell_of_blk KX4.out 3)
    | fail)
  have KSq := Lib.hid (blk_alloc KS4.out (.cells (spc ⟨s.peak, s.rate, s.burst + 1, s.most, s.least⟩) 23))
  have KXq := Lib.hid (blk_alloc KX4.out (.cells (spc ⟨s.peak, s.rate, s.burst + 1, s.most, s.least⟩) 23))
  have K1q := Lib.hid (blk_alloc K14.out (.cells (spc ⟨s.peak, s.rate, s.burst + 1, s.most, s.least⟩) 23))
  have K2q := Lib.hid (blk_alloc K24.out (.cells (spc ⟨s.peak, s.rate, s.burst + 1, s.most, s.least⟩) 23))
  have K3q := Lib.hid (blk_alloc K34.out (.cells (spc ⟨s.peak, s.rate, s.burst + 1, s.most, s.least⟩) 23))
  have K4q := Lib.hid (blk_alloc K44.out (.cells (spc ⟨s.peak, s.rate, s.burst + 1, s.most, s.least⟩) 23))
  have KUq := Lib.hid (heap_an (w := v4.alloc (.cells (rtc wa wb) 25)) (k := v4.heap.size + 1) (.cells (spc ⟨s.peak, s.rate, s.burst + 1, s.most, s.least⟩) 23) (by simp))
  have KFq := Lib.hid (KF4.out.alloc (.cells (spc ⟨s.peak, s.rate, s.burst + 1, s.most, s.least⟩) 23))
  clear KS4 KX4 K14 K24 K34 K44 KF4
  obtain ⟨_, _, _, _, _⟩ := sp_cells KUq.out
  have yX0 := cell_of_blk KXq.out 0; have yX1 := cell_of_blk KXq.out 1; have yX2 := cell_of_blk KXq.out 2; have yX3 := cell_of_blk KXq.out 3
  go_wp2_with (first
    | (go_at_call 8; (with_reducible refine (HZ.out _).mono ?_); rintro _ v5 ⟨rfl, hf5⟩; have KS5 := Lib.hid (blk_alloc (hf5.blk KSq.out (fun h => h)) (.cells (rtc zn zk) 27)); have KX5 := Lib.hid (blk_alloc (hf5.blk KXq.out (fun h => h)) (.cells (rtc zn zk) 27)); have K15 := Lib.hid (blk_alloc (hf5.blk K1q.out (fun h => h)) (.cells (rtc zn zk) 27)); have K25 := Lib.hid (blk_alloc (hf5.blk K2q.out (fun h => h)) (.cells (rtc zn zk) 27)); have K35 := Lib.hid (blk_alloc (hf5.blk K3q.out (fun h => h)) (.cells (rtc zn zk) 27)); have K45 := Lib.hid (blk_alloc (hf5.blk K4q.out (fun h => h)) (.cells (rtc zn zk) 27)); have KU5 := Lib.hid (blk_alloc (hf5.blk KUq.out (fun h => h)) (.cells (rtc zn zk) 27)); have K55 := Lib.hid (heap_alloc_new v5 (.cells (rtc zn zk) 27)); have KF5 := Lib.hid ((KFq.out.trans hf5).alloc (.cells (rtc zn zk) 27)); clear KSq KXq K1q K2q K3q K4q KUq KFq hf5; obtain ⟨_, _, _, _⟩ := two_facts K45.out; obtain ⟨_, _, _, _⟩ := two_facts K15.out; obtain ⟨_, _, _, _⟩ := two_facts K25.out; obtain ⟨_, _, _, _⟩ := two_facts K35.out)
    | (go_at_call 24; (with_reducible refine (HCY.out _).mono ?_); rintro _ v6 ⟨rfl, hf6⟩; have KS6 := Lib.hid (hf6.blk KS5.out (fun h => h)); have KX6 := Lib.hid (hf6.blk KX5.out (fun h => h)); have K16 := Lib.hid (hf6.blk K15.out (fun h => h)); have K26 := Lib.hid (hf6.blk K25.out (fun h => h)); have K36 := Lib.hid (hf6.blk K35.out (fun h => h)); have K46 := Lib.hid (hf6.blk K45.out (fun h => h)); have KU6 := Lib.hid (hf6.blk KU5.out (fun h => h)); have K56 := Lib.hid (hf6.blk K55.out (fun h => h)); have KF6 := Lib.hid (KF5.out.trans hf6); clear KS5 KX5 K15 K25 K35 K45 KU5 K55 KF5 hf6; obtain ⟨_, _, _, _⟩ := two_facts K26.out; obtain ⟨_, _, _, _⟩ := two_facts K56.out; obtain ⟨_, _, _, _, _⟩ := sp_cells KS6.out; have zX0 := cell_of_blk KX6.out 0; have zX1 := cell_of_blk KX6.out 1; have zX2 := cell_of_blk KX6.out 2; have zX3 := cell_of_blk KX6.out 3)
    | (go_at_call 24; (with_reducible refine (HCZ.out _).mono ?_); rintro _ v7 ⟨rfl, hf7⟩; have KS7 := Lib.hid (hf7.blk KS6.out (fun h => h)); have KX7 := Lib.hid (hf7.blk KX6.out (fun h => h)); have K17 := Lib.hid (hf7.blk K16.out (fun h => h)); have K27 := Lib.hid (hf7.blk K26.out (fun h => h)); have K37 := Lib.hid (hf7.blk K36.out (fun h => h)); have K47 := Lib.hid (hf7.blk K46.out (fun h => h)); have KU7 := Lib.hid (hf7.blk KU6.out (fun h => h)); have K57 := Lib.hid (hf7.blk K56.out (fun h => h)); have KF7 := Lib.hid (KF6.out.trans hf7); clear KS6 KX6 K16 K26 K36 K46 KU6 K56 KF6 hf7; obtain ⟨_, _, _, _, _⟩ := sp_cells KS7.out; have zX0 := cell_of_blk KX7.out 0; have zX1 := cell_of_blk KX7.out 1; have zX2 := cell_of_blk KX7.out 2; have zX3 := cell_of_blk KX7.out 3)
    | (go_at_call 9; (with_reducible refine (HT.out _).mono ?_); rintro _ v8 ⟨rfl, hf8⟩; have KS8 := Lib.hid (hf8.blk KS7.out (fun h => h)); have KX8 := Lib.hid (hf8.blk KX7.out (fun h => h)); have K18 := Lib.hid (hf8.blk K17.out (fun h => h)); have K28 := Lib.hid (hf8.blk K27.out (fun h => h)); have K38 := Lib.hid (hf8.blk K37.out (fun h => h)); have K48 := Lib.hid (hf8.blk K47.out (fun h => h)); have KU8 := Lib.hid (hf8.blk KU7.out (fun h => h)); have K58 := Lib.hid (hf8.blk K57.out (fun h => h)); have KF8 := Lib.hid (KF7.out.trans hf8); clear KS7 KX7 K17 K27 K37 K47 KU7 K57 KF7 hf8; obtain ⟨_, _, _, _, _⟩ := sp_cells KS8.out; have zX0 := cell_of_blk KX8.out 0; have zX1 := cell_of_blk KX8.out 1; have zX2 := cell_of_blk KX8.out 2; have zX3 := cell_of_blk KX8.out 3)
    | (go_at_call 10; (with_reducible refine (HR.out _).mono ?_); rintro _ v9 ⟨rfl, hf9⟩; have KS9 := Lib.hid (hf9.blk KS8.out (fun h => h)); have KX9 := Lib.hid (hf9.blk KX8.out (fun h => h)); have K19 := Lib.hid (hf9.blk K18.out (fun h => h)); have K29 := Lib.hid (hf9.blk K28.out (fun h => h)); have K39 := Lib.hid (hf9.blk K38.out (fun h => h)); have K49 := Lib.hid (hf9.blk K48.out (fun h => h)); have KU9 := Lib.hid (hf9.blk KU8.out (fun h => h)); have K59 := Lib.hid (hf9.blk K58.out (fun h => h)); have KF9 := Lib.hid (KF8.out.trans hf9); clear KS8 KX8 K18 K28 K38 K48 KU8 K58 KF8 hf9; obtain ⟨_, _, _, _, _⟩ := sp_cells KS9.out)
    | (go_at_call 14; (with_reducible refine (HK.out _).mono ?_); rintro _ v10 ⟨rfl, hf10⟩; have KS10 := Lib.hid (hf10.blk KS9.out (fun h => h)); have KX10 := Lib.hid (hf10.blk KX9.out (fun h => h)); have K110 := Lib.hid (hf10.blk K19.out (fun h => h)); have K210 := Lib.hid (hf10.blk K29.out (fun h => h)); have K310 := Lib.hid (hf10.blk K39.out (fun h => h)); have K410 := Lib.hid (hf10.blk K49.out (fun h => h)); have KU10 := Lib.hid (hf10.blk KU9.out (fun h => h)); have K510 := Lib.hid (hf10.blk K59.out (fun h => h)); have KF10 := Lib.hid (KF9.out.trans hf10); clear KS9 KX9 K19 K29 K39 K49 KU9 K59 KF9 hf10)
    | fail)
  go_ret
  exact ⟨rfl, KF10.out⟩
set_option maxHeartbeats 4000000 in
set_option maxRecDepth 20000 in
theorem more_yes_03 (s : Sp) (r c0 d0 c1 d1 wa wb xn xk yn yk zn zk cy cz t : Int) (w : World) (hcy : decide (cy < 0) = false) (hcz : decide (cz < 0) = false) (g1 : wrap64 (s.burst + 1) = s.burst + 1) (g2 : wrap64 (s.rate * t) = s.rate * t) (g3 : wrap64 (s.burst + s.rate * t) = s.burst + s.rate * t)
    (HW : Hid (∀ (V : World) (n : Nat), V.heap.size = n → Calls Try.prog 28 #[.slice (some ⟨n, 0, none⟩) 2 2] (V.alloc (.cells #[.int .i64 c0, .int .i64 d0, .int .i64 c1, .int .i64 d1] 25)) fun e w' => e = .returned (.tuple #[rtv wa wb, .int .i64 0]) ∧ Fr0 (V.alloc (.cells #[.int .i64 c0, .int .i64 d0, .int .i64 c1, .int .i64 d1] 25)) w'))
    (HV : Hid (∀ (V : World) (n : Nat), V.heap.size = n → Calls Try.prog 28 #[.slice (some ⟨n, 0, none⟩) 2 2] (V.alloc (.cells #[.int .i64 c1, .int .i64 d1, .int .i64 c0, .int .i64 d0] 25)) fun e w' => e = .returned (.tuple #[rtv wa wb, .int .i64 0]) ∧ Fr0 (V.alloc (.cells #[.int .i64 c1, .int .i64 d1, .int .i64 c0, .int .i64 d0] 25)) w'))
    (HX : Hid (∀ U, Calls Try.prog 8 #[spv s, .int .i64 r, rtv c0 d0] U fun e w' => e = .returned (.tuple #[rtv xn xk, .int .i64 0]) ∧ Fr0 U w'))
    (HY : Hid (∀ U, Calls Try.prog 8 #[spv s, .int .i64 r, rtv wa wb] U fun e w' => e = .returned (.tuple #[rtv yn yk, .int .i64 0]) ∧ Fr0 U w'))
    (HZ : Hid (∀ U, Calls Try.prog 8 #[spv ⟨s.peak, s.rate, s.burst + 1, s.most, s.least⟩, .int .i64 r, rtv c0 d0] U fun e w' => e = .returned (.tuple #[rtv zn zk, .int .i64 0]) ∧ Fr0 U w'))
    (HCY : Hid (∀ U, Calls Try.prog 24 #[rtv yn yk, rtv xn xk] U fun e w' => e = .returned (.int .i64 cy) ∧ Fr0 U w'))
    (HCZ : Hid (∀ U, Calls Try.prog 24 #[rtv zn zk, rtv xn xk] U fun e w' => e = .returned (.int .i64 cz) ∧ Fr0 U w'))
    (HT : Hid (∀ U, Calls Try.prog 9 #[spv s, .int .i64 r, rtv c0 d0] U fun e w' => e = .returned (.tuple #[.int .i64 t, .int .i64 0]) ∧ Fr0 U w'))
    (HR : Hid (∀ U, Calls Try.prog 10 #[spv s, .int .i64 r, rtv c0 d0] U fun e w' => e = .returned (.tuple #[.int .i64 0, .int .i64 3]) ∧ Fr0 U w'))
    : Calls Try.prog 7 #[spv s, .int .i64 r, .agg #[.int .i64 c0, .int .i64 d0, .int .i64 c1, .int .i64 d1]] w fun e w' => e = .returned (.bool true) ∧ Fr0 w w' := by
  have HK := Lib.hid known5_calls
  have heqt := fun (U : World) => eq_tm wa wb wa wb U
  simp only [and_self, decide_true] at heqt
  have KS0 := Lib.hid (blk_alloc (heap_alloc_new w (.cells (spc s) 23)) (.cells #[.int .i64 c0, .int .i64 d0, .int .i64 c1, .int .i64 d1] 65))
  have KX0 := Lib.hid (heap_an (w := w.alloc (.cells (spc s) 23)) (k := w.heap.size + 1) (.cells #[.int .i64 c0, .int .i64 d0, .int .i64 c1, .int .i64 d1] 65) (by simp))
  have KF0 := Lib.hid (((Fr.refl (fun _ => False) w).alloc (.cells (spc s) 23)).alloc (.cells #[.int .i64 c0, .int .i64 d0, .int .i64 c1, .int .i64 d1] 65))
  obtain ⟨_, _, _, _, _⟩ := sp_cells KS0.out
  have zX0 := cell_of_blk KX0.out 0; have zX1 := cell_of_blk KX0.out 1; have zX2 := cell_of_blk KX0.out 2; have zX3 := cell_of_blk KX0.out 3
  go_enter Try.func7, Try.ntmps7
  go_upto_region 11 with (first
    | (go_at_call 28; (with_reducible refine (HW.out _ _ (by simp)).mono ?_); rintro _ v1 ⟨rfl, hf1⟩; have KS1 := Lib.hid (blk_alloc (hf1.blk (blk_alloc KS0.out (.cells #[.int .i64 c0, .int .i64 d0, .int .i64 c1, .int .i64 d1] 25)) (fun h => h)) (.cells (rtc wa wb) 25)); have KX1 := Lib.hid (blk_alloc (hf1.blk (blk_alloc KX0.out (.cells #[.int .i64 c0, .int .i64 d0, .int .i64 c1, .int .i64 d1] 25)) (fun h => h)) (.cells (rtc wa wb) 25)); have K11 := Lib.hid (heap_alloc_new v1 (.cells (rtc wa wb) 25)); have KF1 := Lib.hid ((((KF0.out).alloc (.cells #[.int .i64 c0, .int .i64 d0, .int .i64 c1, .int .i64 d1] 25)).trans hf1).alloc (.cells (rtc wa wb) 25)); clear KS0 KX0 KF0 hf1; obtain ⟨_, _, _, _, _⟩ := sp_cells KS1.out; have zX0 := cell_of_blk KX1.out 0; have zX1 := cell_of_blk KX1.out 1; have zX2 := cell_of_blk KX1.out 2; have zX3 := cell_of_blk KX1.out 3)
    | (go_at_call 8; (with_reducible refine (HX.out _).mono ?_); rintro _ v2 ⟨rfl, hf2⟩; have KS2 := Lib.hid (blk_alloc (hf2.blk KS1.out (fun h => h)) (.cells (rtc xn xk) 27)); have KX2 := Lib.hid (blk_alloc (hf2.blk KX1.out (fun h => h)) (.cells (rtc xn xk) 27)); have K12 := Lib.hid (blk_alloc (hf2.blk K11.out (fun h => h)) (.cells (rtc xn xk) 27)); have K22 := Lib.hid (heap_alloc_new v2 (.cells (rtc xn xk) 27)); have KF2 := Lib.hid ((KF1.out.trans hf2).alloc (.cells (rtc xn xk) 27)); clear KS1 KX1 K11 KF1 hf2; obtain ⟨_, _, _, _, _⟩ := sp_cells KS2.out; obtain ⟨_, _, _, _⟩ := two_facts K12.out)
    | (go_at_call 8; (with_reducible refine (HY.out _).mono ?_); rintro _ v3 ⟨rfl, hf3⟩; have KS3 := Lib.hid (blk_alloc (hf3.blk KS2.out (fun h => h)) (.cells (rtc yn yk) 27)); have KX3 := Lib.hid (blk_alloc (hf3.blk KX2.out (fun h => h)) (.cells (rtc yn yk) 27)); have K13 := Lib.hid (blk_alloc (hf3.blk K12.out (fun h => h)) (.cells (rtc yn yk) 27)); have K23 := Lib.hid (blk_alloc (hf3.blk K22.out (fun h => h)) (.cells (rtc yn yk) 27)); have K33 := Lib.hid (heap_alloc_new v3 (.cells (rtc yn yk) 27)); have KF3 := Lib.hid ((KF2.out.trans hf3).alloc (.cells (rtc yn yk) 27)); clear KS2 KX2 K12 K22 KF2 hf3; have zX0 := cell_of_blk KX3.out 0; have zX1 := cell_of_blk KX3.out 1; have zX2 := cell_of_blk KX3.out 2; have zX3 := cell_of_blk KX3.out 3)
    | (go_at_call 28; (with_reducible refine (HV.out _ _ (by simp)).mono ?_); rintro _ v4 ⟨rfl, hf4⟩; have KS4 := Lib.hid (blk_alloc (hf4.blk (blk_alloc KS3.out (.cells #[.int .i64 c1, .int .i64 d1, .int .i64 c0, .int .i64 d0] 25)) (fun h => h)) (.cells (rtc wa wb) 25)); have KX4 := Lib.hid (blk_alloc (hf4.blk (blk_alloc KX3.out (.cells #[.int .i64 c1, .int .i64 d1, .int .i64 c0, .int .i64 d0] 25)) (fun h => h)) (.cells (rtc wa wb) 25)); have K14 := Lib.hid (blk_alloc (hf4.blk (blk_alloc K13.out (.cells #[.int .i64 c1, .int .i64 d1, .int .i64 c0, .int .i64 d0] 25)) (fun h => h)) (.cells (rtc wa wb) 25)); have K24 := Lib.hid (blk_alloc (hf4.blk (blk_alloc K23.out (.cells #[.int .i64 c1, .int .i64 d1, .int .i64 c0, .int .i64 d0] 25)) (fun h => h)) (.cells (rtc wa wb) 25)); have K34 := Lib.hid (blk_alloc (hf4.blk (blk_alloc K33.out (.cells #[.int .i64 c1, .int .i64 d1, .int .i64 c0, .int .i64 d0] 25)) (fun h => h)) (.cells (rtc wa wb) 25)); have K44 := Lib.hid (heap_alloc_new v4 (.cells (rtc wa wb) 25)); have KF4 := Lib.hid ((((KF3.out).alloc (.cells #[.int .i64 c1, .int .i64 d1, .int .i64 c0, .int .i64 d0] 25)).trans hf4).alloc (.cells (rtc wa wb) 25)); clear KS3 KX3 K13 K23 K33 KF3 hf4; obtain ⟨_, _, _, _, _⟩ := sp_cells KS4.out; have zX0 := cell_of_blk KX4.out 0; have zX1 := cell_of_blk KX4.out 1; have zX2 := cell_of_blk KX4.out 2; have zX3 := cell_of_blk KX4.out 3)
    | fail)
  have KSq := Lib.hid (blk_alloc KS4.out (.cells (spc ⟨s.peak, s.rate, s.burst + 1, s.most, s.least⟩) 23))
  have KXq := Lib.hid (blk_alloc KX4.out (.cells (spc ⟨s.peak, s.rate, s.burst + 1, s.most, s.least⟩) 23))
  have K1q := Lib.hid (blk_alloc K14.out (.cells (spc ⟨s.peak, s.rate, s.burst + 1, s.most, s.least⟩) 23))
  have K2q := Lib.hid (blk_alloc K24.out (.cells (spc ⟨s.peak, s.rate, s.burst + 1, s.most, s.least⟩) 23))
  have K3q := Lib.hid (blk_alloc K34.out (.cells (spc ⟨s.peak, s.rate, s.burst + 1, s.most, s.least⟩) 23))
  have K4q := Lib.hid (blk_alloc K44.out (.cells (spc ⟨s.peak, s.rate, s.burst + 1, s.most, s.least⟩) 23))
  have KUq := Lib.hid (heap_an (w := v4.alloc (.cells (rtc wa wb) 25)) (k := v4.heap.size + 1) (.cells (spc ⟨s.peak, s.rate, s.burst + 1, s.most, s.least⟩) 23) (by simp))
  have KFq := Lib.hid (KF4.out.alloc (.cells (spc ⟨s.peak, s.rate, s.burst + 1, s.most, s.least⟩) 23))
  clear KS4 KX4 K14 K24 K34 K44 KF4
  obtain ⟨_, _, _, _, _⟩ := sp_cells KUq.out
  have yX0 := cell_of_blk KXq.out 0; have yX1 := cell_of_blk KXq.out 1; have yX2 := cell_of_blk KXq.out 2; have yX3 := cell_of_blk KXq.out 3
  go_wp2_with (first
    | (go_at_call 8; (with_reducible refine (HZ.out _).mono ?_); rintro _ v5 ⟨rfl, hf5⟩; have KS5 := Lib.hid (blk_alloc (hf5.blk KSq.out (fun h => h)) (.cells (rtc zn zk) 27)); have KX5 := Lib.hid (blk_alloc (hf5.blk KXq.out (fun h => h)) (.cells (rtc zn zk) 27)); have K15 := Lib.hid (blk_alloc (hf5.blk K1q.out (fun h => h)) (.cells (rtc zn zk) 27)); have K25 := Lib.hid (blk_alloc (hf5.blk K2q.out (fun h => h)) (.cells (rtc zn zk) 27)); have K35 := Lib.hid (blk_alloc (hf5.blk K3q.out (fun h => h)) (.cells (rtc zn zk) 27)); have K45 := Lib.hid (blk_alloc (hf5.blk K4q.out (fun h => h)) (.cells (rtc zn zk) 27)); have KU5 := Lib.hid (blk_alloc (hf5.blk KUq.out (fun h => h)) (.cells (rtc zn zk) 27)); have K55 := Lib.hid (heap_alloc_new v5 (.cells (rtc zn zk) 27)); have KF5 := Lib.hid ((KFq.out.trans hf5).alloc (.cells (rtc zn zk) 27)); clear KSq KXq K1q K2q K3q K4q KUq KFq hf5; obtain ⟨_, _, _, _⟩ := two_facts K45.out; obtain ⟨_, _, _, _⟩ := two_facts K15.out; obtain ⟨_, _, _, _⟩ := two_facts K25.out; obtain ⟨_, _, _, _⟩ := two_facts K35.out)
    | (go_at_call 24; (with_reducible refine (HCY.out _).mono ?_); rintro _ v6 ⟨rfl, hf6⟩; have KS6 := Lib.hid (hf6.blk KS5.out (fun h => h)); have KX6 := Lib.hid (hf6.blk KX5.out (fun h => h)); have K16 := Lib.hid (hf6.blk K15.out (fun h => h)); have K26 := Lib.hid (hf6.blk K25.out (fun h => h)); have K36 := Lib.hid (hf6.blk K35.out (fun h => h)); have K46 := Lib.hid (hf6.blk K45.out (fun h => h)); have KU6 := Lib.hid (hf6.blk KU5.out (fun h => h)); have K56 := Lib.hid (hf6.blk K55.out (fun h => h)); have KF6 := Lib.hid (KF5.out.trans hf6); clear KS5 KX5 K15 K25 K35 K45 KU5 K55 KF5 hf6; obtain ⟨_, _, _, _⟩ := two_facts K26.out; obtain ⟨_, _, _, _⟩ := two_facts K56.out; obtain ⟨_, _, _, _, _⟩ := sp_cells KS6.out; have zX0 := cell_of_blk KX6.out 0; have zX1 := cell_of_blk KX6.out 1; have zX2 := cell_of_blk KX6.out 2; have zX3 := cell_of_blk KX6.out 3)
    | (go_at_call 24; (with_reducible refine (HCZ.out _).mono ?_); rintro _ v7 ⟨rfl, hf7⟩; have KS7 := Lib.hid (hf7.blk KS6.out (fun h => h)); have KX7 := Lib.hid (hf7.blk KX6.out (fun h => h)); have K17 := Lib.hid (hf7.blk K16.out (fun h => h)); have K27 := Lib.hid (hf7.blk K26.out (fun h => h)); have K37 := Lib.hid (hf7.blk K36.out (fun h => h)); have K47 := Lib.hid (hf7.blk K46.out (fun h => h)); have KU7 := Lib.hid (hf7.blk KU6.out (fun h => h)); have K57 := Lib.hid (hf7.blk K56.out (fun h => h)); have KF7 := Lib.hid (KF6.out.trans hf7); clear KS6 KX6 K16 K26 K36 K46 KU6 K56 KF6 hf7; obtain ⟨_, _, _, _, _⟩ := sp_cells KS7.out; have zX0 := cell_of_blk KX7.out 0; have zX1 := cell_of_blk KX7.out 1; have zX2 := cell_of_blk KX7.out 2; have zX3 := cell_of_blk KX7.out 3)
    | (go_at_call 9; (with_reducible refine (HT.out _).mono ?_); rintro _ v8 ⟨rfl, hf8⟩; have KS8 := Lib.hid (hf8.blk KS7.out (fun h => h)); have KX8 := Lib.hid (hf8.blk KX7.out (fun h => h)); have K18 := Lib.hid (hf8.blk K17.out (fun h => h)); have K28 := Lib.hid (hf8.blk K27.out (fun h => h)); have K38 := Lib.hid (hf8.blk K37.out (fun h => h)); have K48 := Lib.hid (hf8.blk K47.out (fun h => h)); have KU8 := Lib.hid (hf8.blk KU7.out (fun h => h)); have K58 := Lib.hid (hf8.blk K57.out (fun h => h)); have KF8 := Lib.hid (KF7.out.trans hf8); clear KS7 KX7 K17 K27 K37 K47 KU7 K57 KF7 hf8; obtain ⟨_, _, _, _, _⟩ := sp_cells KS8.out; have zX0 := cell_of_blk KX8.out 0; have zX1 := cell_of_blk KX8.out 1; have zX2 := cell_of_blk KX8.out 2; have zX3 := cell_of_blk KX8.out 3)
    | (go_at_call 10; (with_reducible refine (HR.out _).mono ?_); rintro _ v9 ⟨rfl, hf9⟩; have KS9 := Lib.hid (hf9.blk KS8.out (fun h => h)); have KX9 := Lib.hid (hf9.blk KX8.out (fun h => h)); have K19 := Lib.hid (hf9.blk K18.out (fun h => h)); have K29 := Lib.hid (hf9.blk K28.out (fun h => h)); have K39 := Lib.hid (hf9.blk K38.out (fun h => h)); have K49 := Lib.hid (hf9.blk K48.out (fun h => h)); have KU9 := Lib.hid (hf9.blk KU8.out (fun h => h)); have K59 := Lib.hid (hf9.blk K58.out (fun h => h)); have KF9 := Lib.hid (KF8.out.trans hf9); clear KS8 KX8 K18 K28 K38 K48 KU8 K58 KF8 hf9; obtain ⟨_, _, _, _, _⟩ := sp_cells KS9.out)
    | (go_at_call 14; (with_reducible refine (HK.out _).mono ?_); rintro _ v10 ⟨rfl, hf10⟩; have KS10 := Lib.hid (hf10.blk KS9.out (fun h => h)); have KX10 := Lib.hid (hf10.blk KX9.out (fun h => h)); have K110 := Lib.hid (hf10.blk K19.out (fun h => h)); have K210 := Lib.hid (hf10.blk K29.out (fun h => h)); have K310 := Lib.hid (hf10.blk K39.out (fun h => h)); have K410 := Lib.hid (hf10.blk K49.out (fun h => h)); have KU10 := Lib.hid (hf10.blk KU9.out (fun h => h)); have K510 := Lib.hid (hf10.blk K59.out (fun h => h)); have KF10 := Lib.hid (KF9.out.trans hf10); clear KS9 KX9 K19 K29 K39 K49 KU9 K59 KF9 hf10)
    | fail)
  go_ret
  exact ⟨rfl, KF10.out⟩
set_option maxHeartbeats 4000000 in
set_option maxRecDepth 20000 in
theorem more_yes_20 (s : Sp) (r c0 d0 c1 d1 wa wb xn xk yn yk zn zk cy cz t : Int) (w : World) (hcy : decide (cy < 0) = false) (hcz : decide (cz < 0) = false) (g1 : wrap64 (s.burst + 1) = s.burst + 1) (g2 : wrap64 (s.rate * t) = s.rate * t) (g3 : wrap64 (s.burst + s.rate * t) = s.burst + s.rate * t)
    (HW : Hid (∀ (V : World) (n : Nat), V.heap.size = n → Calls Try.prog 28 #[.slice (some ⟨n, 0, none⟩) 2 2] (V.alloc (.cells #[.int .i64 c0, .int .i64 d0, .int .i64 c1, .int .i64 d1] 25)) fun e w' => e = .returned (.tuple #[rtv wa wb, .int .i64 0]) ∧ Fr0 (V.alloc (.cells #[.int .i64 c0, .int .i64 d0, .int .i64 c1, .int .i64 d1] 25)) w'))
    (HV : Hid (∀ (V : World) (n : Nat), V.heap.size = n → Calls Try.prog 28 #[.slice (some ⟨n, 0, none⟩) 2 2] (V.alloc (.cells #[.int .i64 c1, .int .i64 d1, .int .i64 c0, .int .i64 d0] 25)) fun e w' => e = .returned (.tuple #[rtv wa wb, .int .i64 0]) ∧ Fr0 (V.alloc (.cells #[.int .i64 c1, .int .i64 d1, .int .i64 c0, .int .i64 d0] 25)) w'))
    (HX : Hid (∀ U, Calls Try.prog 8 #[spv s, .int .i64 r, rtv c0 d0] U fun e w' => e = .returned (.tuple #[rtv xn xk, .int .i64 0]) ∧ Fr0 U w'))
    (HY : Hid (∀ U, Calls Try.prog 8 #[spv s, .int .i64 r, rtv wa wb] U fun e w' => e = .returned (.tuple #[rtv yn yk, .int .i64 0]) ∧ Fr0 U w'))
    (HZ : Hid (∀ U, Calls Try.prog 8 #[spv ⟨s.peak, s.rate, s.burst + 1, s.most, s.least⟩, .int .i64 r, rtv c0 d0] U fun e w' => e = .returned (.tuple #[rtv zn zk, .int .i64 2]) ∧ Fr0 U w'))
    (HCY : Hid (∀ U, Calls Try.prog 24 #[rtv yn yk, rtv xn xk] U fun e w' => e = .returned (.int .i64 cy) ∧ Fr0 U w'))
    (HT : Hid (∀ U, Calls Try.prog 9 #[spv s, .int .i64 r, rtv c0 d0] U fun e w' => e = .returned (.tuple #[.int .i64 t, .int .i64 0]) ∧ Fr0 U w'))
    (HR : Hid (∀ U, Calls Try.prog 10 #[spv s, .int .i64 r, rtv c0 d0] U fun e w' => e = .returned (.tuple #[.int .i64 (s.burst + s.rate * t), .int .i64 0]) ∧ Fr0 U w'))
    : Calls Try.prog 7 #[spv s, .int .i64 r, .agg #[.int .i64 c0, .int .i64 d0, .int .i64 c1, .int .i64 d1]] w fun e w' => e = .returned (.bool true) ∧ Fr0 w w' := by
  have HK := Lib.hid known5_calls
  have heqt := fun (U : World) => eq_tm wa wb wa wb U
  simp only [and_self, decide_true] at heqt
  have KS0 := Lib.hid (blk_alloc (heap_alloc_new w (.cells (spc s) 23)) (.cells #[.int .i64 c0, .int .i64 d0, .int .i64 c1, .int .i64 d1] 65))
  have KX0 := Lib.hid (heap_an (w := w.alloc (.cells (spc s) 23)) (k := w.heap.size + 1) (.cells #[.int .i64 c0, .int .i64 d0, .int .i64 c1, .int .i64 d1] 65) (by simp))
  have KF0 := Lib.hid (((Fr.refl (fun _ => False) w).alloc (.cells (spc s) 23)).alloc (.cells #[.int .i64 c0, .int .i64 d0, .int .i64 c1, .int .i64 d1] 65))
  obtain ⟨_, _, _, _, _⟩ := sp_cells KS0.out
  have zX0 := cell_of_blk KX0.out 0; have zX1 := cell_of_blk KX0.out 1; have zX2 := cell_of_blk KX0.out 2; have zX3 := cell_of_blk KX0.out 3
  go_enter Try.func7, Try.ntmps7
  go_upto_region 11 with (first
    | (go_at_call 28; (with_reducible refine (HW.out _ _ (by simp)).mono ?_); rintro _ v1 ⟨rfl, hf1⟩; have KS1 := Lib.hid (blk_alloc (hf1.blk (blk_alloc KS0.out (.cells #[.int .i64 c0, .int .i64 d0, .int .i64 c1, .int .i64 d1] 25)) (fun h => h)) (.cells (rtc wa wb) 25)); have KX1 := Lib.hid (blk_alloc (hf1.blk (blk_alloc KX0.out (.cells #[.int .i64 c0, .int .i64 d0, .int .i64 c1, .int .i64 d1] 25)) (fun h => h)) (.cells (rtc wa wb) 25)); have K11 := Lib.hid (heap_alloc_new v1 (.cells (rtc wa wb) 25)); have KF1 := Lib.hid ((((KF0.out).alloc (.cells #[.int .i64 c0, .int .i64 d0, .int .i64 c1, .int .i64 d1] 25)).trans hf1).alloc (.cells (rtc wa wb) 25)); clear KS0 KX0 KF0 hf1; obtain ⟨_, _, _, _, _⟩ := sp_cells KS1.out; have zX0 := cell_of_blk KX1.out 0; have zX1 := cell_of_blk KX1.out 1; have zX2 := cell_of_blk KX1.out 2; have zX3 := cell_of_blk KX1.out 3)
    | (go_at_call 8; (with_reducible refine (HX.out _).mono ?_); rintro _ v2 ⟨rfl, hf2⟩; have KS2 := Lib.hid (blk_alloc (hf2.blk KS1.out (fun h => h)) (.cells (rtc xn xk) 27)); have KX2 := Lib.hid (blk_alloc (hf2.blk KX1.out (fun h => h)) (.cells (rtc xn xk) 27)); have K12 := Lib.hid (blk_alloc (hf2.blk K11.out (fun h => h)) (.cells (rtc xn xk) 27)); have K22 := Lib.hid (heap_alloc_new v2 (.cells (rtc xn xk) 27)); have KF2 := Lib.hid ((KF1.out.trans hf2).alloc (.cells (rtc xn xk) 27)); clear KS1 KX1 K11 KF1 hf2; obtain ⟨_, _, _, _, _⟩ := sp_cells KS2.out; obtain ⟨_, _, _, _⟩ := two_facts K12.out)
    | (go_at_call 8; (with_reducible refine (HY.out _).mono ?_); rintro _ v3 ⟨rfl, hf3⟩; have KS3 := Lib.hid (blk_alloc (hf3.blk KS2.out (fun h => h)) (.cells (rtc yn yk) 27)); have KX3 := Lib.hid (blk_alloc (hf3.blk KX2.out (fun h => h)) (.cells (rtc yn yk) 27)); have K13 := Lib.hid (blk_alloc (hf3.blk K12.out (fun h => h)) (.cells (rtc yn yk) 27)); have K23 := Lib.hid (blk_alloc (hf3.blk K22.out (fun h => h)) (.cells (rtc yn yk) 27)); have K33 := Lib.hid (heap_alloc_new v3 (.cells (rtc yn yk) 27)); have KF3 := Lib.hid ((KF2.out.trans hf3).alloc (.cells (rtc yn yk) 27)); clear KS2 KX2 K12 K22 KF2 hf3; have zX0 := cell_of_blk KX3.out 0; have zX1 := cell_of_blk KX3.out 1; have zX2 := cell_of_blk KX3.out 2; have zX3 := cell_of_blk KX3.out 3)
    | (go_at_call 28; (with_reducible refine (HV.out _ _ (by simp)).mono ?_); rintro _ v4 ⟨rfl, hf4⟩; have KS4 := Lib.hid (blk_alloc (hf4.blk (blk_alloc KS3.out (.cells #[.int .i64 c1, .int .i64 d1, .int .i64 c0, .int .i64 d0] 25)) (fun h => h)) (.cells (rtc wa wb) 25)); have KX4 := Lib.hid (blk_alloc (hf4.blk (blk_alloc KX3.out (.cells #[.int .i64 c1, .int .i64 d1, .int .i64 c0, .int .i64 d0] 25)) (fun h => h)) (.cells (rtc wa wb) 25)); have K14 := Lib.hid (blk_alloc (hf4.blk (blk_alloc K13.out (.cells #[.int .i64 c1, .int .i64 d1, .int .i64 c0, .int .i64 d0] 25)) (fun h => h)) (.cells (rtc wa wb) 25)); have K24 := Lib.hid (blk_alloc (hf4.blk (blk_alloc K23.out (.cells #[.int .i64 c1, .int .i64 d1, .int .i64 c0, .int .i64 d0] 25)) (fun h => h)) (.cells (rtc wa wb) 25)); have K34 := Lib.hid (blk_alloc (hf4.blk (blk_alloc K33.out (.cells #[.int .i64 c1, .int .i64 d1, .int .i64 c0, .int .i64 d0] 25)) (fun h => h)) (.cells (rtc wa wb) 25)); have K44 := Lib.hid (heap_alloc_new v4 (.cells (rtc wa wb) 25)); have KF4 := Lib.hid ((((KF3.out).alloc (.cells #[.int .i64 c1, .int .i64 d1, .int .i64 c0, .int .i64 d0] 25)).trans hf4).alloc (.cells (rtc wa wb) 25)); clear KS3 KX3 K13 K23 K33 KF3 hf4; obtain ⟨_, _, _, _, _⟩ := sp_cells KS4.out; have zX0 := cell_of_blk KX4.out 0; have zX1 := cell_of_blk KX4.out 1; have zX2 := cell_of_blk KX4.out 2; have zX3 := cell_of_blk KX4.out 3)
    | fail)
  have KSq := Lib.hid (blk_alloc KS4.out (.cells (spc ⟨s.peak, s.rate, s.burst + 1, s.most, s.least⟩) 23))
  have KXq := Lib.hid (blk_alloc KX4.out (.cells (spc ⟨s.peak, s.rate, s.burst + 1, s.most, s.least⟩) 23))
  have K1q := Lib.hid (blk_alloc K14.out (.cells (spc ⟨s.peak, s.rate, s.burst + 1, s.most, s.least⟩) 23))
  have K2q := Lib.hid (blk_alloc K24.out (.cells (spc ⟨s.peak, s.rate, s.burst + 1, s.most, s.least⟩) 23))
  have K3q := Lib.hid (blk_alloc K34.out (.cells (spc ⟨s.peak, s.rate, s.burst + 1, s.most, s.least⟩) 23))
  have K4q := Lib.hid (blk_alloc K44.out (.cells (spc ⟨s.peak, s.rate, s.burst + 1, s.most, s.least⟩) 23))
  have KUq := Lib.hid (heap_an (w := v4.alloc (.cells (rtc wa wb) 25)) (k := v4.heap.size + 1) (.cells (spc ⟨s.peak, s.rate, s.burst + 1, s.most, s.least⟩) 23) (by simp))
  have KFq := Lib.hid (KF4.out.alloc (.cells (spc ⟨s.peak, s.rate, s.burst + 1, s.most, s.least⟩) 23))
  clear KS4 KX4 K14 K24 K34 K44 KF4
  obtain ⟨_, _, _, _, _⟩ := sp_cells KUq.out
  have yX0 := cell_of_blk KXq.out 0; have yX1 := cell_of_blk KXq.out 1; have yX2 := cell_of_blk KXq.out 2; have yX3 := cell_of_blk KXq.out 3
  go_wp2_with (first
    | (go_at_call 8; (with_reducible refine (HZ.out _).mono ?_); rintro _ v5 ⟨rfl, hf5⟩; have KS5 := Lib.hid (blk_alloc (hf5.blk KSq.out (fun h => h)) (.cells (rtc zn zk) 27)); have KX5 := Lib.hid (blk_alloc (hf5.blk KXq.out (fun h => h)) (.cells (rtc zn zk) 27)); have K15 := Lib.hid (blk_alloc (hf5.blk K1q.out (fun h => h)) (.cells (rtc zn zk) 27)); have K25 := Lib.hid (blk_alloc (hf5.blk K2q.out (fun h => h)) (.cells (rtc zn zk) 27)); have K35 := Lib.hid (blk_alloc (hf5.blk K3q.out (fun h => h)) (.cells (rtc zn zk) 27)); have K45 := Lib.hid (blk_alloc (hf5.blk K4q.out (fun h => h)) (.cells (rtc zn zk) 27)); have KU5 := Lib.hid (blk_alloc (hf5.blk KUq.out (fun h => h)) (.cells (rtc zn zk) 27)); have K55 := Lib.hid (heap_alloc_new v5 (.cells (rtc zn zk) 27)); have KF5 := Lib.hid ((KFq.out.trans hf5).alloc (.cells (rtc zn zk) 27)); clear KSq KXq K1q K2q K3q K4q KUq KFq hf5; obtain ⟨_, _, _, _⟩ := two_facts K45.out; obtain ⟨_, _, _, _⟩ := two_facts K15.out; obtain ⟨_, _, _, _⟩ := two_facts K25.out; obtain ⟨_, _, _, _⟩ := two_facts K35.out)
    | (go_at_call 24; (with_reducible refine (HCY.out _).mono ?_); rintro _ v6 ⟨rfl, hf6⟩; have KS6 := Lib.hid (hf6.blk KS5.out (fun h => h)); have KX6 := Lib.hid (hf6.blk KX5.out (fun h => h)); have K16 := Lib.hid (hf6.blk K15.out (fun h => h)); have K26 := Lib.hid (hf6.blk K25.out (fun h => h)); have K36 := Lib.hid (hf6.blk K35.out (fun h => h)); have K46 := Lib.hid (hf6.blk K45.out (fun h => h)); have KU6 := Lib.hid (hf6.blk KU5.out (fun h => h)); have K56 := Lib.hid (hf6.blk K55.out (fun h => h)); have KF6 := Lib.hid (KF5.out.trans hf6); clear KS5 KX5 K15 K25 K35 K45 KU5 K55 KF5 hf6; obtain ⟨_, _, _, _, _⟩ := sp_cells KS6.out; have zX0 := cell_of_blk KX6.out 0; have zX1 := cell_of_blk KX6.out 1; have zX2 := cell_of_blk KX6.out 2; have zX3 := cell_of_blk KX6.out 3)
    | (go_at_call 9; (with_reducible refine (HT.out _).mono ?_); rintro _ v7 ⟨rfl, hf7⟩; have KS7 := Lib.hid (hf7.blk KS6.out (fun h => h)); have KX7 := Lib.hid (hf7.blk KX6.out (fun h => h)); have K17 := Lib.hid (hf7.blk K16.out (fun h => h)); have K27 := Lib.hid (hf7.blk K26.out (fun h => h)); have K37 := Lib.hid (hf7.blk K36.out (fun h => h)); have K47 := Lib.hid (hf7.blk K46.out (fun h => h)); have KU7 := Lib.hid (hf7.blk KU6.out (fun h => h)); have K57 := Lib.hid (hf7.blk K56.out (fun h => h)); have KF7 := Lib.hid (KF6.out.trans hf7); clear KS6 KX6 K16 K26 K36 K46 KU6 K56 KF6 hf7; obtain ⟨_, _, _, _, _⟩ := sp_cells KS7.out; have zX0 := cell_of_blk KX7.out 0; have zX1 := cell_of_blk KX7.out 1; have zX2 := cell_of_blk KX7.out 2; have zX3 := cell_of_blk KX7.out 3)
    | (go_at_call 10; (with_reducible refine (HR.out _).mono ?_); rintro _ v8 ⟨rfl, hf8⟩; have KS8 := Lib.hid (hf8.blk KS7.out (fun h => h)); have KX8 := Lib.hid (hf8.blk KX7.out (fun h => h)); have K18 := Lib.hid (hf8.blk K17.out (fun h => h)); have K28 := Lib.hid (hf8.blk K27.out (fun h => h)); have K38 := Lib.hid (hf8.blk K37.out (fun h => h)); have K48 := Lib.hid (hf8.blk K47.out (fun h => h)); have KU8 := Lib.hid (hf8.blk KU7.out (fun h => h)); have K58 := Lib.hid (hf8.blk K57.out (fun h => h)); have KF8 := Lib.hid (KF7.out.trans hf8); clear KS7 KX7 K17 K27 K37 K47 KU7 K57 KF7 hf8; obtain ⟨_, _, _, _, _⟩ := sp_cells KS8.out)
    | (go_at_call 14; (with_reducible refine (HK.out _).mono ?_); rintro _ v9 ⟨rfl, hf9⟩; have KS9 := Lib.hid (hf9.blk KS8.out (fun h => h)); have KX9 := Lib.hid (hf9.blk KX8.out (fun h => h)); have K19 := Lib.hid (hf9.blk K18.out (fun h => h)); have K29 := Lib.hid (hf9.blk K28.out (fun h => h)); have K39 := Lib.hid (hf9.blk K38.out (fun h => h)); have K49 := Lib.hid (hf9.blk K48.out (fun h => h)); have KU9 := Lib.hid (hf9.blk KU8.out (fun h => h)); have K59 := Lib.hid (hf9.blk K58.out (fun h => h)); have KF9 := Lib.hid (KF8.out.trans hf9); clear KS8 KX8 K18 K28 K38 K48 KU8 K58 KF8 hf9)
    | fail)
  go_ret
  exact ⟨rfl, KF9.out⟩
set_option maxHeartbeats 4000000 in
set_option maxRecDepth 20000 in
theorem more_yes_23 (s : Sp) (r c0 d0 c1 d1 wa wb xn xk yn yk zn zk cy cz t : Int) (w : World) (hcy : decide (cy < 0) = false) (hcz : decide (cz < 0) = false) (g1 : wrap64 (s.burst + 1) = s.burst + 1) (g2 : wrap64 (s.rate * t) = s.rate * t) (g3 : wrap64 (s.burst + s.rate * t) = s.burst + s.rate * t)
    (HW : Hid (∀ (V : World) (n : Nat), V.heap.size = n → Calls Try.prog 28 #[.slice (some ⟨n, 0, none⟩) 2 2] (V.alloc (.cells #[.int .i64 c0, .int .i64 d0, .int .i64 c1, .int .i64 d1] 25)) fun e w' => e = .returned (.tuple #[rtv wa wb, .int .i64 0]) ∧ Fr0 (V.alloc (.cells #[.int .i64 c0, .int .i64 d0, .int .i64 c1, .int .i64 d1] 25)) w'))
    (HV : Hid (∀ (V : World) (n : Nat), V.heap.size = n → Calls Try.prog 28 #[.slice (some ⟨n, 0, none⟩) 2 2] (V.alloc (.cells #[.int .i64 c1, .int .i64 d1, .int .i64 c0, .int .i64 d0] 25)) fun e w' => e = .returned (.tuple #[rtv wa wb, .int .i64 0]) ∧ Fr0 (V.alloc (.cells #[.int .i64 c1, .int .i64 d1, .int .i64 c0, .int .i64 d0] 25)) w'))
    (HX : Hid (∀ U, Calls Try.prog 8 #[spv s, .int .i64 r, rtv c0 d0] U fun e w' => e = .returned (.tuple #[rtv xn xk, .int .i64 0]) ∧ Fr0 U w'))
    (HY : Hid (∀ U, Calls Try.prog 8 #[spv s, .int .i64 r, rtv wa wb] U fun e w' => e = .returned (.tuple #[rtv yn yk, .int .i64 0]) ∧ Fr0 U w'))
    (HZ : Hid (∀ U, Calls Try.prog 8 #[spv ⟨s.peak, s.rate, s.burst + 1, s.most, s.least⟩, .int .i64 r, rtv c0 d0] U fun e w' => e = .returned (.tuple #[rtv zn zk, .int .i64 2]) ∧ Fr0 U w'))
    (HCY : Hid (∀ U, Calls Try.prog 24 #[rtv yn yk, rtv xn xk] U fun e w' => e = .returned (.int .i64 cy) ∧ Fr0 U w'))
    (HT : Hid (∀ U, Calls Try.prog 9 #[spv s, .int .i64 r, rtv c0 d0] U fun e w' => e = .returned (.tuple #[.int .i64 t, .int .i64 0]) ∧ Fr0 U w'))
    (HR : Hid (∀ U, Calls Try.prog 10 #[spv s, .int .i64 r, rtv c0 d0] U fun e w' => e = .returned (.tuple #[.int .i64 0, .int .i64 3]) ∧ Fr0 U w'))
    : Calls Try.prog 7 #[spv s, .int .i64 r, .agg #[.int .i64 c0, .int .i64 d0, .int .i64 c1, .int .i64 d1]] w fun e w' => e = .returned (.bool true) ∧ Fr0 w w' := by
  have HK := Lib.hid known5_calls
  have heqt := fun (U : World) => eq_tm wa wb wa wb U
  simp only [and_self, decide_true] at heqt
  have KS0 := Lib.hid (blk_alloc (heap_alloc_new w (.cells (spc s) 23)) (.cells #[.int .i64 c0, .int .i64 d0, .int .i64 c1, .int .i64 d1] 65))
  have KX0 := Lib.hid (heap_an (w := w.alloc (.cells (spc s) 23)) (k := w.heap.size + 1) (.cells #[.int .i64 c0, .int .i64 d0, .int .i64 c1, .int .i64 d1] 65) (by simp))
  have KF0 := Lib.hid (((Fr.refl (fun _ => False) w).alloc (.cells (spc s) 23)).alloc (.cells #[.int .i64 c0, .int .i64 d0, .int .i64 c1, .int .i64 d1] 65))
  obtain ⟨_, _, _, _, _⟩ := sp_cells KS0.out
  have zX0 := cell_of_blk KX0.out 0; have zX1 := cell_of_blk KX0.out 1; have zX2 := cell_of_blk KX0.out 2; have zX3 := cell_of_blk KX0.out 3
  go_enter Try.func7, Try.ntmps7
  go_upto_region 11 with (first
    | (go_at_call 28; (with_reducible refine (HW.out _ _ (by simp)).mono ?_); rintro _ v1 ⟨rfl, hf1⟩; have KS1 := Lib.hid (blk_alloc (hf1.blk (blk_alloc KS0.out (.cells #[.int .i64 c0, .int .i64 d0, .int .i64 c1, .int .i64 d1] 25)) (fun h => h)) (.cells (rtc wa wb) 25)); have KX1 := Lib.hid (blk_alloc (hf1.blk (blk_alloc KX0.out (.cells #[.int .i64 c0, .int .i64 d0, .int .i64 c1, .int .i64 d1] 25)) (fun h => h)) (.cells (rtc wa wb) 25)); have K11 := Lib.hid (heap_alloc_new v1 (.cells (rtc wa wb) 25)); have KF1 := Lib.hid ((((KF0.out).alloc (.cells #[.int .i64 c0, .int .i64 d0, .int .i64 c1, .int .i64 d1] 25)).trans hf1).alloc (.cells (rtc wa wb) 25)); clear KS0 KX0 KF0 hf1; obtain ⟨_, _, _, _, _⟩ := sp_cells KS1.out; have zX0 := cell_of_blk KX1.out 0; have zX1 := cell_of_blk KX1.out 1; have zX2 := cell_of_blk KX1.out 2; have zX3 := cell_of_blk KX1.out 3)
    | (go_at_call 8; (with_reducible refine (HX.out _).mono ?_); rintro _ v2 ⟨rfl, hf2⟩; have KS2 := Lib.hid (blk_alloc (hf2.blk KS1.out (fun h => h)) (.cells (rtc xn xk) 27)); have KX2 := Lib.hid (blk_alloc (hf2.blk KX1.out (fun h => h)) (.cells (rtc xn xk) 27)); have K12 := Lib.hid (blk_alloc (hf2.blk K11.out (fun h => h)) (.cells (rtc xn xk) 27)); have K22 := Lib.hid (heap_alloc_new v2 (.cells (rtc xn xk) 27)); have KF2 := Lib.hid ((KF1.out.trans hf2).alloc (.cells (rtc xn xk) 27)); clear KS1 KX1 K11 KF1 hf2; obtain ⟨_, _, _, _, _⟩ := sp_cells KS2.out; obtain ⟨_, _, _, _⟩ := two_facts K12.out)
    | (go_at_call 8; (with_reducible refine (HY.out _).mono ?_); rintro _ v3 ⟨rfl, hf3⟩; have KS3 := Lib.hid (blk_alloc (hf3.blk KS2.out (fun h => h)) (.cells (rtc yn yk) 27)); have KX3 := Lib.hid (blk_alloc (hf3.blk KX2.out (fun h => h)) (.cells (rtc yn yk) 27)); have K13 := Lib.hid (blk_alloc (hf3.blk K12.out (fun h => h)) (.cells (rtc yn yk) 27)); have K23 := Lib.hid (blk_alloc (hf3.blk K22.out (fun h => h)) (.cells (rtc yn yk) 27)); have K33 := Lib.hid (heap_alloc_new v3 (.cells (rtc yn yk) 27)); have KF3 := Lib.hid ((KF2.out.trans hf3).alloc (.cells (rtc yn yk) 27)); clear KS2 KX2 K12 K22 KF2 hf3; have zX0 := cell_of_blk KX3.out 0; have zX1 := cell_of_blk KX3.out 1; have zX2 := cell_of_blk KX3.out 2; have zX3 := cell_of_blk KX3.out 3)
    | (go_at_call 28; (with_reducible refine (HV.out _ _ (by simp)).mono ?_); rintro _ v4 ⟨rfl, hf4⟩; have KS4 := Lib.hid (blk_alloc (hf4.blk (blk_alloc KS3.out (.cells #[.int .i64 c1, .int .i64 d1, .int .i64 c0, .int .i64 d0] 25)) (fun h => h)) (.cells (rtc wa wb) 25)); have KX4 := Lib.hid (blk_alloc (hf4.blk (blk_alloc KX3.out (.cells #[.int .i64 c1, .int .i64 d1, .int .i64 c0, .int .i64 d0] 25)) (fun h => h)) (.cells (rtc wa wb) 25)); have K14 := Lib.hid (blk_alloc (hf4.blk (blk_alloc K13.out (.cells #[.int .i64 c1, .int .i64 d1, .int .i64 c0, .int .i64 d0] 25)) (fun h => h)) (.cells (rtc wa wb) 25)); have K24 := Lib.hid (blk_alloc (hf4.blk (blk_alloc K23.out (.cells #[.int .i64 c1, .int .i64 d1, .int .i64 c0, .int .i64 d0] 25)) (fun h => h)) (.cells (rtc wa wb) 25)); have K34 := Lib.hid (blk_alloc (hf4.blk (blk_alloc K33.out (.cells #[.int .i64 c1, .int .i64 d1, .int .i64 c0, .int .i64 d0] 25)) (fun h => h)) (.cells (rtc wa wb) 25)); have K44 := Lib.hid (heap_alloc_new v4 (.cells (rtc wa wb) 25)); have KF4 := Lib.hid ((((KF3.out).alloc (.cells #[.int .i64 c1, .int .i64 d1, .int .i64 c0, .int .i64 d0] 25)).trans hf4).alloc (.cells (rtc wa wb) 25)); clear KS3 KX3 K13 K23 K33 KF3 hf4; obtain ⟨_, _, _, _, _⟩ := sp_cells KS4.out; have zX0 := cell_of_blk KX4.out 0; have zX1 := cell_of_blk KX4.out 1; have zX2 := cell_of_blk KX4.out 2; have zX3 := cell_of_blk KX4.out 3)
    | fail)
  have KSq := Lib.hid (blk_alloc KS4.out (.cells (spc ⟨s.peak, s.rate, s.burst + 1, s.most, s.least⟩) 23))
  have KXq := Lib.hid (blk_alloc KX4.out (.cells (spc ⟨s.peak, s.rate, s.burst + 1, s.most, s.least⟩) 23))
  have K1q := Lib.hid (blk_alloc K14.out (.cells (spc ⟨s.peak, s.rate, s.burst + 1, s.most, s.least⟩) 23))
  have K2q := Lib.hid (blk_alloc K24.out (.cells (spc ⟨s.peak, s.rate, s.burst + 1, s.most, s.least⟩) 23))
  have K3q := Lib.hid (blk_alloc K34.out (.cells (spc ⟨s.peak, s.rate, s.burst + 1, s.most, s.least⟩) 23))
  have K4q := Lib.hid (blk_alloc K44.out (.cells (spc ⟨s.peak, s.rate, s.burst + 1, s.most, s.least⟩) 23))
  have KUq := Lib.hid (heap_an (w := v4.alloc (.cells (rtc wa wb) 25)) (k := v4.heap.size + 1) (.cells (spc ⟨s.peak, s.rate, s.burst + 1, s.most, s.least⟩) 23) (by simp))
  have KFq := Lib.hid (KF4.out.alloc (.cells (spc ⟨s.peak, s.rate, s.burst + 1, s.most, s.least⟩) 23))
  clear KS4 KX4 K14 K24 K34 K44 KF4
  obtain ⟨_, _, _, _, _⟩ := sp_cells KUq.out
  have yX0 := cell_of_blk KXq.out 0; have yX1 := cell_of_blk KXq.out 1; have yX2 := cell_of_blk KXq.out 2; have yX3 := cell_of_blk KXq.out 3
  go_wp2_with (first
    | (go_at_call 8; (with_reducible refine (HZ.out _).mono ?_); rintro _ v5 ⟨rfl, hf5⟩; have KS5 := Lib.hid (blk_alloc (hf5.blk KSq.out (fun h => h)) (.cells (rtc zn zk) 27)); have KX5 := Lib.hid (blk_alloc (hf5.blk KXq.out (fun h => h)) (.cells (rtc zn zk) 27)); have K15 := Lib.hid (blk_alloc (hf5.blk K1q.out (fun h => h)) (.cells (rtc zn zk) 27)); have K25 := Lib.hid (blk_alloc (hf5.blk K2q.out (fun h => h)) (.cells (rtc zn zk) 27)); have K35 := Lib.hid (blk_alloc (hf5.blk K3q.out (fun h => h)) (.cells (rtc zn zk) 27)); have K45 := Lib.hid (blk_alloc (hf5.blk K4q.out (fun h => h)) (.cells (rtc zn zk) 27)); have KU5 := Lib.hid (blk_alloc (hf5.blk KUq.out (fun h => h)) (.cells (rtc zn zk) 27)); have K55 := Lib.hid (heap_alloc_new v5 (.cells (rtc zn zk) 27)); have KF5 := Lib.hid ((KFq.out.trans hf5).alloc (.cells (rtc zn zk) 27)); clear KSq KXq K1q K2q K3q K4q KUq KFq hf5; obtain ⟨_, _, _, _⟩ := two_facts K45.out; obtain ⟨_, _, _, _⟩ := two_facts K15.out; obtain ⟨_, _, _, _⟩ := two_facts K25.out; obtain ⟨_, _, _, _⟩ := two_facts K35.out)
    | (go_at_call 24; (with_reducible refine (HCY.out _).mono ?_); rintro _ v6 ⟨rfl, hf6⟩; have KS6 := Lib.hid (hf6.blk KS5.out (fun h => h)); have KX6 := Lib.hid (hf6.blk KX5.out (fun h => h)); have K16 := Lib.hid (hf6.blk K15.out (fun h => h)); have K26 := Lib.hid (hf6.blk K25.out (fun h => h)); have K36 := Lib.hid (hf6.blk K35.out (fun h => h)); have K46 := Lib.hid (hf6.blk K45.out (fun h => h)); have KU6 := Lib.hid (hf6.blk KU5.out (fun h => h)); have K56 := Lib.hid (hf6.blk K55.out (fun h => h)); have KF6 := Lib.hid (KF5.out.trans hf6); clear KS5 KX5 K15 K25 K35 K45 KU5 K55 KF5 hf6; obtain ⟨_, _, _, _, _⟩ := sp_cells KS6.out; have zX0 := cell_of_blk KX6.out 0; have zX1 := cell_of_blk KX6.out 1; have zX2 := cell_of_blk KX6.out 2; have zX3 := cell_of_blk KX6.out 3)
    | (go_at_call 9; (with_reducible refine (HT.out _).mono ?_); rintro _ v7 ⟨rfl, hf7⟩; have KS7 := Lib.hid (hf7.blk KS6.out (fun h => h)); have KX7 := Lib.hid (hf7.blk KX6.out (fun h => h)); have K17 := Lib.hid (hf7.blk K16.out (fun h => h)); have K27 := Lib.hid (hf7.blk K26.out (fun h => h)); have K37 := Lib.hid (hf7.blk K36.out (fun h => h)); have K47 := Lib.hid (hf7.blk K46.out (fun h => h)); have KU7 := Lib.hid (hf7.blk KU6.out (fun h => h)); have K57 := Lib.hid (hf7.blk K56.out (fun h => h)); have KF7 := Lib.hid (KF6.out.trans hf7); clear KS6 KX6 K16 K26 K36 K46 KU6 K56 KF6 hf7; obtain ⟨_, _, _, _, _⟩ := sp_cells KS7.out; have zX0 := cell_of_blk KX7.out 0; have zX1 := cell_of_blk KX7.out 1; have zX2 := cell_of_blk KX7.out 2; have zX3 := cell_of_blk KX7.out 3)
    | (go_at_call 10; (with_reducible refine (HR.out _).mono ?_); rintro _ v8 ⟨rfl, hf8⟩; have KS8 := Lib.hid (hf8.blk KS7.out (fun h => h)); have KX8 := Lib.hid (hf8.blk KX7.out (fun h => h)); have K18 := Lib.hid (hf8.blk K17.out (fun h => h)); have K28 := Lib.hid (hf8.blk K27.out (fun h => h)); have K38 := Lib.hid (hf8.blk K37.out (fun h => h)); have K48 := Lib.hid (hf8.blk K47.out (fun h => h)); have KU8 := Lib.hid (hf8.blk KU7.out (fun h => h)); have K58 := Lib.hid (hf8.blk K57.out (fun h => h)); have KF8 := Lib.hid (KF7.out.trans hf8); clear KS7 KX7 K17 K27 K37 K47 KU7 K57 KF7 hf8; obtain ⟨_, _, _, _, _⟩ := sp_cells KS8.out)
    | (go_at_call 14; (with_reducible refine (HK.out _).mono ?_); rintro _ v9 ⟨rfl, hf9⟩; have KS9 := Lib.hid (hf9.blk KS8.out (fun h => h)); have KX9 := Lib.hid (hf9.blk KX8.out (fun h => h)); have K19 := Lib.hid (hf9.blk K18.out (fun h => h)); have K29 := Lib.hid (hf9.blk K28.out (fun h => h)); have K39 := Lib.hid (hf9.blk K38.out (fun h => h)); have K49 := Lib.hid (hf9.blk K48.out (fun h => h)); have KU9 := Lib.hid (hf9.blk KU8.out (fun h => h)); have K59 := Lib.hid (hf9.blk K58.out (fun h => h)); have KF9 := Lib.hid (KF8.out.trans hf9); clear KS8 KX8 K18 K28 K38 K48 KU8 K58 KF8 hf9)
    | fail)
  go_ret
  exact ⟨rfl, KF9.out⟩
theorem more_walk (s : Sp) (r c0 d0 c1 d1 : Int) (hs : I64r s.peak ∧ I64r s.rate ∧ I64r s.burst ∧ I64r s.most ∧ I64r s.least) (w : World) : Calls Try.prog 7 #[spv s, .int .i64 r, .agg #[.int .i64 c0, .int .i64 d0, .int .i64 c1, .int .i64 d1]] w fun e w' => e = .returned (.bool true) ∧ Fr0 w w' := by
  have HW := Lib.hid (fun (V : World) (n : Nat) (hn : V.heap.size = n) => way2_calls c0 d0 c1 d1 V n hn)
  by_cases hk : wayE [(c0, d0), (c1, d1)] = 0
  · obtain ⟨t0, t1, tw, e1, e2, e3, e4, e5⟩ := way2_ok hk
    rw [hk, e1, e2] at HW
    by_cases h0 : MayP s r c0 d0
    · have hw : MayP s r (c0 + c1) (d0 + d1) := ⟨h0.sr, tw, h0.r1, h0.r2⟩
      have HV := Lib.hid (fun (V : World) (n : Nat) (hn : V.heap.size = n) => way2_calls c1 d1 c0 d0 V n hn)
      rw [e3, e4, e5] at HV
      have HX := Lib.hid (fun U => bBound_yes s r c0 d0 h0 U)
      have HY := Lib.hid (fun U => bBound_yes s r (c0 + c1) (d0 + d1) hw U)
      obtain ⟨x1, x2, x3⟩ := bqs_ok h0
      obtain ⟨y1, y2, y3⟩ := bqs_ok hw
      have HCY := Lib.hid (fun U => dcmp_calls (bqs s r (c0 + c1) (d0 + d1)).num ((bqs s r (c0 + c1) (d0 + d1)).den : Int) (bqs s r c0 d0).num ((bqs s r c0 d0).den : Int) y1 x1 ⟨y2, y3⟩ ⟨x2, x3⟩ U)
      have hD := bDen_pos h0.ok
      have hcy := cmp_not_less (leF_cut (by omega) (by omega) (bq_terms h0.ok (c2 := c0 + c1) (d2 := d0 + d1) (by have := t1.c1; omega) (by have := t1.d1; omega)))
      have hrg := room_range h0
      have g1 : wrap64 (s.burst + 1) = s.burst + 1 := w64_id (by omega) (by omega)
      have g2 : wrap64 (s.rate * tks s r c0 d0) = s.rate * tks s r c0 d0 := w64_id (by omega) (by omega)
      have g3 : wrap64 (s.burst + s.rate * tks s r c0 d0) = s.burst + s.rate * tks s r c0 d0 := w64_id (by omega) (by omega)
      have HT := Lib.hid (fun U => bTicks_yes s r c0 d0 h0 U)
      have HR := Lib.hid (fun U => bRoom_yes s r c0 d0 h0 U)
      unfold roomV at HR
      by_cases hz : MayP ⟨s.peak, s.rate, s.burst + 1, s.most, s.least⟩ r c0 d0
      · have HZ := Lib.hid (fun U => bBound_yes _ r c0 d0 hz U)
        obtain ⟨z1, z2, z3⟩ := bqs_ok hz
        have HCZ := Lib.hid (fun U => dcmp_calls _ _ (bqs s r c0 d0).num ((bqs s r c0 d0).den : Int) z1 x1 ⟨z2, z3⟩ ⟨x2, x3⟩ U)
        have hcz := cmp_not_less (leF_cut (by omega) (by omega) (bq_burst h0.ok))
        by_cases hb : 1000000000 < s.burst + s.rate * tks s r c0 d0
        · rw [if_pos hb, if_pos hb] at HR
          exact more_yes_03 s r c0 d0 c1 d1 _ _ _ _ _ _ _ _ _ _ _ w hcy hcz g1 g2 g3 HW HV HX HY HZ HCY HCZ HT HR
        · rw [if_neg hb, if_neg hb] at HR
          exact more_yes_00 s r c0 d0 c1 d1 _ _ _ _ _ _ _ _ _ _ _ w hcy hcz g1 g2 g3 HW HV HX HY HZ HCY HCZ HT HR
      · have HZ := Lib.hid (fun U => bBound_no _ r c0 d0 hz U)
        by_cases hb : 1000000000 < s.burst + s.rate * tks s r c0 d0
        · rw [if_pos hb, if_pos hb] at HR
          exact more_yes_23 s r c0 d0 c1 d1 _ _ _ _ _ _ _ _ _ 0 _ w hcy (by decide) g1 g2 g3 HW HV HX HY HZ HCY HT HR
        · rw [if_neg hb, if_neg hb] at HR
          exact more_yes_20 s r c0 d0 c1 d1 _ _ _ _ _ _ _ _ _ 0 _ w hcy (by decide) g1 g2 g3 HW HV HX HY HZ HCY HT HR
    · have hw : ¬ MayP s r (c0 + c1) (d0 + d1) := fun h => h0 ⟨h.sr, t0, h.r1, h.r2⟩
      exact more_not s r c0 d0 c1 d1 _ _ w HW (Lib.hid (fun U => bBound_no s r c0 d0 h0 U)) (Lib.hid (fun U => bBound_no s r _ _ hw U))
  · by_cases h0 : MayP s r c0 d0
    · by_cases hw : MayP s r (wayC [(c0, d0), (c1, d1)]) (wayD [(c0, d0), (c1, d1)])
      · exact more_no s r c0 d0 c1 d1 _ _ _ _ _ _ _ _ _ w hk HW (Lib.hid (fun U => bBound_yes s r c0 d0 h0 U)) (Lib.hid (fun U => bBound_yes s r _ _ hw U))
      · exact more_no s r c0 d0 c1 d1 _ _ _ _ _ _ _ _ _ w hk HW (Lib.hid (fun U => bBound_yes s r c0 d0 h0 U)) (Lib.hid (fun U => bBound_no s r _ _ hw U))
    · by_cases hw : MayP s r (wayC [(c0, d0), (c1, d1)]) (wayD [(c0, d0), (c1, d1)])
      · exact more_no s r c0 d0 c1 d1 _ _ _ _ _ _ _ _ _ w hk HW (Lib.hid (fun U => bBound_no s r c0 d0 h0 U)) (Lib.hid (fun U => bBound_yes s r _ _ hw U))
      · exact more_no s r c0 d0 c1 d1 _ _ _ _ _ _ _ _ _ w hk HW (Lib.hid (fun U => bBound_no s r c0 d0 h0 U)) (Lib.hid (fun U => bBound_no s r _ _ hw U))
end Go.Proofs.Ytjldogfpccbkeaa
