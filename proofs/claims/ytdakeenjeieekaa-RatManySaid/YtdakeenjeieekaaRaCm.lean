/- Chapter 01: compared. -/
import Derived.Test.YtdakeenjeieekaaRaN
set_option linter.unusedVariables false
set_option linter.unusedSimpArgs false
namespace Go.Proofs.Ytdakeenjeieekaa
open Go.RowKit
attribute [local go_sem] Oper.semAt_some

/-- Which of two is less. -/
def cmpN (an ad bn bd : Int) : Int := if an * bd < bn * ad then -1 else if an * bd = bn * ad then 0 else 1
theorem cmp_sign {an ad bn bd : Int} (h1 : 1 ≤ ad) (h2 : 1 ≤ bd) (h : decide (an < 0) = !decide (bn < 0)) : cmpN an ad bn bd = if an < 0 then -1 else 1 := by
  unfold cmpN
  by_cases s1 : an < 0 <;> by_cases s2 : bn < 0
  · simp [s1, s2] at h
  · have a1 : an * bd < 0 := Int.mul_neg_of_neg_of_pos s1 (by omega)
    have a2 : 0 ≤ bn * ad := Int.mul_nonneg (by omega) (by omega)
    rw [if_pos (by omega), if_pos s1]
  · have a1 : 0 ≤ an * bd := Int.mul_nonneg (by omega) (by omega)
    have a2 : bn * ad < 0 := Int.mul_neg_of_neg_of_pos s2 (by omega)
    rw [if_neg (by omega), if_neg (by omega), if_neg s1]
  · simp [s1, s2] at h
theorem cmp_size {an ad bn bd : Int} {A B C D : Nat} (hA : A = an.natAbs) (hB : B = bn.natAbs) (hC : C = ad.natAbs) (hD : D = bd.natAbs) (h1 : 1 ≤ ad) (h2 : 1 ≤ bd) (h : decide (an < 0) = decide (bn < 0)) :
    cmpN an ad bn bd = if A * D = B * C then 0 else if (decide (A * D < B * C)) != decide (an < 0) then -1 else 1 := by
  have e1 : (C : Int) = ad := by omega
  have e2 : (D : Int) = bd := by omega
  have hh := decide_eq_decide.1 h
  unfold cmpN
  by_cases s1 : an < 0
  · have s2 := hh.1 s1
    have f1 : an = -(A : Int) := by omega
    have f2 : bn = -(B : Int) := by omega
    rw [← e1, ← e2, f1, f2, Int.neg_mul, Int.neg_mul, ← Int.natCast_mul, ← Int.natCast_mul]
    have s3 : decide (-(A : Int) < 0) = true := by rw [← f1]; exact decide_eq_true s1
    rw [s3]
    generalize A * D = x
    generalize B * C = y
    by_cases c1 : x = y
    · subst c1; simp
    · by_cases c2 : x < y
      · rw [if_neg (by omega), if_neg (by omega), if_neg c1, decide_eq_true c2]; rfl
      · rw [if_pos (by omega), if_neg c1, decide_eq_false c2]; rfl
  · have s2 : ¬ bn < 0 := fun h => s1 (hh.2 h)
    have f1 : an = (A : Int) := by omega
    have f2 : bn = (B : Int) := by omega
    rw [← e1, ← e2, f1, f2, ← Int.natCast_mul, ← Int.natCast_mul]
    have s3 : decide ((A : Int) < 0) = false := by rw [← f1]; exact decide_eq_false s1
    rw [s3]
    generalize A * D = x
    generalize B * C = y
    by_cases c1 : x = y
    · subst c1; simp
    · by_cases c2 : x < y
      · rw [if_pos (by omega), if_neg c1, decide_eq_true c2]; rfl
      · rw [if_neg (by omega), if_neg (by omega), if_neg c1, decide_eq_false c2]; rfl
set_option maxHeartbeats 4000000 in
set_option maxRecDepth 20000 in
theorem rcompared_calls (an ad bn bd : Int) (ha : RtOk an ad) (hb : RtOk bn bd) (ia : I64r an ∧ I64r ad) (ib : I64r bn ∧ I64r bd) (w : World) :
    Calls Try.prog 57 #[rtv an ad, rtv bn bd] w fun e w' => e = .returned (.int .i64 (cmpN an ad bn bd)) ∧ Fr0 w w' := by
  have hmx : Try.prog.follows .mixedOrders = true := by kernel_rfl
  obtain ⟨a1, a2, a3⟩ := ha
  obtain ⟨b1, b2, b3⟩ := hb
  obtain ⟨ia1, ia2⟩ := ia
  obtain ⟨ib1, ib2⟩ := ib
  have HF := Lib.hid (((Fr.refl (fun _ => False) w).alloc (.cells (rtc an ad) 23)).alloc (.cells (rtc bn bd) 23))
  obtain ⟨ca0, ca1, _, _⟩ := two_facts (blk_alloc (heap_alloc_new w (.cells (rtc an ad) 23)) (.cells (rtc bn bd) 23))
  obtain ⟨cb0, cb1, _, _⟩ := two_facts (heap_an (w := w.alloc (.cells (rtc an ad) 23)) (k := w.heap.size + 1) (.cells (rtc bn bd) 23) (by simp))
  by_cases hs : decide (an < 0) = decide (bn < 0)
  · have w1 : IntKind.u64.wrap ad = ((ad.natAbs : Nat) : Int) := u64_abs (by omega) ia2.2
    have w2' : IntKind.u64.wrap bd = ((bd.natAbs : Nat) : Int) := u64_abs (by omega) ib2.2
    have hA : an.natAbs < 9223372036854775808 := by have := ia1.1; have := ia1.2; omega
    have hB : bn.natAbs < 9223372036854775808 := by have := ib1.1; have := ib1.2; omega
    have hC : ad.natAbs < 9223372036854775808 := by have := ia2.1; have := ia2.2; omega
    have hD : bd.natAbs < 9223372036854775808 := by have := ib2.1; have := ib2.2; omega
    rw [cmp_size rfl rfl rfl rfl a1 b1 hs]
    have HSA := Lib.hid (fun U => rsize_calls an ia1 U)
    have HSB := Lib.hid (fun U => rsize_calls bn ib1 U)
    generalize an.natAbs = A at *
    generalize bn.natAbs = B at *
    generalize ad.natAbs = C at *
    generalize bd.natAbs = D at *
    have HTA := Lib.hid (fun U => ctimes A D (by omega) (by omega) U)
    have HTB := Lib.hid (fun U => ctimes B C (by omega) (by omega) U)
    generalize A * D = x at *
    generalize B * C = y at *
    have HLE := Lib.hid (fun U => cless x y U)
    have heq : ∀ U, (Op.equalIn 10000 77 (.agg #[u64v (hiw x), u64v (low x)]) (.agg #[u64v (hiw y), u64v (low y)])).run Try.prog U = .ok (decide (x = y)) U := fun U => by
      rw [eq_wide]
      congr 1
      rw [Bool.eq_iff_iff]
      simp only [Bool.and_eq_true, beq_iff_eq, decide_eq_true_eq]
      unfold hiw low
      omega
    obtain ⟨sa, dsa⟩ : ∃ b, decide (an < 0) = b := ⟨_, rfl⟩
    have dsb : decide (bn < 0) = sa := hs.symm.trans dsa
    rw [dsa]
    obtain ⟨v, hv⟩ : ∃ v : Int, v = if x = y then 0 else if (decide (x < y)) != sa then -1 else 1 := ⟨_, rfl⟩
    rw [← hv]
    have HV := Lib.hid hv
    clear hv
    clear hs a1 a2 a3 b1 b2 b3 ia1 ia2 ib1 ib2 hA hB hC hD
    go_enter Try.func57, Try.ntmps57
    go_upto_region 5 with fail
    have HCA := Lib.hid (And.intro ca0 ca1)
    have HCB := Lib.hid (And.intro cb0 cb1)
    clear ca0 ca1 cb0 cb1
    generalize (w.alloc (.cells (rtc an ad) 23)).alloc (.cells (rtc bn bd) 23) = w2 at *
    go_cut [5, 6] from 17 to 30 (fun s5 s6 wx => ∃ p5 p6 : Nat, s5 = .pointer (some ⟨p5, 0, none⟩) ∧ s6 = .pointer (some ⟨p6, 0, none⟩) ∧ Hid (wx.heap[p5]? = some (.cells (wdC x) 77 (0, 0))) ∧ Hid (wx.heap[p6]? = some (.cells (wdC y) 77 (0, 0))) ∧ Hid (Fr0 w2 wx))
    case first =>
      refine wp_region_noPanic ?_
      refine takesG_ex 14 (fun U => Fr0 w2 U) (fun _ _ h k => h.trans k) (Fr.refl _ _) hmx (fun _ _ _ _ _ h => h) (by kernel_rfl) (by kernel_rfl) ?_
      apply Exists.intro
      refine ⟨fun W' hW' => ?_, ?_⟩
      · have r0 := cg_cell (W := W') (hW'.cell HCA.out.1 (fun h => h))
        have r1 := cg_cell (W := W') (hW'.cell HCA.out.2 (fun h => h))
        have r2 := cg_cell (W := W') (hW'.cell HCB.out.1 (fun h => h))
        have r3 := cg_cell (W := W') (hW'.cell HCB.out.2 (fun h => h))
        simp only [List.take_succ_cons, List.take_zero]
        repeat (first
          | go_big_quiet_step (fail)
          | go_big_quiet_step (first
            | (go_at_call 38; with_reducible exact quiet_cg ((HSA.out _).mono fun e w' h => ⟨h.1, h.2 ▸ Fr.refl _ _⟩))
            | (go_at_call 38; with_reducible exact quiet_cg ((HSB.out _).mono fun e w' h => ⟨h.1, h.2 ▸ Fr.refl _ _⟩))
            | (go_at_call 67; with_reducible exact quiet_cg (HTA.out _))
            | (go_at_call 67; with_reducible exact quiet_cg (HTB.out _))))
        exact wpQuiet_nil rfl
      · have hF0 := Fr.refl (fun _ => False) w2
        change wpAnyG _ _ _ _ _ 4 _ _ _
        refine wpAnyG_ready (f := 3) (rs := [14, 15]) (by kernel_rfl) (by simp) ?_
        refine AllG.cons rfl (fun U3 hU3 K hK => ?_) (AllG.cons rfl (fun U3 hU3 K hK => ?_) (AllG.nil))
        · have hF3 := hF0.trans hU3
          go_simp
          generalize hp5 : U3.heap.size = p5
          have hsz5 : w2.heap.size ≤ p5 := hp5 ▸ hF3.size
          have hb5_n3 := heap_an (w := U3) (k := p5) (.cells #[u64v 0, u64v 0] 77) hp5
          have hFn3 := hF3.alloc (.cells #[u64v 0, u64v 0] 77)
          refine hK.out _ _ ⟨_, hFn3, Fr.refl _ _, ?_⟩
          clear hK K
          try simp only [Act.put, List.setIfInBounds_toArray, List.set_cons_zero, List.set_cons_succ]
          refine wpAnyG_ready (f := 2) (rs := [15]) (by kernel_rfl) (by simp) ?_
          refine AllG.cons rfl (fun U4 hU4 K hK => ?_) (AllG.nil)
          · have hF4 := hFn3.trans hU4
            have hb5_4 := hU4.blk hb5_n3 (fun h => h)
            go_simp
            generalize hp6 : U4.heap.size = p6
            have hsz6 : w2.heap.size ≤ p6 := hp6 ▸ hF4.size
            have hne56 : p5 ≠ p6 := by have := lt_of_block hb5_4; omega
            have hne65 : p6 ≠ p5 := fun h => hne56 h.symm
            have hb6_n4 := heap_an (w := U4) (k := p6) (.cells #[u64v 0, u64v 0] 77) hp6
            have hb5_n4 := blk_alloc hb5_4 (.cells #[u64v 0, u64v 0] 77)
            have hFn4 := hF4.alloc (.cells #[u64v 0, u64v 0] 77)
            refine hK.out _ _ ⟨_, hFn4, Fr.refl _ _, ?_⟩
            clear hK K
            try simp only [Act.put, List.setIfInBounds_toArray, List.set_cons_zero, List.set_cons_succ]
            refine wpAnyG_ready (f := 1) (rs := [16]) (by kernel_rfl) (by simp) ?_
            refine AllG.cons rfl (fun U5 hU5 K hK => ?_) (AllG.nil)
            · have hF5 := hFn4.trans hU5
              have hb5_5 := hU5.blk hb5_n4 (fun h => h)
              have hb6_5 := hU5.blk hb6_n4 (fun h => h)
              obtain ⟨c0, c1, f0, f1⟩ := two_facts hb5_5
              go_simp
              have hb5_n5 := two_set hb5_5 (u64v (hiw x)) (u64v (low x))
              have hb6_n5 := blk_setCell_other (blk_setCell_other hb6_5 (p := ⟨p5, 0, none⟩) hne56 (u64v (hiw x))) (p := ⟨p5, 1, none⟩) hne56 (u64v (low x))
              have hFn5 := two_fr (b := p5) hF5 (by omega) (u64v (hiw x)) (u64v (low x))
              clear c0 c1 f0 f1
              refine hK.out _ _ ⟨_, hFn5, Fr.refl _ _, ?_⟩
              clear hK K
              try simp only [Act.put, List.setIfInBounds_toArray, List.set_cons_zero, List.set_cons_succ]
              refine wpAnyG_ready (f := 0) (rs := [17]) (by kernel_rfl) (by simp) ?_
              refine AllG.cons rfl (fun U6 hU6 K hK => ?_) (AllG.nil)
              · have hF6 := hFn5.trans hU6
                have hb5_6 := hU6.blk hb5_n5 (fun h => h)
                have hb6_6 := hU6.blk hb6_n5 (fun h => h)
                obtain ⟨c0, c1, f0, f1⟩ := two_facts hb6_6
                go_simp
                have hb6_n6 := two_set hb6_6 (u64v (hiw y)) (u64v (low y))
                have hb5_n6 := blk_setCell_other (blk_setCell_other hb5_6 (p := ⟨p6, 0, none⟩) hne65 (u64v (hiw y))) (p := ⟨p6, 1, none⟩) hne65 (u64v (low y))
                have hFn6 := two_fr (b := p6) hF6 (by omega) (u64v (hiw y)) (u64v (low y))
                clear c0 c1 f0 f1
                refine hK.out _ _ ⟨_, hFn6, Fr.refl _ _, ?_⟩
                clear hK K
                try simp only [Act.put, List.setIfInBounds_toArray, List.set_cons_zero, List.set_cons_succ]
                refine wpAnyG_done (by kernel_rfl) (fun U7 hU7 => ?_)
                have hx := hU7.blk hb5_n6 (fun h => h)
                have hy := hU7.blk hb6_n6 (fun h => h)
                have hF := hFn6.trans hU7
                refine NoPanic.normal ?_
                go_wp2_with fail
                go_meet
                exact ⟨p5, p6, rfl, rfl, hx, hy, hF⟩
        · have hF3 := hF0.trans hU3
          go_simp
          generalize hp6 : U3.heap.size = p6
          have hsz6 : w2.heap.size ≤ p6 := hp6 ▸ hF3.size
          have hb6_n3 := heap_an (w := U3) (k := p6) (.cells #[u64v 0, u64v 0] 77) hp6
          have hFn3 := hF3.alloc (.cells #[u64v 0, u64v 0] 77)
          refine hK.out _ _ ⟨_, hFn3, Fr.refl _ _, ?_⟩
          clear hK K
          try simp only [Act.put, List.setIfInBounds_toArray, List.set_cons_zero, List.set_cons_succ]
          refine wpAnyG_ready (f := 2) (rs := [14]) (by kernel_rfl) (by simp) ?_
          refine AllG.cons rfl (fun U4 hU4 K hK => ?_) (AllG.nil)
          · have hF4 := hFn3.trans hU4
            have hb6_4 := hU4.blk hb6_n3 (fun h => h)
            go_simp
            generalize hp5 : U4.heap.size = p5
            have hsz5 : w2.heap.size ≤ p5 := hp5 ▸ hF4.size
            have hne65 : p6 ≠ p5 := by have := lt_of_block hb6_4; omega
            have hne56 : p5 ≠ p6 := fun h => hne65 h.symm
            have hb5_n4 := heap_an (w := U4) (k := p5) (.cells #[u64v 0, u64v 0] 77) hp5
            have hb6_n4 := blk_alloc hb6_4 (.cells #[u64v 0, u64v 0] 77)
            have hFn4 := hF4.alloc (.cells #[u64v 0, u64v 0] 77)
            refine hK.out _ _ ⟨_, hFn4, Fr.refl _ _, ?_⟩
            clear hK K
            try simp only [Act.put, List.setIfInBounds_toArray, List.set_cons_zero, List.set_cons_succ]
            refine wpAnyG_ready (f := 1) (rs := [16]) (by kernel_rfl) (by simp) ?_
            refine AllG.cons rfl (fun U5 hU5 K hK => ?_) (AllG.nil)
            · have hF5 := hFn4.trans hU5
              have hb6_5 := hU5.blk hb6_n4 (fun h => h)
              have hb5_5 := hU5.blk hb5_n4 (fun h => h)
              obtain ⟨c0, c1, f0, f1⟩ := two_facts hb5_5
              go_simp
              have hb5_n5 := two_set hb5_5 (u64v (hiw x)) (u64v (low x))
              have hb6_n5 := blk_setCell_other (blk_setCell_other hb6_5 (p := ⟨p5, 0, none⟩) hne56 (u64v (hiw x))) (p := ⟨p5, 1, none⟩) hne56 (u64v (low x))
              have hFn5 := two_fr (b := p5) hF5 (by omega) (u64v (hiw x)) (u64v (low x))
              clear c0 c1 f0 f1
              refine hK.out _ _ ⟨_, hFn5, Fr.refl _ _, ?_⟩
              clear hK K
              try simp only [Act.put, List.setIfInBounds_toArray, List.set_cons_zero, List.set_cons_succ]
              refine wpAnyG_ready (f := 0) (rs := [17]) (by kernel_rfl) (by simp) ?_
              refine AllG.cons rfl (fun U6 hU6 K hK => ?_) (AllG.nil)
              · have hF6 := hFn5.trans hU6
                have hb6_6 := hU6.blk hb6_n5 (fun h => h)
                have hb5_6 := hU6.blk hb5_n5 (fun h => h)
                obtain ⟨c0, c1, f0, f1⟩ := two_facts hb6_6
                go_simp
                have hb6_n6 := two_set hb6_6 (u64v (hiw y)) (u64v (low y))
                have hb5_n6 := blk_setCell_other (blk_setCell_other hb5_6 (p := ⟨p6, 0, none⟩) hne65 (u64v (hiw y))) (p := ⟨p6, 1, none⟩) hne65 (u64v (low y))
                have hFn6 := two_fr (b := p6) hF6 (by omega) (u64v (hiw y)) (u64v (low y))
                clear c0 c1 f0 f1
                refine hK.out _ _ ⟨_, hFn6, Fr.refl _ _, ?_⟩
                clear hK K
                try simp only [Act.put, List.setIfInBounds_toArray, List.set_cons_zero, List.set_cons_succ]
                refine wpAnyG_done (by kernel_rfl) (fun U7 hU7 => ?_)
                have hx := hU7.blk hb5_n6 (fun h => h)
                have hy := hU7.blk hb6_n6 (fun h => h)
                have hF := hFn6.trans hU7
                refine NoPanic.normal ?_
                go_wp2_with fail
                go_meet
                exact ⟨p5, p6, rfl, rfl, hx, hy, hF⟩
    case rest =>
      obtain ⟨p5, p6, rfl, rfl, HX, HY, HF4⟩ := hcut
      obtain ⟨w4, hw4⟩ : ∃ w4, w4 = wc := ⟨_, rfl⟩
      subst hw4
      obtain ⟨x0, x1, _, _⟩ := two_facts HX.out
      obtain ⟨y0, y1, _, _⟩ := two_facts HY.out
      have HFW := Lib.hid (HF.out.trans HF4.out)
      by_cases hxy : x = y
      · rw [decide_eq_true hxy] at heq
        have hv := HV.out
        rw [if_pos hxy] at hv
        subst hv
        clear hxy HSA HV HSB HTA HTB HCA HCB
        go_wp2_with fail
        go_ret
        exact ⟨rfl, HFW.out⟩
      · rw [decide_eq_false hxy] at heq
        have hv := HV.out
        rw [if_neg hxy] at hv
        obtain ⟨lt, hlt⟩ : ∃ b, decide (x < y) = b := ⟨_, rfl⟩
        rw [hlt] at HLE hv
        have HV2 := Lib.hid hv
        clear hv HV
        clear hxy hlt HSA HSB HTA HTB
        go_upto_region 8 with fail
        have r0 := cg_cell (W := w4) (HF4.out.cell HCA.out.1 (fun h => h))
        have r1 := cg_cell (W := w4) x0
        have r2 := cg_cell (W := w4) x1
        have r3 := cg_cell (W := w4) y0
        have r4 := cg_cell (W := w4) y1
        cases lt <;> cases sa <;>
         (refine wp_region_cg hmx (by kernel_rfl) ?_
          repeat (first
            | go_big_quiet_step (fail)
            | go_big_quiet_step ((go_at_call 69; with_reducible exact quiet_cg (HLE.out _))))
          refine wpQuiet_nil ?_
          intro w6 hf6
          go_wp2_with fail
          go_ret
          exact ⟨by rw [HV2.out]; rfl, HFW.out.trans hf6⟩)
  · have hs2 : decide (an < 0) = !decide (bn < 0) := by
      rcases Bool.eq_false_or_eq_true (decide (an < 0)) with h1 | h1 <;> rcases Bool.eq_false_or_eq_true (decide (bn < 0)) with h2 | h2
      · exact absurd (h1.trans h2.symm) hs
      · rw [h1, h2]; rfl
      · rw [h1, h2]; rfl
      · exact absurd (h1.trans h2.symm) hs
    rw [cmp_sign a1 b1 hs2]
    clear a1 a2 a3 b1 b2 b3 ia1 ia2 ib1 ib2 hs
    by_cases s1 : an < 0
    · rw [if_pos s1]
      have d1 : decide (an < 0) = true := decide_eq_true s1
      have d2 : decide (bn < 0) = false := by
        rcases Bool.eq_false_or_eq_true (decide (bn < 0)) with h | h
        · rw [d1, h] at hs2; cases hs2
        · exact h
      clear hs2 s1
      go_enter Try.func57, Try.ntmps57
      go_wp2_with fail
      go_ret
      exact ⟨rfl, HF.out⟩
    · rw [if_neg s1]
      have d1 : decide (an < 0) = false := decide_eq_false s1
      have d2 : decide (bn < 0) = true := by
        rcases Bool.eq_false_or_eq_true (decide (bn < 0)) with h | h
        · exact h
        · rw [d1, h] at hs2; cases hs2
      clear hs2 s1
      go_enter Try.func57, Try.ntmps57
      go_wp2_with fail
      go_ret
      exact ⟨rfl, HF.out⟩
end Go.Proofs.Ytdakeenjeieekaa
