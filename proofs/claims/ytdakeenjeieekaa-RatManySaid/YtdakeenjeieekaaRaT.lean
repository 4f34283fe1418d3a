/- Chapter 01: multiplied. -/
import Derived.Test.YtdakeenjeieekaaRaN
set_option linter.unusedVariables false
set_option linter.unusedSimpArgs false
namespace Go.Proofs.Ytdakeenjeieekaa
open Go.RowKit
attribute [local go_sem] Oper.semAt_some

theorem mulR_code {an ad bn bd : Int} {A B C D g h : Nat} (hA : A = an.natAbs) (hB : B = bn.natAbs) (hC : C = ad.natAbs) (hD : D = bd.natAbs) (c1 : 1 ≤ ad) (c2 : 1 ≤ bd) (ga : Nat.gcd A C = 1) (gb : Nat.gcd B D = 1)
    (h1 : an ≠ 0) (h2 : bn ≠ 0) (hg : g = Nat.gcd A D) (hh : h = Nat.gcd B C) :
    rR (rq an ad * rq bn bd) = codeMul (A / g * (B / h)) (C / h * (D / g)) (decide (an < 0) != decide (bn < 0)) := by
  rw [codeMul_eq _ ga gb hg hh (by omega) (by omega) (by omega) (by omega)]
  unfold rq
  rw [Rat.mkRat_mul_mkRat, ← hC, ← hD]
  congr 2
  unfold sgn
  by_cases s1 : an < 0 <;> by_cases s2 : bn < 0
  · have e1 : an = -(A : Int) := by omega
    have e2 : bn = -(B : Int) := by omega
    simp only [s1, s2, decide_true, bne_self_eq_false, Bool.false_eq_true, if_false]
    rw [e1, e2, Int.neg_mul_neg]; simp
  · have e1 : an = -(A : Int) := by omega
    have e2 : bn = (B : Int) := by omega
    simp only [s1, s2, decide_true, decide_false]
    rw [e1, e2, Int.neg_mul]; simp
  · have e1 : an = (A : Int) := by omega
    have e2 : bn = -(B : Int) := by omega
    simp only [s1, s2, decide_true, decide_false]
    rw [e1, e2, Int.mul_neg]; simp
  · have e1 : an = (A : Int) := by omega
    have e2 : bn = (B : Int) := by omega
    simp only [s1, s2, decide_false, bne_self_eq_false, Bool.false_eq_true, if_false]
    rw [e1, e2]; simp
theorem mulR_zero {an ad bn bd : Int} (h : an = 0 ∨ bn = 0) : rR (rq an ad * rq bn bd) = .ok (0, 1) := by
  have : rq an ad * rq bn bd = 0 := by
    unfold rq
    rw [Rat.mkRat_mul_mkRat]
    have : an * bn = 0 := by rcases h with h | h <;> simp [h]
    rw [this, Rat.zero_mkRat]
  rw [this]; rfl
set_option maxHeartbeats 8000000 in
set_option maxRecDepth 20000 in
theorem rmultiplied_calls (an ad bn bd : Int) (ha : RtOk an ad) (hb : RtOk bn bd) (ia : I64r an ∧ I64r ad) (ib : I64r bn ∧ I64r bd) (w : World) :
    Calls Try.prog 47 #[rtv an ad, rtv bn bd] w fun e w' => e = endR (rR (rq an ad * rq bn bd)) ∧ Fr0 w w' := by
  have hmx : Try.prog.follows .mixedOrders = true := by kernel_rfl
  have HF0 := Lib.hid ((((Fr.refl (fun _ => False) w).alloc (.cells (rtc an ad) 23)).alloc (.cells (rtc bn bd) 23)).alloc (.cells (rtc 0 0) 23))
  have HB0 := Lib.hid (blk_alloc (blk_alloc (heap_alloc_new w (.cells (rtc an ad) 23)) (.cells (rtc bn bd) 23)) (.cells (rtc 0 0) 23))
  have HB1 := Lib.hid (blk_alloc (heap_an (w := w.alloc (.cells (rtc an ad) 23)) (k := w.heap.size + 1) (.cells (rtc bn bd) 23) (by simp)) (.cells (rtc 0 0) 23))
  have HB2 := Lib.hid (heap_an (w := (w.alloc (.cells (rtc an ad) 23)).alloc (.cells (rtc bn bd) 23)) (k := w.heap.size + 1 + 1) (.cells (rtc 0 0) 23) (by simp))
  by_cases hz : an = 0 ∨ bn = 0
  · rw [mulR_zero hz]
    by_cases z1 : an = 0
    · subst z1
      clear hz ha hb ia ib
      go_enter Try.func47, Try.ntmps47
      go_wp2_with fail
      exact bodyPost_ret (results_cell_row rfl _ _ (w.heap.size + 1 + 1) _ _ _ _ rfl (heap_an (w := (w.alloc (.cells (rtc 0 ad) 23)).alloc (.cells (rtc bn bd) 23)) (k := w.heap.size + 1 + 1) (.cells (rtc 0 1) 23) (by simp)) Try.underlying23 rfl (by kernel_rfl)) rfl ⟨rfl, (((Fr.refl (fun _ => False) w).alloc _).alloc _).alloc _⟩
    · have z2 : bn = 0 := hz.resolve_left z1
      subst z2
      have d1 : decide (an = 0) = false := decide_eq_false z1
      have d2 : (an == 0) = false := by simpa using z1
      clear hz ha hb ia ib z1
      go_enter Try.func47, Try.ntmps47
      go_wp2_with fail
      exact bodyPost_ret (results_cell_row rfl _ _ (w.heap.size + 1 + 1) _ _ _ _ rfl (heap_an (w := (w.alloc (.cells (rtc an ad) 23)).alloc (.cells (rtc 0 bd) 23)) (k := w.heap.size + 1 + 1) (.cells (rtc 0 1) 23) (by simp)) Try.underlying23 rfl (by kernel_rfl)) rfl ⟨rfl, (((Fr.refl (fun _ => False) w).alloc _).alloc _).alloc _⟩
  have z1 : an ≠ 0 := fun h => hz (.inl h)
  have z2 : bn ≠ 0 := fun h => hz (.inr h)
  have d1 : decide (an = 0) = false := decide_eq_false z1
  have d2 : (an == 0) = false := by simpa using z1
  have d3 : decide (bn = 0) = false := decide_eq_false z2
  have d4 : (bn == 0) = false := by simpa using z2
  obtain ⟨a1, a2, a3⟩ := ha
  obtain ⟨b1, b2, b3⟩ := hb
  obtain ⟨ia1, ia2⟩ := ia
  obtain ⟨ib1, ib2⟩ := ib
  have w1 : IntKind.u64.wrap ad = ((ad.natAbs : Nat) : Int) := u64_abs (by omega) ia2.2
  have w2' : IntKind.u64.wrap bd = ((bd.natAbs : Nat) : Int) := u64_abs (by omega) ib2.2
  have hA : an.natAbs < 9223372036854775808 := by have := ia1.1; have := ia1.2; omega
  have hB : bn.natAbs < 9223372036854775808 := by have := ib1.1; have := ib1.2; omega
  have hC : ad.natAbs < 9223372036854775808 := by have := ia2.1; have := ia2.2; omega
  have hD : bd.natAbs < 9223372036854775808 := by have := ib2.1; have := ib2.2; omega
  have hC0 : 0 < ad.natAbs := by omega
  have hD0 : 0 < bd.natAbs := by omega
  obtain ⟨A, hAe⟩ : ∃ A, A = an.natAbs := ⟨_, rfl⟩
  obtain ⟨B, hBe⟩ : ∃ B, B = bn.natAbs := ⟨_, rfl⟩
  obtain ⟨C, hCe⟩ : ∃ C, C = ad.natAbs := ⟨_, rfl⟩
  obtain ⟨D, hDe⟩ : ∃ D, D = bd.natAbs := ⟨_, rfl⟩
  rw [← hAe] at hA a3; rw [← hBe] at hB b3; rw [← hCe] at hC hC0 a3 w1; rw [← hDe] at hD hD0 b3 w2'
  have HSA := Lib.hid (fun U => rsize_calls an ia1 U)
  have HSB := Lib.hid (fun U => rsize_calls bn ib1 U)
  rw [← hAe] at HSA; rw [← hBe] at HSB
  have HG := Lib.hid (fun U => rgcd_calls A D (by omega) (by omega) U)
  have HH := Lib.hid (fun U => rgcd_calls B C (by omega) (by omega) U)
  obtain ⟨g, hg⟩ : ∃ g, g = Nat.gcd A D := ⟨_, rfl⟩
  obtain ⟨h, hh⟩ : ∃ h, h = Nat.gcd B C := ⟨_, rfl⟩
  rw [← hg] at HG; rw [← hh] at HH
  have hg0 : 0 < g := hg ▸ Nat.gcd_pos_of_pos_right A hD0
  have hh0 : 0 < h := hh ▸ Nat.gcd_pos_of_pos_right B hC0
  have HPE := Lib.hid (mulR_code hAe hBe hCe hDe a1 b1 a3 b3 z1 z2 hg hh)
  obtain ⟨p1, hp1⟩ : ∃ p, p = A / g := ⟨_, rfl⟩
  obtain ⟨p2, hp2⟩ : ∃ p, p = B / h := ⟨_, rfl⟩
  obtain ⟨p3, hp3⟩ : ∃ p, p = C / h := ⟨_, rfl⟩
  obtain ⟨p4, hp4⟩ : ∃ p, p = D / g := ⟨_, rfl⟩
  have l1 : p1 ≤ A := hp1 ▸ Nat.div_le_self A g
  have l2 : p2 ≤ B := hp2 ▸ Nat.div_le_self B h
  have l3 : p3 ≤ C := hp3 ▸ Nat.div_le_self C h
  have l4 : p4 ≤ D := hp4 ▸ Nat.div_le_self D g
  rw [← hp1, ← hp2, ← hp3, ← hp4] at HPE
  have q1 := quoN hp1
  have q2 := quoN hp2
  have q3 := quoN hp3
  have q4 := quoN hp4
  have v1 := wrapN p1 (by omega)
  have v2 := wrapN p2 (by omega)
  have v3 := wrapN p3 (by omega)
  have v4 := wrapN p4 (by omega)
  have hgn : ¬ ((g : Int) = 0) := by omega
  have hgb : ((g : Int) == 0) = false := by simpa using hgn
  have hhn : ¬ ((h : Int) = 0) := by omega
  have hhb : ((h : Int) == 0) = false := by simpa using hhn
  have HTA := Lib.hid (fun U => ctimes p1 p2 (by omega) (by omega) U)
  have HTB := Lib.hid (fun U => ctimes p3 p4 (by omega) (by omega) U)
  generalize p1 * p2 = n at *
  generalize p3 * p4 = d at *
  clear hAe hBe hCe hDe hg hh hp1 hp2 hp3 hp4 hz z1 z2
  go_enter Try.func47, Try.ntmps47
  go_upto_region 3 with fail
  generalize ((w.alloc (.cells (rtc an ad) 23)).alloc (.cells (rtc bn bd) 23)).alloc (.cells (rtc 0 0) 23) = W1 at *
  obtain ⟨ca0, ca1, _, _⟩ := two_facts HB0.out
  obtain ⟨cb0, cb1, _, _⟩ := two_facts HB1.out
  have r0 := cg_cell (W := W1) ca0
  have r1 := cg_cell (W := W1) ca1
  have r2 := cg_cell (W := W1) cb0
  have r3 := cg_cell (W := W1) cb1
  refine wp_region_cg hmx (by kernel_rfl) ?_
  repeat (first
    | go_big_quiet_step (fail)
    | go_big_quiet_step (first
      | (go_at_call 38; with_reducible exact quiet_cg ((HSA.out _).mono fun e w' h => ⟨h.1, h.2 ▸ Fr.refl _ _⟩))
      | (go_at_call 38; with_reducible exact quiet_cg ((HSB.out _).mono fun e w' h => ⟨h.1, h.2 ▸ Fr.refl _ _⟩))
      | (go_at_call 42; with_reducible exact quiet_cg (HG.out _))
      | (go_at_call 42; with_reducible exact quiet_cg (HH.out _))))
  refine wpQuiet_nil ?_
  intro w3 hf3
  have HCA := Lib.hid (show w3.cell? ⟨w.heap.size, 0, none⟩ = some (.int .i64 an) ∧ w3.cell? ⟨w.heap.size, 1, none⟩ = some (.int .i64 ad) from ⟨hf3.cell ca0 (fun h => h), hf3.cell ca1 (fun h => h)⟩)
  have HCB := Lib.hid (show w3.cell? ⟨w.heap.size + 1, 0, none⟩ = some (.int .i64 bn) ∧ w3.cell? ⟨w.heap.size + 1, 1, none⟩ = some (.int .i64 bd) from ⟨hf3.cell cb0 (fun h => h), hf3.cell cb1 (fun h => h)⟩)
  have HBR := Lib.hid (hf3.blk HB2.out (fun h => h))
  have HFW := Lib.hid (HF0.out.trans hf3)
  clear r0 r1 r2 r3 ca0 ca1 cb0 cb1 hf3 HB0 HB1 HB2 HF0 HG HH
  go_upto_region 4 with fail
  go_cut [7, 8] from 32 to 53 (fun s7 s8 wx => ∃ p7 p8 : Nat, s7 = .pointer (some ⟨p7, 0, none⟩) ∧ s8 = .pointer (some ⟨p8, 0, none⟩) ∧ w3.heap.size ≤ p7 ∧ w3.heap.size ≤ p8 ∧ Hid (wx.heap[p7]? = some (.cells (wdC n) 77 (0, 0))) ∧ Hid (wx.heap[p8]? = some (.cells (wdC d) 77 (0, 0))) ∧ Hid (Fr0 w3 wx))
  case first =>
    refine wp_region_noPanic ?_
    refine takesG_ex 22 (fun U => Fr0 w3 U) (fun _ _ h k => h.trans k) (Fr.refl _ _) hmx (fun _ _ _ _ _ h => h) (by kernel_rfl) (by kernel_rfl) ?_
    apply Exists.intro
    refine ⟨fun W' hW' => ?_, ?_⟩
    · have r0 := cg_cell (W := W') (hW'.cell HCA.out.1 (fun h => h))
      have r1 := cg_cell (W := W') (hW'.cell HCA.out.2 (fun h => h))
      have r2 := cg_cell (W := W') (hW'.cell HCB.out.1 (fun h => h))
      have r3 := cg_cell (W := W') (hW'.cell HCB.out.2 (fun h => h))
      simp only [List.take_succ_cons, List.take_zero]
      repeat (first
        | go_big_quiet_step (fail)
        | go_big_quiet_step (first
          | (go_at_call 38; with_reducible exact quiet_cg ((HSA.out _).mono fun e w' h => ⟨h.1, h.2 ▸ Fr.refl _ _⟩))
          | (go_at_call 38; with_reducible exact quiet_cg ((HSB.out _).mono fun e w' h => ⟨h.1, h.2 ▸ Fr.refl _ _⟩))
          | (go_at_call 67; with_reducible exact quiet_cg (HTA.out _))
          | (go_at_call 67; with_reducible exact quiet_cg (HTB.out _))))
      exact wpQuiet_nil rfl
    · have hF0 := Fr.refl (fun _ => False) w3
      change wpAnyG _ _ _ _ _ 4 _ _ _
      refine wpAnyG_ready (f := 3) (rs := [22, 23]) (by kernel_rfl) (by simp) ?_
      refine AllG.cons rfl (fun U3 hU3 K hK => ?_) (AllG.cons rfl (fun U3 hU3 K hK => ?_) (AllG.nil))
      · have hF3 := hF0.trans hU3
        go_simp
        generalize hp7 : U3.heap.size = p7
        have hsz7 : w3.heap.size ≤ p7 := hp7 ▸ hF3.size
        have hb7_n3 := heap_an (w := U3) (k := p7) (.cells #[u64v 0, u64v 0] 77) hp7
        have hFn3 := hF3.alloc (.cells #[u64v 0, u64v 0] 77)
        refine hK.out _ _ ⟨_, hFn3, Fr.refl _ _, ?_⟩
        clear hK K
        try simp only [Act.put, List.setIfInBounds_toArray, List.set_cons_zero, List.set_cons_succ]
        refine wpAnyG_ready (f := 2) (rs := [23]) (by kernel_rfl) (by simp) ?_
        refine AllG.cons rfl (fun U4 hU4 K hK => ?_) (AllG.nil)
        · have hF4 := hFn3.trans hU4
          have hb7_4 := hU4.blk hb7_n3 (fun h => h)
          go_simp
          generalize hp8 : U4.heap.size = p8
          have hsz8 : w3.heap.size ≤ p8 := hp8 ▸ hF4.size
          have hne78 : p7 ≠ p8 := by have := lt_of_block hb7_4; omega
          have hne87 : p8 ≠ p7 := fun h => hne78 h.symm
          have hb8_n4 := heap_an (w := U4) (k := p8) (.cells #[u64v 0, u64v 0] 77) hp8
          have hb7_n4 := blk_alloc hb7_4 (.cells #[u64v 0, u64v 0] 77)
          have hFn4 := hF4.alloc (.cells #[u64v 0, u64v 0] 77)
          refine hK.out _ _ ⟨_, hFn4, Fr.refl _ _, ?_⟩
          clear hK K
          try simp only [Act.put, List.setIfInBounds_toArray, List.set_cons_zero, List.set_cons_succ]
          refine wpAnyG_ready (f := 1) (rs := [24]) (by kernel_rfl) (by simp) ?_
          refine AllG.cons rfl (fun U5 hU5 K hK => ?_) (AllG.nil)
          · have hF5 := hFn4.trans hU5
            have hb7_5 := hU5.blk hb7_n4 (fun h => h)
            have hb8_5 := hU5.blk hb8_n4 (fun h => h)
            obtain ⟨c0, c1, f0, f1⟩ := two_facts hb7_5
            go_simp
            have hb7_n5 := two_set hb7_5 (u64v (hiw n)) (u64v (low n))
            have hb8_n5 := blk_setCell_other (blk_setCell_other hb8_5 (p := ⟨p7, 0, none⟩) hne78 (u64v (hiw n))) (p := ⟨p7, 1, none⟩) hne78 (u64v (low n))
            have hFn5 := two_fr (b := p7) hF5 (by omega) (u64v (hiw n)) (u64v (low n))
            clear c0 c1 f0 f1
            refine hK.out _ _ ⟨_, hFn5, Fr.refl _ _, ?_⟩
            clear hK K
            try simp only [Act.put, List.setIfInBounds_toArray, List.set_cons_zero, List.set_cons_succ]
            refine wpAnyG_ready (f := 0) (rs := [25]) (by kernel_rfl) (by simp) ?_
            refine AllG.cons rfl (fun U6 hU6 K hK => ?_) (AllG.nil)
            · have hF6 := hFn5.trans hU6
              have hb7_6 := hU6.blk hb7_n5 (fun h => h)
              have hb8_6 := hU6.blk hb8_n5 (fun h => h)
              obtain ⟨c0, c1, f0, f1⟩ := two_facts hb8_6
              go_simp
              have hb8_n6 := two_set hb8_6 (u64v (hiw d)) (u64v (low d))
              have hb7_n6 := blk_setCell_other (blk_setCell_other hb7_6 (p := ⟨p8, 0, none⟩) hne87 (u64v (hiw d))) (p := ⟨p8, 1, none⟩) hne87 (u64v (low d))
              have hFn6 := two_fr (b := p8) hF6 (by omega) (u64v (hiw d)) (u64v (low d))
              clear c0 c1 f0 f1
              refine hK.out _ _ ⟨_, hFn6, Fr.refl _ _, ?_⟩
              clear hK K
              try simp only [Act.put, List.setIfInBounds_toArray, List.set_cons_zero, List.set_cons_succ]
              refine wpAnyG_done (by kernel_rfl) (fun U7 hU7 => ?_)
              have hx := hU7.blk hb7_n6 (fun h => h)
              have hy := hU7.blk hb8_n6 (fun h => h)
              have hF := hFn6.trans hU7
              refine NoPanic.normal ?_
              go_wp2_with fail
              go_meet
              exact ⟨p7, p8, rfl, rfl, hsz7, hsz8, hx, hy, hF⟩
      · have hF3 := hF0.trans hU3
        go_simp
        generalize hp8 : U3.heap.size = p8
        have hsz8 : w3.heap.size ≤ p8 := hp8 ▸ hF3.size
        have hb8_n3 := heap_an (w := U3) (k := p8) (.cells #[u64v 0, u64v 0] 77) hp8
        have hFn3 := hF3.alloc (.cells #[u64v 0, u64v 0] 77)
        refine hK.out _ _ ⟨_, hFn3, Fr.refl _ _, ?_⟩
        clear hK K
        try simp only [Act.put, List.setIfInBounds_toArray, List.set_cons_zero, List.set_cons_succ]
        refine wpAnyG_ready (f := 2) (rs := [22]) (by kernel_rfl) (by simp) ?_
        refine AllG.cons rfl (fun U4 hU4 K hK => ?_) (AllG.nil)
        · have hF4 := hFn3.trans hU4
          have hb8_4 := hU4.blk hb8_n3 (fun h => h)
          go_simp
          generalize hp7 : U4.heap.size = p7
          have hsz7 : w3.heap.size ≤ p7 := hp7 ▸ hF4.size
          have hne87 : p8 ≠ p7 := by have := lt_of_block hb8_4; omega
          have hne78 : p7 ≠ p8 := fun h => hne87 h.symm
          have hb7_n4 := heap_an (w := U4) (k := p7) (.cells #[u64v 0, u64v 0] 77) hp7
          have hb8_n4 := blk_alloc hb8_4 (.cells #[u64v 0, u64v 0] 77)
          have hFn4 := hF4.alloc (.cells #[u64v 0, u64v 0] 77)
          refine hK.out _ _ ⟨_, hFn4, Fr.refl _ _, ?_⟩
          clear hK K
          try simp only [Act.put, List.setIfInBounds_toArray, List.set_cons_zero, List.set_cons_succ]
          refine wpAnyG_ready (f := 1) (rs := [24]) (by kernel_rfl) (by simp) ?_
          refine AllG.cons rfl (fun U5 hU5 K hK => ?_) (AllG.nil)
          · have hF5 := hFn4.trans hU5
            have hb8_5 := hU5.blk hb8_n4 (fun h => h)
            have hb7_5 := hU5.blk hb7_n4 (fun h => h)
            obtain ⟨c0, c1, f0, f1⟩ := two_facts hb7_5
            go_simp
            have hb7_n5 := two_set hb7_5 (u64v (hiw n)) (u64v (low n))
            have hb8_n5 := blk_setCell_other (blk_setCell_other hb8_5 (p := ⟨p7, 0, none⟩) hne78 (u64v (hiw n))) (p := ⟨p7, 1, none⟩) hne78 (u64v (low n))
            have hFn5 := two_fr (b := p7) hF5 (by omega) (u64v (hiw n)) (u64v (low n))
            clear c0 c1 f0 f1
            refine hK.out _ _ ⟨_, hFn5, Fr.refl _ _, ?_⟩
            clear hK K
            try simp only [Act.put, List.setIfInBounds_toArray, List.set_cons_zero, List.set_cons_succ]
            refine wpAnyG_ready (f := 0) (rs := [25]) (by kernel_rfl) (by simp) ?_
            refine AllG.cons rfl (fun U6 hU6 K hK => ?_) (AllG.nil)
            · have hF6 := hFn5.trans hU6
              have hb8_6 := hU6.blk hb8_n5 (fun h => h)
              have hb7_6 := hU6.blk hb7_n5 (fun h => h)
              obtain ⟨c0, c1, f0, f1⟩ := two_facts hb8_6
              go_simp
              have hb8_n6 := two_set hb8_6 (u64v (hiw d)) (u64v (low d))
              have hb7_n6 := blk_setCell_other (blk_setCell_other hb7_6 (p := ⟨p8, 0, none⟩) hne87 (u64v (hiw d))) (p := ⟨p8, 1, none⟩) hne87 (u64v (low d))
              have hFn6 := two_fr (b := p8) hF6 (by omega) (u64v (hiw d)) (u64v (low d))
              clear c0 c1 f0 f1
              refine hK.out _ _ ⟨_, hFn6, Fr.refl _ _, ?_⟩
              clear hK K
              try simp only [Act.put, List.setIfInBounds_toArray, List.set_cons_zero, List.set_cons_succ]
              refine wpAnyG_done (by kernel_rfl) (fun U7 hU7 => ?_)
              have hx := hU7.blk hb7_n6 (fun h => h)
              have hy := hU7.blk hb8_n6 (fun h => h)
              have hF := hFn6.trans hU7
              refine NoPanic.normal ?_
              go_wp2_with fail
              go_meet
              exact ⟨p7, p8, rfl, rfl, hsz7, hsz8, hx, hy, hF⟩
  case rest =>
    obtain ⟨p7, p8, rfl, rfl, hs7, hs8, HN7, HD8, HF4⟩ := hcut
    obtain ⟨w8, hw8⟩ : ∃ w8, w8 = wc := ⟨_, rfl⟩
    subst hw8
    obtain ⟨n0, n1, _, _⟩ := two_facts HN7.out
    obtain ⟨m0, m1, _, _⟩ := two_facts HD8.out
    have ca0 := HF4.out.cell HCA.out.1 (fun h => h)
    have cb0 := HF4.out.cell HCB.out.1 (fun h => h)
    have HBR8 := Lib.hid (HF4.out.blk HBR.out (fun h => h))
    have HF8W := Lib.hid (HFW.out.trans HF4.out)
    obtain ⟨sa, dsa⟩ : ∃ b, decide (an < 0) = b := ⟨_, rfl⟩
    obtain ⟨sb, dsb⟩ : ∃ b, decide (bn < 0) = b := ⟨_, rfl⟩
    rw [dsa, dsb] at HPE
    have HEQ := HPE.out
    unfold codeMul at HEQ
    by_cases zz : hiw n = 0 ∧ hiw d = 0
    · rw [if_pos (show n / 18446744073709551616 = 0 ∧ d / 18446744073709551616 = 0 from zz)] at HEQ
      have HEQ2 : Hid (rR (rq an ad * rq bn bd) = toldR (low n) (sa != sb) (low d)) := HEQ
      clear HEQ HPE HF4 HBR HFW HCA HCB
      have z1 : decide (hiw n = 0) = true := decide_eq_true zz.1
      have z2 : (hiw n == 0) = true := by simpa using zz.1
      have z3 : (((hiw n : Nat) : Int) == 0) = true := by simp; omega
      have z4 : decide (hiw d = 0) = true := decide_eq_true zz.2
      have z5 : (hiw d == 0) = true := by simpa using zz.2
      have z6 : (((hiw d : Nat) : Int) == 0) = true := by simp; omega
      have HM := Lib.hid (fun U => rmust_yes 110 U)
      have HTO := Lib.hid (fun U => rtold_calls (low n) (sa != sb) (low d) U)
      rw [toldE_eq] at HTO
      generalize toldR (low n) (sa != sb) (low d) = tr at *
      cases tr with
      | ok pr =>
        obtain ⟨pn, pd⟩ := pr
        change Hid (∀ U, Calls Try.prog _ _ U fun e w' => e = .returned (rtv pn pd) ∧ Fr0 U w') at HTO
        cases sa <;> cases sb <;>
         (go_wp2_with (first | (go_at_call 36; (with_reducible refine (HM.out _).mono ?_); rintro _ _ ⟨rfl, rfl⟩) | (go_at_call 63; refine (HTO.out _).mono ?_; rintro _ w9 ⟨rfl, hf9⟩; obtain ⟨e0, e1, f0, f1⟩ := two_facts (hf9.blk HBR8.out (fun h => h))) | fail)
          exact bodyPost_ret (results_cell_row rfl _ _ (w.heap.size + 1 + 1) _ _ _ _ rfl (two_set (hf9.blk HBR8.out (fun h => h)) (.int .i64 pn) (.int .i64 pd)) Try.underlying23 rfl (by kernel_rfl)) rfl ⟨by rw [HEQ2.out]; rfl, two_fr (HF8W.out.trans hf9) (by omega) _ _⟩)
      | error k =>
        change Hid (∀ U, Calls Try.prog _ _ U fun e w' => e = .panicked [stopE k] ∧ Fr0 U w') at HTO
        cases sa <;> cases sb <;>
         (go_wp2_with (first | (go_at_call 36; (with_reducible refine (HM.out _).mono ?_); rintro _ _ ⟨rfl, rfl⟩) | (go_at_call 63; refine (HTO.out _).mono ?_; rintro _ w9 ⟨rfl, hf9⟩; obtain ⟨e0, e1, f0, f1⟩ := two_facts (hf9.blk HBR8.out (fun h => h))) | fail)
          exact ⟨rfl, by rw [HEQ2.out]; rfl, HF8W.out.trans hf9⟩)
    · rw [if_neg (show ¬ (n / 18446744073709551616 = 0 ∧ d / 18446744073709551616 = 0) from zz)] at HEQ
      have HEQ2 := Lib.hid HEQ
      clear HEQ HPE HF4 HBR HFW HCA HCB
      have HM := Lib.hid (fun U => rmust_no 110 U)
      by_cases zn : hiw n = 0
      · have zd : ¬ hiw d = 0 := fun h => zz ⟨zn, h⟩
        have z1 : decide (hiw n = 0) = true := decide_eq_true zn
        have z2 : (hiw n == 0) = true := by simpa using zn
        have z3 : (((hiw n : Nat) : Int) == 0) = true := by simp; omega
        have z4 : decide (hiw d = 0) = false := decide_eq_false zd
        have z5 : (hiw d == 0) = false := by simpa using zd
        have z6 : (((hiw d : Nat) : Int) == 0) = false := by simp; omega
        clear zn zd zz
        go_wp2_with (first | (go_at_call 36; (with_reducible refine (HM.out _).mono ?_); rintro _ _ ⟨rfl, rfl⟩) | fail)
        exact ⟨rfl, by rw [HEQ2.out]; rfl, HF8W.out⟩
      · have z1 : decide (hiw n = 0) = false := decide_eq_false zn
        have z2 : (hiw n == 0) = false := by simpa using zn
        have z3 : (((hiw n : Nat) : Int) == 0) = false := by simp; omega
        clear zn zz
        go_wp2_with (first | (go_at_call 36; (with_reducible refine (HM.out _).mono ?_); rintro _ _ ⟨rfl, rfl⟩) | fail)
        exact ⟨rfl, by rw [HEQ2.out]; rfl, HF8W.out⟩
end Go.Proofs.Ytdakeenjeieekaa
