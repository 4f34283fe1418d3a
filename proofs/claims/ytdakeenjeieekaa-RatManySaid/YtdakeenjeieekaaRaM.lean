/- Chapter 01: added. -/
import Derived.Test.YtdakeenjeieekaaRaN
set_option linter.unusedVariables false
set_option linter.unusedSimpArgs false
namespace Go.Proofs.Ytdakeenjeieekaa
open Go.RowKit
attribute [local go_sem] Oper.semAt_some

theorem beq_agg (n : Nat) : ((hiw n == 0) && (low n == 0)) = decide (n = 0) := by
  rw [Bool.eq_iff_iff]; simp; exact wd_zero n
set_option maxHeartbeats 8000000 in
set_option maxRecDepth 20000 in
theorem radded_calls (an ad bn bd : Int) (ha : RtOk an ad) (hb : RtOk bn bd) (ia : I64r an ∧ I64r ad) (ib : I64r bn ∧ I64r bd) (w : World) :
    Calls Try.prog 45 #[rtv an ad, rtv bn bd] w fun e w' => e = endR (rR (rq an ad + rq bn bd)) ∧ Fr0 w w' := by
  have hmx : Try.prog.follows .mixedOrders = true := by kernel_rfl
  obtain ⟨a1, a2, a3⟩ := ha
  obtain ⟨b1, b2, b3⟩ := hb
  obtain ⟨ia1, ia2⟩ := ia
  obtain ⟨ib1, ib2⟩ := ib
  have w1 : IntKind.u64.wrap ad = ((ad.natAbs : Nat) : Int) := u64_abs (by omega) ia2.2
  have w2' : IntKind.u64.wrap bd = ((bd.natAbs : Nat) : Int) := u64_abs (by omega) ib2.2
  have hA : an.natAbs < 9223372036854775808 := by have := ia1.1; have := ia1.2; omega
  have hB : bn.natAbs < 9223372036854775808 := by have := ib1.1; have := ib1.2; omega
  have hC : ad.natAbs < 9223372036854775808 := by have := ia2.1; have := ia2.2; omega
  have hD : bd.natAbs < 9223372036854775808 := by have := ib2.1; have := ib2.2; omega
  have hC0 : 0 < ad.natAbs := by omega
  have hD0 : 0 < bd.natAbs := by omega
  have hCi : ((ad.natAbs : Nat) : Int) = ad := by omega
  have hDi : ((bd.natAbs : Nat) : Int) = bd := by omega
  obtain ⟨A, hAe⟩ : ∃ A, A = an.natAbs := ⟨_, rfl⟩
  obtain ⟨B, hBe⟩ : ∃ B, B = bn.natAbs := ⟨_, rfl⟩
  obtain ⟨C, hCe⟩ : ∃ C, C = ad.natAbs := ⟨_, rfl⟩
  obtain ⟨D, hDe⟩ : ∃ D, D = bd.natAbs := ⟨_, rfl⟩
  rw [← hAe] at hA a3; rw [← hBe] at hB b3; rw [← hCe] at hC hC0 a3 w1 hCi; rw [← hDe] at hD hD0 b3 w2' hDi
  have HSA := Lib.hid (fun U => rsize_calls an ia1 U)
  have HSB := Lib.hid (fun U => rsize_calls bn ib1 U)
  rw [← hAe] at HSA; rw [← hBe] at HSB
  have HG := Lib.hid (fun U => rgcd_calls C D (by omega) (by omega) U)
  obtain ⟨g, hg⟩ : ∃ g, g = Nat.gcd C D := ⟨_, rfl⟩
  rw [← hg] at HG
  have hg0 : 0 < g := hg ▸ Nat.gcd_pos_of_pos_left D hC0
  have hgC : g ≤ C := hg ▸ Nat.gcd_le_left D hC0
  obtain ⟨p, hp⟩ : ∃ p, p = D / g := ⟨_, rfl⟩
  obtain ⟨r, hr⟩ : ∃ r, r = C / g := ⟨_, rfl⟩
  have hpD : p ≤ D := hp ▸ Nat.div_le_self D g
  have hrC : r ≤ C := hr ▸ Nat.div_le_self C g
  have hgp : g * p = D := by rw [hp]; exact Nat.mul_div_cancel' (hg ▸ Nat.gcd_dvd_right C D)
  have hgr : g * r = C := by rw [hr]; exact Nat.mul_div_cancel' (hg ▸ Nat.gcd_dvd_left C D)
  have q1 := quoN hp
  have q2 := quoN hr
  have q3 := wrapN p (by omega)
  have q4 := wrapN r (by omega)
  have hgn : ¬ ((g : Int) = 0) := by omega
  have hgb : ((g : Int) == 0) = false := by simpa using hgn
  have HTA := Lib.hid (fun U => ctimes A p (by omega) (by omega) U)
  have HTB := Lib.hid (fun U => ctimes B r (by omega) (by omega) U)
  obtain ⟨x, hx⟩ : ∃ x, x = A * p := ⟨_, rfl⟩
  obtain ⟨y, hy⟩ : ∃ y, y = B * r := ⟨_, rfl⟩
  rw [← hx] at HTA; rw [← hy] at HTB
  have hxl : x ≤ 9223372036854775807 * 9223372036854775807 := by rw [hx]; exact Nat.mul_le_mul (by omega) (by omega)
  have hyl : y ≤ 9223372036854775807 * 9223372036854775807 := by rw [hy]; exact Nat.mul_le_mul (by omega) (by omega)
  have hgx : g * x = A * D := by rw [hx, Nat.mul_left_comm, hgp]
  have hgy : g * y = B * C := by rw [hy, Nat.mul_left_comm, hgr]
  have HP1 := Lib.hid (fun h => addT_same hAe hBe hCi hDi hgx hgy h)
  have HP2 := Lib.hid (fun h hl => addT_less hAe hBe hCi hDi hgx hgy h hl)
  have HP3 := Lib.hid (fun h hl => addT_ge hAe hBe hCi hDi hgx hgy h hl)
  have HPE := Lib.hid (fun t below h => addR_code (t := t) (below := below) hAe hBe hCe hDe a1 b1 a3 b3 hg hp hr hx hy h)
  have HPLUS := Lib.hid (fun U => cplus x y (by omega) U)
  have HLESS := Lib.hid (fun U => cless x y U)
  have HMYX := Lib.hid (fun h U => cminus y x h (by omega) U)
  have HMXY := Lib.hid (fun h U => cminus x y h (by omega) U)
  have HXY := Lib.hid (show x + y < 340282366920938463463374607431768211456 by omega)
  clear hAe hBe hCe hDe hg hp hr hx hy hgx hgy hgp hgr hCi hDi hxl hyl
  have HF0 := fun o1 o2 o3 => Lib.hid ((((Fr.refl (fun _ => False) w).alloc o1).alloc o2).alloc o3)
  have HB0 := fun o2 o3 => Lib.hid (blk_alloc (blk_alloc (heap_alloc_new w (.cells (rtc an ad) 23)) o2) o3)
  have HB1 := fun o3 => Lib.hid (blk_alloc (heap_an (w := w.alloc (.cells (rtc an ad) 23)) (k := w.heap.size + 1) (.cells (rtc bn bd) 23) (by simp)) o3)
  have HB2 := Lib.hid (heap_an (w := (w.alloc (.cells (rtc an ad) 23)).alloc (.cells (rtc bn bd) 23)) (k := w.heap.size + 1 + 1) (.cells (rtc 0 0) 23) (by simp))
  go_enter Try.func45, Try.ntmps45
  go_upto_region 2 with (first | (go_at_call 42; refine (HG.out _).mono ?_; rintro _ w2 ⟨rfl, hf2⟩) | fail)
  have hbA := hf2.blk (HB0 (.cells (rtc bn bd) 23) (.cells (rtc 0 0) 23)).out (fun h => h)
  have hbB := hf2.blk (HB1 (.cells (rtc 0 0) 23)).out (fun h => h)
  have HBR := Lib.hid (hf2.blk HB2.out (fun h => h))
  have HFW := Lib.hid ((HF0 (.cells (rtc an ad) 23) (.cells (rtc bn bd) 23) (.cells (rtc 0 0) 23)).out.trans hf2)
  have HCA := Lib.hid (two_facts hbA)
  have HCB := Lib.hid (two_facts hbB)
  have HLW := Lib.hid (show w.heap.size + 1 + 1 < w2.heap.size from lt_of_block HBR.out)
  clear hf2 hbA hbB HB0 HB1 HB2 HF0
  go_cut [6, 7] from 21 to 38 (fun s6 s7 wx => ∃ p6 p7 : Nat, s6 = .pointer (some ⟨p6, 0, none⟩) ∧ s7 = .pointer (some ⟨p7, 0, none⟩) ∧ p6 ≠ p7 ∧ w2.heap.size ≤ p6 ∧ w2.heap.size ≤ p7 ∧ Hid (wx.heap[p6]? = some (.cells (wdC x) 77 (0, 0))) ∧ Hid (wx.heap[p7]? = some (.cells (wdC y) 77 (0, 0))) ∧ Hid (Fr0 w2 wx))
  case first =>
    refine wp_region_noPanic ?_
    refine takesG_ex 18 (fun U => Fr0 w2 U) (fun _ _ h k => h.trans k) (Fr.refl _ _) hmx (fun _ _ _ _ _ h => h) (by kernel_rfl) (by kernel_rfl) ?_
    apply Exists.intro
    refine ⟨fun W' hW' => ?_, ?_⟩
    · have r0 := cg_cell (W := W') (hW'.cell HCA.out.1 (fun h => h))
      have r1 := cg_cell (W := W') (hW'.cell HCA.out.2.1 (fun h => h))
      have r2 := cg_cell (W := W') (hW'.cell HCB.out.1 (fun h => h))
      have r3 := cg_cell (W := W') (hW'.cell HCB.out.2.1 (fun h => h))
      simp only [List.take_succ_cons, List.take_zero]
      repeat (first
        | go_big_quiet_step (fail)
        | go_big_quiet_step (first
          | (go_at_call 38; with_reducible exact quiet_cg ((HSA.out _).mono fun e w' h => ⟨h.1, h.2 ▸ Fr.refl _ _⟩))
          | (go_at_call 38; with_reducible exact quiet_cg ((HSB.out _).mono fun e w' h => ⟨h.1, h.2 ▸ Fr.refl _ _⟩))
          | (go_at_call 67; with_reducible exact quiet_cg (HTA.out _))
          | (go_at_call 67; with_reducible exact quiet_cg (HTB.out _))))
      exact wpQuiet_nil rfl
    · have hF0 := Fr.refl (fun _ => False) w2
      change wpAnyG _ _ _ _ _ 4 _ _ _
      refine wpAnyG_ready (f := 3) (rs := [18, 19]) (by kernel_rfl) (by simp) ?_
      refine AllG.cons rfl (fun U3 hU3 K hK => ?_) (AllG.cons rfl (fun U3 hU3 K hK => ?_) (AllG.nil))
      · have hF3 := hF0.trans hU3
        go_simp
        generalize hp6 : U3.heap.size = p6
        have hsz6 : w2.heap.size ≤ p6 := hp6 ▸ hF3.size
        have hb6_n3 := heap_an (w := U3) (k := p6) (.cells #[u64v 0, u64v 0] 77) hp6
        have hFn3 := hF3.alloc (.cells #[u64v 0, u64v 0] 77)
        refine hK.out _ _ ⟨_, hFn3, Fr.refl _ _, ?_⟩
        clear hK K
        try simp only [Act.put, List.setIfInBounds_toArray, List.set_cons_zero, List.set_cons_succ]
        refine wpAnyG_ready (f := 2) (rs := [19]) (by kernel_rfl) (by simp) ?_
        refine AllG.cons rfl (fun U4 hU4 K hK => ?_) (AllG.nil)
        · have hF4 := hFn3.trans hU4
          have hb6_4 := hU4.blk hb6_n3 (fun h => h)
          go_simp
          generalize hp7 : U4.heap.size = p7
          have hsz7 : w2.heap.size ≤ p7 := hp7 ▸ hF4.size
          have hne67 : p6 ≠ p7 := by have := lt_of_block hb6_4; omega
          have hne76 : p7 ≠ p6 := fun h => hne67 h.symm
          have hb7_n4 := heap_an (w := U4) (k := p7) (.cells #[u64v 0, u64v 0] 77) hp7
          have hb6_n4 := blk_alloc hb6_4 (.cells #[u64v 0, u64v 0] 77)
          have hFn4 := hF4.alloc (.cells #[u64v 0, u64v 0] 77)
          refine hK.out _ _ ⟨_, hFn4, Fr.refl _ _, ?_⟩
          clear hK K
          try simp only [Act.put, List.setIfInBounds_toArray, List.set_cons_zero, List.set_cons_succ]
          refine wpAnyG_ready (f := 1) (rs := [20]) (by kernel_rfl) (by simp) ?_
          refine AllG.cons rfl (fun U5 hU5 K hK => ?_) (AllG.nil)
          · have hF5 := hFn4.trans hU5
            have hb6_5 := hU5.blk hb6_n4 (fun h => h)
            have hb7_5 := hU5.blk hb7_n4 (fun h => h)
            obtain ⟨c0, c1, f0, f1⟩ := two_facts hb6_5
            go_simp
            have hb6_n5 := two_set hb6_5 (u64v (hiw x)) (u64v (low x))
            have hb7_n5 := blk_setCell_other (blk_setCell_other hb7_5 (p := ⟨p6, 0, none⟩) hne67 (u64v (hiw x))) (p := ⟨p6, 1, none⟩) hne67 (u64v (low x))
            have hFn5 := two_fr (b := p6) hF5 (by omega) (u64v (hiw x)) (u64v (low x))
            clear c0 c1 f0 f1
            refine hK.out _ _ ⟨_, hFn5, Fr.refl _ _, ?_⟩
            clear hK K
            try simp only [Act.put, List.setIfInBounds_toArray, List.set_cons_zero, List.set_cons_succ]
            refine wpAnyG_ready (f := 0) (rs := [21]) (by kernel_rfl) (by simp) ?_
            refine AllG.cons rfl (fun U6 hU6 K hK => ?_) (AllG.nil)
            · have hF6 := hFn5.trans hU6
              have hb6_6 := hU6.blk hb6_n5 (fun h => h)
              have hb7_6 := hU6.blk hb7_n5 (fun h => h)
              obtain ⟨c0, c1, f0, f1⟩ := two_facts hb7_6
              go_simp
              have hb7_n6 := two_set hb7_6 (u64v (hiw y)) (u64v (low y))
              have hb6_n6 := blk_setCell_other (blk_setCell_other hb6_6 (p := ⟨p7, 0, none⟩) hne76 (u64v (hiw y))) (p := ⟨p7, 1, none⟩) hne76 (u64v (low y))
              have hFn6 := two_fr (b := p7) hF6 (by omega) (u64v (hiw y)) (u64v (low y))
              clear c0 c1 f0 f1
              refine hK.out _ _ ⟨_, hFn6, Fr.refl _ _, ?_⟩
              clear hK K
              try simp only [Act.put, List.setIfInBounds_toArray, List.set_cons_zero, List.set_cons_succ]
              refine wpAnyG_done (by kernel_rfl) (fun U7 hU7 => ?_)
              have hx := hU7.blk hb6_n6 (fun h => h)
              have hy := hU7.blk hb7_n6 (fun h => h)
              have hF := hFn6.trans hU7
              refine NoPanic.normal ?_
              go_wp2_with fail
              go_meet
              exact ⟨p6, p7, rfl, rfl, hne67, hsz6, hsz7, hx, hy, hF⟩
      · have hF3 := hF0.trans hU3
        go_simp
        generalize hp7 : U3.heap.size = p7
        have hsz7 : w2.heap.size ≤ p7 := hp7 ▸ hF3.size
        have hb7_n3 := heap_an (w := U3) (k := p7) (.cells #[u64v 0, u64v 0] 77) hp7
        have hFn3 := hF3.alloc (.cells #[u64v 0, u64v 0] 77)
        refine hK.out _ _ ⟨_, hFn3, Fr.refl _ _, ?_⟩
        clear hK K
        try simp only [Act.put, List.setIfInBounds_toArray, List.set_cons_zero, List.set_cons_succ]
        refine wpAnyG_ready (f := 2) (rs := [18]) (by kernel_rfl) (by simp) ?_
        refine AllG.cons rfl (fun U4 hU4 K hK => ?_) (AllG.nil)
        · have hF4 := hFn3.trans hU4
          have hb7_4 := hU4.blk hb7_n3 (fun h => h)
          go_simp
          generalize hp6 : U4.heap.size = p6
          have hsz6 : w2.heap.size ≤ p6 := hp6 ▸ hF4.size
          have hne76 : p7 ≠ p6 := by have := lt_of_block hb7_4; omega
          have hne67 : p6 ≠ p7 := fun h => hne76 h.symm
          have hb6_n4 := heap_an (w := U4) (k := p6) (.cells #[u64v 0, u64v 0] 77) hp6
          have hb7_n4 := blk_alloc hb7_4 (.cells #[u64v 0, u64v 0] 77)
          have hFn4 := hF4.alloc (.cells #[u64v 0, u64v 0] 77)
          refine hK.out _ _ ⟨_, hFn4, Fr.refl _ _, ?_⟩
          clear hK K
          try simp only [Act.put, List.setIfInBounds_toArray, List.set_cons_zero, List.set_cons_succ]
          refine wpAnyG_ready (f := 1) (rs := [20]) (by kernel_rfl) (by simp) ?_
          refine AllG.cons rfl (fun U5 hU5 K hK => ?_) (AllG.nil)
          · have hF5 := hFn4.trans hU5
            have hb7_5 := hU5.blk hb7_n4 (fun h => h)
            have hb6_5 := hU5.blk hb6_n4 (fun h => h)
            obtain ⟨c0, c1, f0, f1⟩ := two_facts hb6_5
            go_simp
            have hb6_n5 := two_set hb6_5 (u64v (hiw x)) (u64v (low x))
            have hb7_n5 := blk_setCell_other (blk_setCell_other hb7_5 (p := ⟨p6, 0, none⟩) hne67 (u64v (hiw x))) (p := ⟨p6, 1, none⟩) hne67 (u64v (low x))
            have hFn5 := two_fr (b := p6) hF5 (by omega) (u64v (hiw x)) (u64v (low x))
            clear c0 c1 f0 f1
            refine hK.out _ _ ⟨_, hFn5, Fr.refl _ _, ?_⟩
            clear hK K
            try simp only [Act.put, List.setIfInBounds_toArray, List.set_cons_zero, List.set_cons_succ]
            refine wpAnyG_ready (f := 0) (rs := [21]) (by kernel_rfl) (by simp) ?_
            refine AllG.cons rfl (fun U6 hU6 K hK => ?_) (AllG.nil)
            · have hF6 := hFn5.trans hU6
              have hb7_6 := hU6.blk hb7_n5 (fun h => h)
              have hb6_6 := hU6.blk hb6_n5 (fun h => h)
              obtain ⟨c0, c1, f0, f1⟩ := two_facts hb7_6
              go_simp
              have hb7_n6 := two_set hb7_6 (u64v (hiw y)) (u64v (low y))
              have hb6_n6 := blk_setCell_other (blk_setCell_other hb6_6 (p := ⟨p7, 0, none⟩) hne76 (u64v (hiw y))) (p := ⟨p7, 1, none⟩) hne76 (u64v (low y))
              have hFn6 := two_fr (b := p7) hF6 (by omega) (u64v (hiw y)) (u64v (low y))
              clear c0 c1 f0 f1
              refine hK.out _ _ ⟨_, hFn6, Fr.refl _ _, ?_⟩
              clear hK K
              try simp only [Act.put, List.setIfInBounds_toArray, List.set_cons_zero, List.set_cons_succ]
              refine wpAnyG_done (by kernel_rfl) (fun U7 hU7 => ?_)
              have hx := hU7.blk hb6_n6 (fun h => h)
              have hy := hU7.blk hb7_n6 (fun h => h)
              have hF := hFn6.trans hU7
              refine NoPanic.normal ?_
              go_wp2_with fail
              go_meet
              exact ⟨p6, p7, rfl, rfl, hne67, hsz6, hsz7, hx, hy, hF⟩
  case rest =>
    obtain ⟨p6, p7, rfl, rfl, h67, hs6, hs7, HX, HY, HF3⟩ := hcut
    obtain ⟨w3, hw3⟩ : ∃ w3, w3 = wc := ⟨_, rfl⟩
    subst hw3
    have HCA3 := Lib.hid (show w3.cell? ⟨w.heap.size, 0, none⟩ = some (.int .i64 an) ∧ w3.cell? ⟨w.heap.size, 1, none⟩ = some (.int .i64 ad) from ⟨HF3.out.cell HCA.out.1 (fun h => h), HF3.out.cell HCA.out.2.1 (fun h => h)⟩)
    have HCB3 := Lib.hid (show w3.cell? ⟨w.heap.size + 1, 0, none⟩ = some (.int .i64 bn) ∧ w3.cell? ⟨w.heap.size + 1, 1, none⟩ = some (.int .i64 bd) from ⟨HF3.out.cell HCB.out.1 (fun h => h), HF3.out.cell HCB.out.2.1 (fun h => h)⟩)
    have HBR3 := Lib.hid (HF3.out.blk HBR.out (fun h => h))
    have HFW3 := Lib.hid (HFW.out.trans HF3.out)
    have HL3 := Lib.hid (show w.heap.size + 1 + 1 < p6 ∧ w.heap.size + 1 + 1 < p7 ∧ p6 < w3.heap.size ∧ p7 < w3.heap.size from ⟨Nat.lt_of_lt_of_le HLW.out hs6, Nat.lt_of_lt_of_le HLW.out hs7, lt_of_block HX.out, lt_of_block HY.out⟩)
    clear HCA HCB HBR HFW HF3 HLW hs6 hs7
    go_upto_region 3 with fail
    go_cut [8, 9] from 39 to 44 (fun s8 s9 wx => ∃ p8 : Nat, s8 = .pointer (some ⟨p8, 0, none⟩) ∧ s9 = .bool (decide (an < 0)) ∧ w3.heap.size ≤ p8 ∧ Hid (wx.heap[p8]? = some (.cells (wdC (x + y)) 77 (0, 0))) ∧ Hid (Fr0 w3 wx))
    case first =>
      refine wp_region_noPanic ?_
      refine takesG_ex 6 (fun U => Fr0 w3 U) (fun _ _ h k => h.trans k) (Fr.refl _ _) hmx (fun _ _ _ _ _ h => h) (by kernel_rfl) (by kernel_rfl) ?_
      apply Exists.intro
      refine ⟨fun W' hW' => ?_, ?_⟩
      · have r0 := cg_cell (W := W') (hW'.cell HCA3.out.1 (fun h => h))
        have r1 := cg_cell (W := W') (hW'.cell (two_facts HX.out).1 (fun h => h))
        have r2 := cg_cell (W := W') (hW'.cell (two_facts HX.out).2.1 (fun h => h))
        have r3 := cg_cell (W := W') (hW'.cell (two_facts HY.out).1 (fun h => h))
        have r4 := cg_cell (W := W') (hW'.cell (two_facts HY.out).2.1 (fun h => h))
        simp only [List.take_succ_cons, List.take_zero]
        repeat (first
          | go_big_quiet_step (fail)
          | go_big_quiet_step ((go_at_call 68; with_reducible exact quiet_cg (HPLUS.out _))))
        exact wpQuiet_nil rfl
      · have hF0 := Fr.refl (fun _ => False) w3
        change wpAnyG _ _ _ _ _ 3 _ _ _
        refine wpAnyG_ready (f := 2) (rs := [6]) (by kernel_rfl) (by simp) ?_
        refine AllG.cons rfl (fun U3 hU3 K hK => ?_) (AllG.nil)
        · have hF3 := hF0.trans hU3
          go_simp
          generalize hp8 : U3.heap.size = p8
          have hsz8 : w3.heap.size ≤ p8 := hp8 ▸ hF3.size
          have hb8_n3 := heap_an (w := U3) (k := p8) (.cells #[u64v 0, u64v 0] 77) hp8
          have hFn3 := hF3.alloc (.cells #[u64v 0, u64v 0] 77)
          refine hK.out _ _ ⟨_, hFn3, Fr.refl _ _, ?_⟩
          clear hK K
          try simp only [Act.put, List.setIfInBounds_toArray, List.set_cons_zero, List.set_cons_succ]
          refine wpAnyG_ready (f := 1) (rs := [7]) (by kernel_rfl) (by simp) ?_
          refine AllG.cons rfl (fun U4 hU4 K hK => ?_) (AllG.nil)
          · have hF4 := hFn3.trans hU4
            have hb8_4 := hU4.blk hb8_n3 (fun h => h)
            obtain ⟨c0, c1, f0, f1⟩ := two_facts hb8_4
            go_simp
            have hb8_n4 := two_set hb8_4 (u64v (hiw (x + y))) (u64v (low (x + y)))
            have hFn4 := two_fr (b := p8) hF4 (by omega) (u64v (hiw (x + y))) (u64v (low (x + y)))
            clear c0 c1 f0 f1
            refine hK.out _ _ ⟨_, hFn4, Fr.refl _ _, ?_⟩
            clear hK K
            try simp only [Act.put, List.setIfInBounds_toArray, List.set_cons_zero, List.set_cons_succ]
            refine wpAnyG_ready (f := 0) (rs := [8]) (by kernel_rfl) (by simp) ?_
            refine AllG.cons rfl (fun U5 hU5 K hK => ?_) (AllG.nil)
            · have hF5 := hFn4.trans hU5
              have hb8_5 := hU5.blk hb8_n4 (fun h => h)
              go_simp
              have hb8_n5 := hb8_5
              have hFn5 := hF5
              refine hK.out _ _ ⟨_, hFn5, Fr.refl _ _, ?_⟩
              clear hK K
              try simp only [Act.put, List.setIfInBounds_toArray, List.set_cons_zero, List.set_cons_succ]
              refine wpAnyG_done (by kernel_rfl) (fun U6 hU6 => ?_)
              have hx := hU6.blk hb8_n5 (fun h => h)
              have hF := hFn5.trans hU6
              refine NoPanic.normal ?_
              go_wp2_with fail
              go_meet
              exact ⟨p8, rfl, rfl, hsz8, hx, hF⟩
    case rest =>
      obtain ⟨p8, rfl, rfl, hs8, H8, HF4⟩ := hcut
      obtain ⟨w4, hw4⟩ : ∃ w4, w4 = wc := ⟨_, rfl⟩
      subst hw4
      have HCA4 := Lib.hid (show w4.cell? ⟨w.heap.size, 0, none⟩ = some (.int .i64 an) ∧ w4.cell? ⟨w.heap.size, 1, none⟩ = some (.int .i64 ad) from ⟨HF4.out.cell HCA3.out.1 (fun h => h), HF4.out.cell HCA3.out.2 (fun h => h)⟩)
      have HCB4 := Lib.hid (show w4.cell? ⟨w.heap.size + 1, 0, none⟩ = some (.int .i64 bn) ∧ w4.cell? ⟨w.heap.size + 1, 1, none⟩ = some (.int .i64 bd) from ⟨HF4.out.cell HCB3.out.1 (fun h => h), HF4.out.cell HCB3.out.2 (fun h => h)⟩)
      have HBR4 := Lib.hid (HF4.out.blk HBR3.out (fun h => h))
      have HFW4 := Lib.hid (HFW3.out.trans HF4.out)
      have HX4 := Lib.hid (HF4.out.blk HX.out (fun h => h))
      have HY4 := Lib.hid (HF4.out.blk HY.out (fun h => h))
      have h86 : p8 ≠ p6 := by have := HL3.out; omega
      have h87 : p8 ≠ p7 := by have := HL3.out; omega
      have hw8 : w.heap.size ≠ p8 ∧ w.heap.size + 1 ≠ p8 ∧ w.heap.size + 1 + 1 < p8 := by have := HL3.out; omega
      clear HCA3 HCB3 HBR3 HFW3 HF4 HX HY HL3 hs8
      have HW8 := Lib.hid hw8
      clear hw8
      go_upto_block 0 with fail
      go_cut [9] from 45 to 65 (fun s9 wx => ∃ (t : Nat) (below : Bool), s9 = .bool below ∧ Hid (AddT an ad bn bd g x y t below) ∧ Hid (wx.heap[p8]? = some (.cells (wdC t) 77 (0, 0))) ∧ Hid (Fr (fun k => k = p8) w4 wx))
      case first =>
        have ca0 := HCA4.out.1
        have cb0 := HCB4.out.1
        obtain ⟨x0, x1, _, _⟩ := two_facts HX4.out
        obtain ⟨y0, y1, _, _⟩ := two_facts HY4.out
        rcases Bool.eq_false_or_eq_true (decide (an < 0)) with ea | ea <;> rcases Bool.eq_false_or_eq_true (decide (bn < 0)) with eb | eb
        · have hadd := HP1.out (ea.trans eb.symm)
          rw [ea] at hadd
          have HADD := Lib.hid hadd
          clear hadd
          go_wp2_with fail
          go_meet
          exact ⟨x + y, true, by first | rfl | exact congrArg Value.bool ea, HADD, H8, Fr.refl _ _⟩
        · have hne : decide (an < 0) = !decide (bn < 0) := by rw [ea, eb]; rfl
          by_cases hl : x < y
          · have hadd := HP2.out hne hl
            rw [eb] at hadd
            have HADD := Lib.hid hadd
            have HM := Lib.hid (HMYX.out (Nat.le_of_lt hl))
            rw [decide_eq_true hl] at HLESS
            clear hadd hne hl
            go_upto_region 7 with (first | (go_at_call 69; refine (HLESS.out _).mono ?_; rintro _ w5 ⟨rfl, hf5⟩) | fail)
            refine wp_region_noPanic ?_
            refine takesG_ex 6 (fun U => Fr (fun k => k = p8) w5 U) (fun _ _ h k => h.trans (Fr0.any k)) (Fr.refl _ _) hmx (fun _ _ _ _ _ h => h) (by kernel_rfl) (by kernel_rfl) ?_
            apply Exists.intro
            refine ⟨fun W' hW' => ?_, ?_⟩
            · have r0 := cg_cell (W := W') (hW'.cell (hf5.cell cb0 (fun h => h)) HW8.out.2.1)
              have r1 := cg_cell (W := W') (hW'.cell (hf5.cell x0 (fun h => h)) h86.symm)
              have r2 := cg_cell (W := W') (hW'.cell (hf5.cell x1 (fun h => h)) h86.symm)
              have r3 := cg_cell (W := W') (hW'.cell (hf5.cell y0 (fun h => h)) h87.symm)
              have r4 := cg_cell (W := W') (hW'.cell (hf5.cell y1 (fun h => h)) h87.symm)
              simp only [List.take_succ_cons, List.take_zero]
              repeat (first
                | go_big_quiet_step (fail)
                | go_big_quiet_step ((go_at_call 70; with_reducible exact quiet_cg (HM.out _))))
              exact wpQuiet_nil rfl
            · change wpAnyG _ _ _ _ _ 2 _ _ _
              refine wpAnyG_ready (f := 1) (rs := [6]) (by kernel_rfl) (by simp) ?_
              refine AllG.cons rfl (fun U hU K hK => ?_) AllG.nil
              have hb8 := (hf5.trans hU).blk H8.out (fun h => h)
              obtain ⟨c0, c1, f0, f1⟩ := two_facts hb8
              go_simp
              have hb8' := two_set hb8 (u64v (hiw (y - x))) (u64v (low (y - x)))
              have hF' : Fr (fun k => k = p8) w5 ((U.setCell ⟨p8, 0, none⟩ (u64v (hiw (y - x)))).setCell ⟨p8, 1, none⟩ (u64v (low (y - x)))) := two_frS (S := fun k => k = p8) (b := p8) (Fr0.any hU) rfl _ _
              refine hK.out _ _ ⟨_, hF', Fr.refl _ _, ?_⟩
              clear hK K c0 c1 f0 f1
              try simp only [Act.put, List.setIfInBounds_toArray, List.set_cons_zero, List.set_cons_succ]
              refine wpAnyG_ready (f := 0) (rs := [7]) (by kernel_rfl) (by simp) ?_
              refine AllG.cons rfl (fun U2 hU2 K hK => ?_) AllG.nil
              go_simp
              refine hK.out _ _ ⟨_, hF'.trans (Fr0.any hU2), Fr.refl _ _, ?_⟩
              clear hK K
              try simp only [Act.put, List.setIfInBounds_toArray, List.set_cons_zero, List.set_cons_succ]
              refine wpAnyG_done (by kernel_rfl) (fun U3 hU3 => ?_)
              have hx := (hU2.trans hU3).blk hb8' (fun h => h)
              have hF := (Fr0.any hf5 : Fr (fun k => k = p8) w4 w5).trans (hF'.trans ((Fr0.any hU2).trans (Fr0.any hU3)))
              refine NoPanic.normal ?_
              go_wp2_with fail
              go_meet
              exact ⟨y - x, false, rfl, HADD, hx, hF⟩
          · have hadd := HP3.out hne hl
            rw [ea] at hadd
            have HADD := Lib.hid hadd
            have HM := Lib.hid (HMXY.out (Nat.le_of_not_lt hl))
            rw [decide_eq_false hl] at HLESS
            clear hadd hne hl
            go_wp2_with (first
              | (go_at_call 69; refine (HLESS.out _).mono ?_; rintro _ w5 ⟨rfl, hf5⟩; have xx0 := hf5.cell x0 (fun h => h); have xx1 := hf5.cell x1 (fun h => h); have yy0 := hf5.cell y0 (fun h => h); have yy1 := hf5.cell y1 (fun h => h))
              | (go_at_call 70; refine (HM.out _).mono ?_; rintro _ w6 ⟨rfl, hf6⟩; have hb8 := (hf5.trans hf6).blk H8.out (fun h => h); obtain ⟨c0, c1, f0, f1⟩ := two_facts hb8)
              | fail)
            have hx := two_set hb8 (u64v (hiw (x - y))) (u64v (low (x - y)))
            have hF : Fr (fun k => k = p8) w4 ((w6.setCell ⟨p8, 0, none⟩ (u64v (hiw (x - y)))).setCell ⟨p8, 1, none⟩ (u64v (low (x - y)))) := two_frS (S := fun k => k = p8) (b := p8) (Fr0.any (hf5.trans hf6)) rfl _ _
            go_meet
            exact ⟨x - y, true, rfl, HADD, hx, hF⟩
        · have hne : decide (an < 0) = !decide (bn < 0) := by rw [ea, eb]; rfl
          by_cases hl : x < y
          · have hadd := HP2.out hne hl
            rw [eb] at hadd
            have HADD := Lib.hid hadd
            have HM := Lib.hid (HMYX.out (Nat.le_of_lt hl))
            rw [decide_eq_true hl] at HLESS
            clear hadd hne hl
            go_upto_region 7 with (first | (go_at_call 69; refine (HLESS.out _).mono ?_; rintro _ w5 ⟨rfl, hf5⟩) | fail)
            refine wp_region_noPanic ?_
            refine takesG_ex 6 (fun U => Fr (fun k => k = p8) w5 U) (fun _ _ h k => h.trans (Fr0.any k)) (Fr.refl _ _) hmx (fun _ _ _ _ _ h => h) (by kernel_rfl) (by kernel_rfl) ?_
            apply Exists.intro
            refine ⟨fun W' hW' => ?_, ?_⟩
            · have r0 := cg_cell (W := W') (hW'.cell (hf5.cell cb0 (fun h => h)) HW8.out.2.1)
              have r1 := cg_cell (W := W') (hW'.cell (hf5.cell x0 (fun h => h)) h86.symm)
              have r2 := cg_cell (W := W') (hW'.cell (hf5.cell x1 (fun h => h)) h86.symm)
              have r3 := cg_cell (W := W') (hW'.cell (hf5.cell y0 (fun h => h)) h87.symm)
              have r4 := cg_cell (W := W') (hW'.cell (hf5.cell y1 (fun h => h)) h87.symm)
              simp only [List.take_succ_cons, List.take_zero]
              repeat (first
                | go_big_quiet_step (fail)
                | go_big_quiet_step ((go_at_call 70; with_reducible exact quiet_cg (HM.out _))))
              exact wpQuiet_nil rfl
            · change wpAnyG _ _ _ _ _ 2 _ _ _
              refine wpAnyG_ready (f := 1) (rs := [6]) (by kernel_rfl) (by simp) ?_
              refine AllG.cons rfl (fun U hU K hK => ?_) AllG.nil
              have hb8 := (hf5.trans hU).blk H8.out (fun h => h)
              obtain ⟨c0, c1, f0, f1⟩ := two_facts hb8
              go_simp
              have hb8' := two_set hb8 (u64v (hiw (y - x))) (u64v (low (y - x)))
              have hF' : Fr (fun k => k = p8) w5 ((U.setCell ⟨p8, 0, none⟩ (u64v (hiw (y - x)))).setCell ⟨p8, 1, none⟩ (u64v (low (y - x)))) := two_frS (S := fun k => k = p8) (b := p8) (Fr0.any hU) rfl _ _
              refine hK.out _ _ ⟨_, hF', Fr.refl _ _, ?_⟩
              clear hK K c0 c1 f0 f1
              try simp only [Act.put, List.setIfInBounds_toArray, List.set_cons_zero, List.set_cons_succ]
              refine wpAnyG_ready (f := 0) (rs := [7]) (by kernel_rfl) (by simp) ?_
              refine AllG.cons rfl (fun U2 hU2 K hK => ?_) AllG.nil
              go_simp
              refine hK.out _ _ ⟨_, hF'.trans (Fr0.any hU2), Fr.refl _ _, ?_⟩
              clear hK K
              try simp only [Act.put, List.setIfInBounds_toArray, List.set_cons_zero, List.set_cons_succ]
              refine wpAnyG_done (by kernel_rfl) (fun U3 hU3 => ?_)
              have hx := (hU2.trans hU3).blk hb8' (fun h => h)
              have hF := (Fr0.any hf5 : Fr (fun k => k = p8) w4 w5).trans (hF'.trans ((Fr0.any hU2).trans (Fr0.any hU3)))
              refine NoPanic.normal ?_
              go_wp2_with fail
              go_meet
              exact ⟨y - x, true, rfl, HADD, hx, hF⟩
          · have hadd := HP3.out hne hl
            rw [ea] at hadd
            have HADD := Lib.hid hadd
            have HM := Lib.hid (HMXY.out (Nat.le_of_not_lt hl))
            rw [decide_eq_false hl] at HLESS
            clear hadd hne hl
            go_wp2_with (first
              | (go_at_call 69; refine (HLESS.out _).mono ?_; rintro _ w5 ⟨rfl, hf5⟩; have xx0 := hf5.cell x0 (fun h => h); have xx1 := hf5.cell x1 (fun h => h); have yy0 := hf5.cell y0 (fun h => h); have yy1 := hf5.cell y1 (fun h => h))
              | (go_at_call 70; refine (HM.out _).mono ?_; rintro _ w6 ⟨rfl, hf6⟩; have hb8 := (hf5.trans hf6).blk H8.out (fun h => h); obtain ⟨c0, c1, f0, f1⟩ := two_facts hb8)
              | fail)
            have hx := two_set hb8 (u64v (hiw (x - y))) (u64v (low (x - y)))
            have hF : Fr (fun k => k = p8) w4 ((w6.setCell ⟨p8, 0, none⟩ (u64v (hiw (x - y)))).setCell ⟨p8, 1, none⟩ (u64v (low (x - y)))) := two_frS (S := fun k => k = p8) (b := p8) (Fr0.any (hf5.trans hf6)) rfl _ _
            go_meet
            exact ⟨x - y, false, rfl, HADD, hx, hF⟩
        · have hadd := HP1.out (ea.trans eb.symm)
          rw [ea] at hadd
          have HADD := Lib.hid hadd
          clear hadd
          go_wp2_with fail
          go_meet
          exact ⟨x + y, false, by first | rfl | exact congrArg Value.bool ea, HADD, H8, Fr.refl _ _⟩
      case rest =>
        obtain ⟨t, below, rfl, HT, H8t, HF6⟩ := hcut
        obtain ⟨w6, hw6⟩ : ∃ w6, w6 = wc := ⟨_, rfl⟩
        subst hw6
        have HCA6 := Lib.hid (HF6.out.cell HCA4.out.2 (show ¬ (w.heap.size = p8) from HW8.out.1))
        have HCB6 := Lib.hid (HF6.out.cell HCB4.out.2 (show ¬ (w.heap.size + 1 = p8) from HW8.out.2.1))
        have HBR6 := Lib.hid (HF6.out.blk HBR4.out (show ¬ (w.heap.size + 1 + 1 = p8) by have := HW8.out.2.2; omega))
        have HFW6 := Lib.hid (HFW4.out.then HF6.out (fun i hi e => by have := HW8.out.2.2; omega))
        have HEQ := Lib.hid (HPE.out t below HT.out)
        have htl : t < 340282366920938463463374607431768211456 := by have := HT.out.2.1; have := HXY.out; omega
        have HLEFT := Lib.hid (fun U => cleft t g hg0 htl (by omega) U)
        have hgl := Nat.mod_lt t hg0
        have HGH := Lib.hid (fun U => rgcd_calls g (t % g) (by omega) (by omega) U)
        have hh0 : 0 < Nat.gcd g (t % g) := Nat.gcd_pos_of_pos_left _ hg0
        have hhg : Nat.gcd g (t % g) ≤ g := Nat.gcd_le_left _ hg0
        generalize Nat.gcd g (t % g) = h at *
        generalize t % g = tg at *
        obtain ⟨q, hq⟩ : ∃ q, q = D / h := ⟨_, rfl⟩
        rw [← hq] at HEQ
        have hqD : q ≤ D := hq ▸ Nat.div_le_self D h
        have u1 := quoN hq
        have u2 := wrapN q (by omega)
        have hhn : ¬ ((h : Int) = 0) := by omega
        have hhb : ((h : Int) == 0) = false := by simpa using hhn
        have HTBT := Lib.hid (fun U => ctimes r q (by omega) (by omega) U)
        generalize hbt : r * q = bt at *
        clear hgl hq HCA4 HCB4 HBR4 HFW4 HF6 HX4 HY4 HP1 HP2 HP3 HPE HPLUS HLESS HMYX HMXY HTA HTB HSA HSB
        obtain ⟨t0, t1, _, _⟩ := two_facts H8t.out
        by_cases hlt : hiw t < h
        · have HBY := Lib.hid (fun U => cby_yes t h hlt (by omega) U)
          have HEQ2 : Hid (rR (rq an ad + rq bn bd) = if hiw bt = 0 ∨ t = 0 then if t = 0 then .ok (0, 1) else toldR (t / h) below (low bt) else .error 110) := by
            have := HEQ.out
            rw [codeAdd, if_pos (show t / 18446744073709551616 < h from hlt)] at this
            exact this
          clear HEQ htl
          generalize t % h = th2 at *
          generalize t / h = top at *
          go_upto_region 10 with (first
            | (go_at_call 71; refine (HLEFT.out _).mono ?_; rintro _ wl ⟨rfl, hfl⟩)
            | (go_at_call 42; refine (HGH.out _).mono ?_; rintro _ wg ⟨rfl, hfg⟩; have tt0 := (hfl.trans hfg).cell t0 (fun h => h); have tt1 := (hfl.trans hfg).cell t1 (fun h => h))
            | (go_at_call 72; refine (HBY.out _).mono ?_; rintro _ w7 ⟨rfl, hf7⟩)
            | fail)
          have hf67 := (hfl.trans hfg).trans hf7
          have HCA7 := Lib.hid (hf67.cell HCA6.out (fun h => h))
          have HCB7 := Lib.hid (hf67.cell HCB6.out (fun h => h))
          have HBR7 := Lib.hid (hf67.blk HBR6.out (fun h => h))
          have HFW7 := Lib.hid (HFW6.out.trans hf67)
          have H8t7 := Lib.hid (hf67.blk H8t.out (fun h => h))
          clear hf67 hfl hfg hf7 tt0 tt1 t0 t1 HCA6 HCB6 HBR6 HFW6 H8t
          go_cut [13] from 77 to 87 (fun s13 wx => ∃ p13 : Nat, s13 = .pointer (some ⟨p13, 0, none⟩) ∧ w7.heap.size ≤ p13 ∧ Hid (wx.heap[p13]? = some (.cells (wdC bt) 77 (0, 0))) ∧ Hid (Fr0 w7 wx))
          case first =>
            refine wp_region_noPanic ?_
            refine takesG_ex 11 (fun U => Fr0 w7 U) (fun _ _ h k => h.trans k) (Fr.refl _ _) hmx (fun _ _ _ _ _ h => h) (by kernel_rfl) (by kernel_rfl) ?_
            apply Exists.intro
            refine ⟨fun W' hW' => ?_, ?_⟩
            · have r0 := cg_cell (W := W') (hW'.cell HCA7.out (fun h => h))
              have r1 := cg_cell (W := W') (hW'.cell HCB7.out (fun h => h))
              simp only [List.take_succ_cons, List.take_zero]
              repeat (first
                | go_big_quiet_step (fail)
                | go_big_quiet_step ((go_at_call 67; with_reducible exact quiet_cg (HTBT.out _))))
              exact wpQuiet_nil rfl
            · have hF0 := Fr.refl (fun _ => False) w7
              change wpAnyG _ _ _ _ _ 2 _ _ _
              refine wpAnyG_ready (f := 1) (rs := [11]) (by kernel_rfl) (by simp) ?_
              refine AllG.cons rfl (fun U3 hU3 K hK => ?_) (AllG.nil)
              · have hF3 := hF0.trans hU3
                go_simp
                generalize hp13 : U3.heap.size = p13
                have hsz13 : w7.heap.size ≤ p13 := hp13 ▸ hF3.size
                have hb13_n3 := heap_an (w := U3) (k := p13) (.cells #[u64v 0, u64v 0] 77) hp13
                have hFn3 := hF3.alloc (.cells #[u64v 0, u64v 0] 77)
                refine hK.out _ _ ⟨_, hFn3, Fr.refl _ _, ?_⟩
                clear hK K
                try simp only [Act.put, List.setIfInBounds_toArray, List.set_cons_zero, List.set_cons_succ]
                refine wpAnyG_ready (f := 0) (rs := [12]) (by kernel_rfl) (by simp) ?_
                refine AllG.cons rfl (fun U4 hU4 K hK => ?_) (AllG.nil)
                · have hF4 := hFn3.trans hU4
                  have hb13_4 := hU4.blk hb13_n3 (fun h => h)
                  obtain ⟨c0, c1, f0, f1⟩ := two_facts hb13_4
                  go_simp
                  have hb13_n4 := two_set hb13_4 (u64v (hiw bt)) (u64v (low bt))
                  have hFn4 := two_fr (b := p13) hF4 (by omega) (u64v (hiw bt)) (u64v (low bt))
                  clear c0 c1 f0 f1
                  refine hK.out _ _ ⟨_, hFn4, Fr.refl _ _, ?_⟩
                  clear hK K
                  try simp only [Act.put, List.setIfInBounds_toArray, List.set_cons_zero, List.set_cons_succ]
                  refine wpAnyG_done (by kernel_rfl) (fun U5 hU5 => ?_)
                  have hx := hU5.blk hb13_n4 (fun h => h)
                  have hF := hFn4.trans hU5
                  refine NoPanic.normal ?_
                  go_wp2_with fail
                  go_meet
                  exact ⟨p13, rfl, hsz13, hx, hF⟩
          case rest =>
            obtain ⟨p13, rfl, hs13, H13, HF8⟩ := hcut
            obtain ⟨w8, hw8⟩ : ∃ w8, w8 = wc := ⟨_, rfl⟩
            subst hw8
            obtain ⟨v0, v1, _, _⟩ := two_facts (HF8.out.blk H8t7.out (fun h => h))
            obtain ⟨k0, k1, _, _⟩ := two_facts H13.out
            have HF8W := Lib.hid (HFW7.out.trans HF8.out)
            have HBR8 := Lib.hid (HF8.out.blk HBR7.out (fun h => h))
            clear HCA7 HCB7 HBR7 HFW7 HF8 H8t7
            have heq : ∀ U, (Op.equalIn 10000 77 (.agg #[u64v (hiw t), u64v (low t)]) (.agg #[.int .u64 0, .int .u64 0])).run Try.prog U = .ok (decide (t = 0)) U := fun U => by
              rw [eq_wide]
              congr 1
              rw [Bool.eq_iff_iff]
              have := wd_zero t
              simp only [Bool.and_eq_true, beq_iff_eq, decide_eq_true_eq]
              omega
            by_cases z0 : hiw bt = 0
            · have z1 : decide (hiw bt = 0) = true := decide_eq_true z0
              have z2 : (hiw bt == 0) = true := by simpa using z0
              have z3 : (((hiw bt : Nat) : Int) == 0) = true := by simp; omega
              have HM := Lib.hid (fun U => rmust_yes 110 U)
              rw [if_pos (.inl z0)] at HEQ2
              by_cases zt : t = 0
              · rw [if_pos zt] at HEQ2
                rw [decide_eq_true zt] at heq
                clear zt z0
                obtain ⟨e0, e1, f0, f1⟩ := two_facts HBR8.out
                go_wp2_with (first | (go_at_call 36; (with_reducible refine (HM.out _).mono ?_); rintro _ _ ⟨rfl, rfl⟩) | fail)
                exact bodyPost_ret (results_cell_row rfl _ _ (w.heap.size + 1 + 1) _ _ _ _ rfl (two_set HBR8.out (.int .i64 0) (.int .i64 1)) Try.underlying23 rfl (by kernel_rfl)) rfl ⟨by rw [HEQ2.out]; rfl, two_fr HF8W.out (by omega) _ _⟩
              · rw [if_neg zt] at HEQ2
                rw [decide_eq_false zt] at heq
                clear zt z0
                have HTO := Lib.hid (fun U => rtold_calls top below (low bt) U)
                rw [toldE_eq] at HTO
                generalize toldR top below (low bt) = tr at *
                cases tr with
                | ok pr =>
                  obtain ⟨pn, pd⟩ := pr
                  change Hid (∀ U, Calls Try.prog _ _ U fun e w' => e = .returned (rtv pn pd) ∧ Fr0 U w') at HTO
                  go_wp2_with (first | (go_at_call 36; (with_reducible refine (HM.out _).mono ?_); rintro _ _ ⟨rfl, rfl⟩) | (go_at_call 63; refine (HTO.out _).mono ?_; rintro _ w9 ⟨rfl, hf9⟩; obtain ⟨e0, e1, f0, f1⟩ := two_facts (hf9.blk HBR8.out (fun h => h))) | fail)
                  exact bodyPost_ret (results_cell_row rfl _ _ (w.heap.size + 1 + 1) _ _ _ _ rfl (two_set (hf9.blk HBR8.out (fun h => h)) (.int .i64 pn) (.int .i64 pd)) Try.underlying23 rfl (by kernel_rfl)) rfl ⟨by rw [HEQ2.out]; rfl, two_fr (HF8W.out.trans hf9) (by omega) _ _⟩
                | error k =>
                  change Hid (∀ U, Calls Try.prog _ _ U fun e w' => e = .panicked [stopE k] ∧ Fr0 U w') at HTO
                  go_wp2_with (first | (go_at_call 36; (with_reducible refine (HM.out _).mono ?_); rintro _ _ ⟨rfl, rfl⟩) | (go_at_call 63; refine (HTO.out _).mono ?_; rintro _ w9 ⟨rfl, hf9⟩) | fail)
                  exact ⟨rfl, by rw [HEQ2.out]; rfl, HF8W.out.trans hf9⟩
            · have z1 : decide (hiw bt = 0) = false := decide_eq_false z0
              have z2 : (hiw bt == 0) = false := by simpa using z0
              have z3 : (((hiw bt : Nat) : Int) == 0) = false := by simp; omega
              by_cases zt : t = 0
              · have HM := Lib.hid (fun U => rmust_yes 110 U)
                rw [if_pos (.inr zt), if_pos zt] at HEQ2
                rw [decide_eq_true zt] at heq
                clear zt z0
                obtain ⟨e0, e1, f0, f1⟩ := two_facts HBR8.out
                go_wp2_with (first | (go_at_call 36; (with_reducible refine (HM.out _).mono ?_); rintro _ _ ⟨rfl, rfl⟩) | fail)
                exact bodyPost_ret (results_cell_row rfl _ _ (w.heap.size + 1 + 1) _ _ _ _ rfl (two_set HBR8.out (.int .i64 0) (.int .i64 1)) Try.underlying23 rfl (by kernel_rfl)) rfl ⟨by rw [HEQ2.out]; rfl, two_fr HF8W.out (by omega) _ _⟩
              · have HM := Lib.hid (fun U => rmust_no 110 U)
                rw [if_neg (by rintro (h | h); exact z0 h; exact zt h)] at HEQ2
                rw [decide_eq_false zt] at heq
                clear zt z0
                go_wp2_with (first | (go_at_call 36; (with_reducible refine (HM.out _).mono ?_); rintro _ _ ⟨rfl, rfl⟩) | fail)
                exact ⟨rfl, by rw [HEQ2.out]; rfl, HF8W.out⟩
        · have HBY := Lib.hid (fun U => cby_no t h hlt U)
          have HEQ2 : Hid (rR (rq an ad + rq bn bd) = .error 110) := by
            have := HEQ.out
            rw [codeAdd, if_neg (show ¬ t / 18446744073709551616 < h from hlt)] at this
            exact this
          clear HEQ htl
          go_wp2_with (first
            | (go_at_call 71; refine (HLEFT.out _).mono ?_; rintro _ wl ⟨rfl, hfl⟩)
            | (go_at_call 42; refine (HGH.out _).mono ?_; rintro _ wg ⟨rfl, hfg⟩; have tt0 := (hfl.trans hfg).cell t0 (fun h => h); have tt1 := (hfl.trans hfg).cell t1 (fun h => h))
            | (go_at_call 72; refine (HBY.out _).mono ?_; rintro _ w7 ⟨rfl, hf7⟩)
            | fail)
          exact ⟨rfl, by rw [HEQ2.out]; rfl, HFW6.out.trans ((hfl.trans hfg).trans hf7)⟩
end Go.Proofs.Ytdakeenjeieekaa
