/- Chapter 05: worked. -/
import Derived.Test.YtjldogfpccbkeaaBd1
import Derived.Test.YtjldogfpccbkeaaM4
import Derived.Test.YtjldogfpccbkeaaM7
set_option linter.unusedVariables false
set_option linter.unusedSimpArgs false
namespace Go.Proofs.Ytjldogfpccbkeaa
open Go.RowKit
attribute [local go_sem] Oper.semAt_some

theorem rq_self (x : Rat) : rq x.num (x.den : Int) = x := by
  unfold rq
  rw [Int.natAbs_natCast]
  exact Rat.mkRat_self x
theorem makeR_rq {n d : Int} (hd : 1 ≤ d) : makeR n d = rR (rq n d) := by
  unfold makeR
  rw [if_neg (by omega), if_neg (by omega)]
  rfl
theorem rR_self {x : Rat} (h : rR x = .ok (x.num, (x.den : Int))) : RtOk x.num (x.den : Int) ∧ I64r x.num ∧ I64r (x.den : Int) := rR_good h
/-- The sum of two whose sum fits. -/
theorem two_sum {x y z : Rat} (hx : rR x = .ok (x.num, (x.den : Int))) (hy : rR y = .ok (y.num, (y.den : Int))) (hz : x + y = z) (h : rR z = .ok (z.num, (z.den : Int))) :
    twoR (x.num, (x.den : Int)) (y.num, (y.den : Int)) (rR (rq x.num (x.den : Int) + rq y.num (y.den : Int))) = .ok (z.num, (z.den : Int)) := by
  rw [twoR_ok (rR_self hx).1 (rR_self hy).1, rq_self, rq_self, hz, h]
theorem sum0 {n r d : Int} (hr : 1 ≤ r) : rq n r + rq d 1 = rq (n + d * r) r := by
  unfold rq
  rw [Rat.mkRat_add_mkRat _ _ (by omega) (by omega)]
  have e : (r.natAbs : Int) = r := by omega
  rw [e]
  simp
set_option maxHeartbeats 4000000 in
set_option maxRecDepth 20000 in
theorem bworked_calls (s : Sp) (r c d : Int) (h : MayP s r c d) (w : World) :
    Calls Try.prog 32 #[spv s, .int .i64 r, rtv c d] w fun e w' => e = .returned (rtv (bq s.peak s.rate s.burst s.most r c d).num ((bq s.peak s.rate s.burst s.most r c d).den : Int)) ∧ Fr0 w w' := by
  have hmx : Try.prog.follows .mixedOrders = true := by kernel_rfl
  have hok := h.ok
  obtain ⟨p, q, b, m, l⟩ := s
  simp only at hok ⊢
  have hbq := bq_rR hok
  have hsum := bq_sum hok
  have hnum := bNum_range hok
  have hden := bDen_pos hok
  obtain ⟨h1, h2, h3, h4, h5, h6, h7, h8, h9, h10, h11, h12, h13⟩ := hok
  clear h
  have e0 := sum0 (n := m + c) (d := d) (r := r) (by omega)
  have k0 := mul_range (a := d) (b := r) (x := 1000000) (y := 1000000) (by omega) (by omega) (by omega) (by omega)
  have f1 := rR_fits (n := m + c) (d := r) (by omega) (by omega) (by omega) (by omega)
  have f2 := rR_fits (n := d) (d := 1) (by omega) (by omega) (by omega) (by omega)
  have f3 := rR_fits (n := m + c + d * r) (d := r) (by omega) (by omega) (by omega) (by omega)
  have HM1 := Lib.hid (fun U => rMake_calls (m + c) r ⟨by omega, by omega⟩ ⟨by omega, by omega⟩ U)
  have HM2 := Lib.hid (fun U => rMake_calls d 1 ⟨by omega, by omega⟩ ⟨by omega, by omega⟩ U)
  rw [makeR_rq (by omega), f1] at HM1
  rw [makeR_rq (by omega), f2] at HM2
  have HA1 := Lib.hid (fun U => radd_calls ((rq (m + c) r).num, ((rq (m + c) r).den : Int)) ((rq d 1).num, ((rq d 1).den : Int)) (rR_self f1).2 (rR_self f2).2 U)
  simp only at HA1
  rw [two_sum f1 f2 e0 f3] at HA1
  have ha := blk_alloc (blk_alloc (heap_alloc_new w (.cells (spc ⟨p, q, b, m, l⟩) 23)) (.cells (rtc c d) 25)) (.cells (rtc 0 0) 27)
  have hb := blk_alloc (heap_an (w := w.alloc (.cells (spc ⟨p, q, b, m, l⟩) 23)) (k := w.heap.size + 1) (.cells (rtc c d) 25) (by simp)) (.cells (rtc 0 0) 27)
  have HR := Lib.hid (heap_an (w := (w.alloc (.cells (spc ⟨p, q, b, m, l⟩) 23)).alloc (.cells (rtc c d) 25)) (k := w.heap.size + 1 + 1) (.cells (rtc 0 0) 27) (by simp))
  have HA := Lib.hid ha
  have HB := Lib.hid hb
  have HFW := Lib.hid ((((Fr.refl (fun _ => False) w).alloc (.cells (spc ⟨p, q, b, m, l⟩) 23)).alloc (.cells (rtc c d) 25)).alloc (.cells (rtc 0 0) 27))
  have w1 : wrap64 (m + c) = m + c := w64_id (by omega) (by omega)
  have HBD : Hid (r < p → ∃ u : Rat, rR u = .ok (u.num, (u.den : Int)) ∧ makeR ((b - m) * (p - r)) (r * (p - q)) = .ok (u.num, (u.den : Int)) ∧
      twoR ((rq (m + c + d * r) r).num, ((rq (m + c + d * r) r).den : Int)) (u.num, (u.den : Int)) (rR (rq (rq (m + c + d * r) r).num ((rq (m + c + d * r) r).den : Int) + rq u.num (u.den : Int))) = .ok ((bq p q b m r c d).num, ((bq p q b m r c d).den : Int)) ∧
      I64r ((b - m) * (p - r)) ∧ I64r (r * (p - q)) ∧ wrap64 (b - m) = b - m ∧ wrap64 (p - r) = p - r ∧ wrap64 (p - q) = p - q ∧ wrap64 ((b - m) * (p - r)) = (b - m) * (p - r) ∧ wrap64 (r * (p - q)) = r * (p - q)) := by
    intro hp
    rw [if_pos hp, e0] at hsum
    have k1 := mul_range (a := b - m) (b := p - r) (x := 10000000) (y := 1000000) (by omega) (by omega) (by omega) (by omega)
    have k2 := mul_range (a := r) (b := p - q) (x := 1000000) (y := 1000000) (by omega) (by omega) (by omega) (by omega)
    have k3 := Int.mul_le_mul (show (1 : Int) ≤ r by omega) (show (1 : Int) ≤ p - q by omega) (by omega) (by omega)
    have f4 := rR_fits (n := (b - m) * (p - r)) (d := r * (p - q)) (by omega) (by omega) (by omega) (by omega)
    exact ⟨rq ((b - m) * (p - r)) (r * (p - q)), f4, by rw [makeR_rq (by omega), f4], two_sum f3 f4 hsum.symm hbq, ⟨by omega, by omega⟩, ⟨by omega, by omega⟩, w64_id (by omega) (by omega), w64_id (by omega) (by omega), w64_id (by omega) (by omega), w64_id (by omega) (by omega), w64_id (by omega) (by omega)⟩
  have HBE : Hid (¬ r < p → (bq p q b m r c d) = rq (m + c + d * r) r) := by
    intro hp
    rw [if_neg hp, e0] at hsum
    exact hsum
  clear hbq hsum hnum hden e0
  have HF3 := Lib.hid (rR_self f3).2
  clear f3 f1 f2 ha hb h1 h2 h3 h4 h5 h6 h7 h8 h9 h10 h11 h12 h13 k0
  unfold tupR at HM1 HM2 HA1
  change Hid (∀ U, Calls Try.prog _ _ U fun e w' => e = .returned (.tuple #[rtv (rq (m + c) r).num ((rq (m + c) r).den : Int), .int .i64 0]) ∧ Fr0 U w') at HM1
  change Hid (∀ U, Calls Try.prog _ _ U fun e w' => e = .returned (.tuple #[rtv (rq d 1).num ((rq d 1).den : Int), .int .i64 0]) ∧ Fr0 U w') at HM2
  change Hid (∀ U, Calls Try.prog _ _ U fun e w' => e = .returned (.tuple #[rtv (rq (m + c + d * r) r).num ((rq (m + c + d * r) r).den : Int), .int .i64 0]) ∧ Fr0 U w') at HA1
  generalize (rq (m + c) r).num = x1 at *
  generalize ((rq (m + c) r).den : Int) = y1 at *
  generalize (rq d 1).num = x2 at *
  generalize ((rq d 1).den : Int) = y2 at *
  have HMU := Lib.hid (fun x y U => bmust_calls x y U)
  go_enter Try.func32, Try.ntmps32
  go_upto_region 1 with fail
  generalize ((w.alloc (.cells (spc ⟨p, q, b, m, l⟩) 23)).alloc (.cells (rtc c d) 25)).alloc (.cells (rtc 0 0) 27) = W at *
  go_cut [7] from 8 to 27 (fun s7 wx => ∃ o, s7 = .pointer (some ⟨o, 0, none⟩) ∧ Hid (wx.heap[o]? = some (.cells (rtc (rq (m + c + d * r) r).num ((rq (m + c + d * r) r).den : Int)) 27 (0, 0))) ∧ Hid (W.heap.size ≤ o) ∧ Hid (Fr0 W wx))
  case first =>
    refine wp_region_noPanic ?_
    refine takesL_ex [0, 1, 2, 3, 4, 5, 6, 7, 8, 9, 10, 11, 12, 13, 14, 15, 16, 17, 18, 19] (fun U => Fr0 W U) (fun _ _ h k => h.trans k) (Fr.refl _ _) hmx (fun _ _ _ _ _ h => h) (by kernel_rfl) (by kernel_rfl) ?_
    apply Exists.intro
    refine ⟨fun W' hW' => ?_, ?_⟩
    · obtain ⟨z0, z1, z2, z3, z4⟩ := sp_cells (hW'.blk HA.out (fun h => h))
      obtain ⟨t0, t1, _, _⟩ := two_facts (hW'.blk HB.out (fun h => h))
      have r3 := cg_cell (W := W') z3
      have r5 := cg_cell (W := W') t0
      have r6 := cg_cell (W := W') t1
      clear z0 z1 z2 z3 z4 t0 t1
      simp only [pickL, List.getElem?_cons_zero, List.getElem?_cons_succ]
      repeat (first
        | go_big_quiet_step (fail)
        | go_big_quiet_step (first
          | ((go_at_call 57; with_reducible exact quiet_cg (HM1.out _)))
          | ((go_at_call 57; with_reducible exact quiet_cg (HM2.out _)))
          | ((go_at_call 56; with_reducible exact quiet_cg (HA1.out _)))
          | ((go_at_call 55; with_reducible exact quiet_cg (HMU.out _ _ _)))))
      exact wpQuiet_nil rfl
    · generalize (rq (m + c + d * r) r).num = x3 at *
      generalize ((rq (m + c + d * r) r).den : Int) = y3 at *
      refine wpAnyG_ready (f := 1) (rs := [20]) (by kernel_rfl) (by simp) ?_
      refine allG_make (some 7) (.cells (rtc 0 0) 27) rfl rfl (by kernel_rfl) (fun U => run_alloc rfl U) (fun U hU => ⟨hU.alloc _, ?_⟩) AllG.nil
      refine wpAnyG_ready (f := 0) (rs := [21]) (by kernel_rfl) (by simp) ?_
      have hsz := hU.size
      have hB0 := heap_alloc_new U (.cells (rtc 0 0) 27)
      have hF0 := hU.alloc (.cells (rtc 0 0) 27)
      refine allG_turn (ratAt U.heap.size x3 y3) rfl (by kernel_rfl) rfl (fun V hV => run_store (v1 := .pointer (some ⟨U.heap.size, 0, none⟩)) (v2 := rtv x3 y3) rfl (by kernel_rfl) rfl (by kernel_rfl) rfl (hV.blk hB0 (fun h => h))) (fun V hV => ⟨two_fr (hF0.trans hV) (by omega) _ _, ?_⟩) AllG.nil
      have hB1 := two_set (hV.blk hB0 (fun h => h)) (.int .i64 x3) (.int .i64 y3)
      have hF1 := two_fr (b := U.heap.size) (hF0.trans hV) (by omega) (.int .i64 x3) (.int .i64 y3)
      refine wpAnyG_done (by kernel_rfl) (fun V3 hV3 => ?_)
      refine NoPanic.normal ?_
      have HBV := Lib.hid (hV3.blk hB1 (fun h => h))
      have HFV := Lib.hid (hF1.trans hV3)
      have HSZ := Lib.hid hsz
      clear hsz hB0 hF0 hV hB1 hF1 hV3 hU
      simp only [Act.put, List.setIfInBounds_toArray, List.set_cons_zero, List.set_cons_succ]
      generalize U.heap.size = p7 at *
      go_wp2_with fail
      go_meet
      exact ⟨p7, rfl, HBV, HSZ, HFV⟩
  case rest =>
    obtain ⟨o, rfl, HO, HSZ, HF7⟩ := hcut
    obtain ⟨w3, hw3⟩ : ∃ v, v = wc := ⟨_, rfl⟩
    subst hw3
    have HA3 := Lib.hid (HF7.out.blk HA.out (fun h => h))
    have HR3 := Lib.hid (HF7.out.blk HR.out (fun h => h))
    have HW3 := Lib.hid (HFW.out.trans HF7.out)
    have HSW : Hid (w.heap.size + 1 + 1 < o) := by have := lt_of_block HR.out; have := HSZ.out; show _ < _; omega
    obtain ⟨z0, z1, z2, z3, z4⟩ := sp_cells HA3.out
    clear HA HB HF7 HFW HM1 HM2 HA1 HSZ HR
    by_cases hp : r < p
    · obtain ⟨u, hu, hmk, hadd, i1, i2, w2, w3', w4, w5, w6⟩ := HBD.out hp
      have hpd : decide (r < p) = true := decide_eq_true hp
      have HM3 := Lib.hid (fun U => rMake_calls ((b - m) * (p - r)) (r * (p - q)) i1 i2 U)
      rw [hmk] at HM3
      have HA2 := Lib.hid (fun U => radd_calls ((rq (m + c + d * r) r).num, ((rq (m + c + d * r) r).den : Int)) (u.num, (u.den : Int)) HF3.out (rR_self hu).2 U)
      simp only at HA2
      rw [hadd] at HA2
      unfold tupR at HM3 HA2
      change Hid (∀ U, Calls Try.prog _ _ U fun e w' => e = .returned (.tuple #[rtv u.num (u.den : Int), .int .i64 0]) ∧ Fr0 U w') at HM3
      change Hid (∀ U, Calls Try.prog _ _ U fun e w' => e = .returned (.tuple #[rtv (bq p q b m r c d).num ((bq p q b m r c d).den : Int), .int .i64 0]) ∧ Fr0 U w') at HA2
      clear hu hmk hadd hp HBD HBE HF3 i1 i2 w1
      generalize u.num = x4 at *
      generalize (u.den : Int) = y4 at *
      generalize (rq (m + c + d * r) r).num = x3 at *
      generalize ((rq (m + c + d * r) r).den : Int) = y3 at *
      obtain ⟨bn, hbn⟩ : ∃ x, x = (bq p q b m r c d).num := ⟨_, rfl⟩
      obtain ⟨bk, hbk⟩ : ∃ x, x = ((bq p q b m r c d).den : Int) := ⟨_, rfl⟩
      rw [← hbn, ← hbk] at HA2
      have HBN := Lib.hid (And.intro hbn hbk)
      clear hbn hbk
      go_upto_region 3 with fail
      obtain ⟨o0, o1, _, _⟩ := two_facts HO.out
      have r0 := cg_cell (W := w3) z0
      have r1 := cg_cell (W := w3) z1
      have r2 := cg_cell (W := w3) z2
      have r3 := cg_cell (W := w3) z3
      have r4 := cg_cell (W := w3) o0
      have r5 := cg_cell (W := w3) o1
      clear z0 z1 z2 z3 z4 o0 o1
      refine wp_region_class (fun U => ∃ x : Wx w3, U = x.u) 26 hmx (by kernel_rfl) ⟨⟨w3.drew, (Fr.refl _ w3).drew⟩, rfl⟩ ?_
      simp only [List.take_succ_cons, List.take_zero, List.drop_succ_cons, List.drop_zero]
      repeat (first
        | go_big_quiet_step (fail)
        | go_big_quiet_step (first
          | ((go_at_call 57; with_reducible exact quiet_cg (HM3.out _)))
          | ((go_at_call 56; with_reducible exact quiet_cg (HA2.out _)))
          | ((go_at_call 55; with_reducible exact quiet_cg (HMU.out _ _ _)))))
      refine wpQuiet_nil ?_
      rintro U ⟨y, rfl⟩
      have hF := y.fr
      generalize y.u = U at *
      have hbo := hF.blk HO.out (fun h => h)
      have hbr := hF.blk HR3.out (fun h => h)
      have HW4 := Lib.hid (HW3.out.trans hF)
      obtain ⟨_, _, f0, f1⟩ := two_facts hbo
      have hbo2 := two_set hbo (.int .i64 bn) (.int .i64 bk)
      obtain ⟨j0, j1, _, _⟩ := two_facts hbo2
      have hbr2 := blk_setCell_other (blk_setCell_other hbr (p := ⟨o, 0, none⟩) (by have := HSW.out; simp <;> omega) (.int .i64 bn)) (p := ⟨o, 1, none⟩) (by have := HSW.out; simp <;> omega) (.int .i64 bk)
      obtain ⟨_, _, g0, g1⟩ := two_facts hbr2
      have HX := Lib.hid (two_fr (b := o) HW4.out (by have := HSW.out; omega) (.int .i64 bn) (.int .i64 bk))
      go_wp2_with fail
      exact bodyPost_ret (results_cell_row rfl _ _ (w.heap.size + 1 + 1) _ _ _ _ rfl (two_set hbr2 _ _) Try.underlying27 rfl (by kernel_rfl)) rfl ⟨by rw [HBN.out.1, HBN.out.2], two_fr HX.out (by omega) _ _⟩
    · have hpd : decide (r < p) = false := decide_eq_false hp
      have he := Lib.hid (HBE.out hp)
      clear hp HBD HBE
      obtain ⟨x3, hx3⟩ : ∃ x, x = (rq (m + c + d * r) r).num := ⟨_, rfl⟩
      obtain ⟨y3, hy3⟩ : ∃ x, x = ((rq (m + c + d * r) r).den : Int) := ⟨_, rfl⟩
      rw [← hx3, ← hy3] at HO
      have HXY := Lib.hid (And.intro hx3 hy3)
      clear hx3 hy3 HF3
      obtain ⟨o0, o1, _, _⟩ := two_facts HO.out
      obtain ⟨_, _, g0, g1⟩ := two_facts HR3.out
      go_wp2_with fail
      exact bodyPost_ret (results_cell_row rfl _ _ (w.heap.size + 1 + 1) _ _ _ _ rfl (two_set HR3.out _ _) Try.underlying27 rfl (by kernel_rfl)) rfl ⟨by rw [he.out, HXY.out.1, HXY.out.2], two_fr HW3.out (by omega) _ _⟩
end Go.Proofs.Ytjldogfpccbkeaa
