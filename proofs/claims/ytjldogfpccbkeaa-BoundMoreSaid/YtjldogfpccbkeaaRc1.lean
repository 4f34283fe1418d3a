/- Chapter 01, the document: Plus (written by genRc1.py). -/
import Derived.Test.YtjldogfpccbkeaaM7
import Derived.Test.YtjldogfpccbkeaaM7
set_option linter.unusedVariables false
set_option linter.unusedSimpArgs false
namespace Go.Proofs.Ytjldogfpccbkeaa
open Go.RowKit
attribute [local go_sem] Oper.semAt_some

theorem bd_mul {a b : Nat} (h1 : a < 18446744073709551616) (h2 : b < 18446744073709551616) : (bd (a * b)).length ≤ 8 := by
  refine (bd_len_le _ 8).2 ?_
  have h : a * b ≤ 18446744073709551615 * 18446744073709551615 := Nat.mul_le_mul (by omega) (by omega)
  have e : (65536 : Nat) ^ 8 = 340282366920938463463374607431768211456 := rfl
  omega
theorem bd_add8 {a b : Nat} (h1 : (bd a).length ≤ 8) (h2 : (bd b).length ≤ 8) : (bd (a + b)).length ≤ 9 := by
  have h3 := (bd_len_le a 8).1 h1
  have h4 := (bd_len_le b 8).1 h2
  refine (bd_len_le _ 9).2 ?_
  have e : (65536 : Nat) ^ 9 = 65536 ^ 8 * 65536 := Nat.pow_succ ..
  rw [e]
  omega
set_option maxHeartbeats 2000000 in
set_option maxRecDepth 20000 in
theorem plus_calls (an ad bn be : Int) (ha : RtOk an ad) (hb : RtOk bn be) (ia : I64r an ∧ I64r ad) (ib : I64r bn ∧ I64r be) (w : World) :
    Calls Try.prog 43 #[rtv an ad, rtv bn be] w fun e w' => e = .returned (tupR (rR (rq an ad + rq bn be))) ∧ Fr0 w w' := by
  have hmx : Try.prog.follows .mixedOrders = true := by kernel_rfl
  obtain ⟨a1, a2, a3⟩ := ha
  obtain ⟨b1, b2, b3⟩ := hb
  obtain ⟨ia1, ia2⟩ := ia
  obtain ⟨ib1, ib2⟩ := ib
  have HSA := Lib.hid (fun U => size_calls an ia1 U)
  have HSB := Lib.hid (fun U => size_calls bn ib1 U)
  have HSB2 := Lib.hid (fun (U : World) {S : Nat → Nat ⊕ Value} {i : Nat} (hS : S i = .inr (u64v bn.natAbs)) => size_rel (m := bn.natAbs) rfl ib1 U hS)
  have wc : IntKind.u64.wrap ad = ((ad.natAbs : Nat) : Int) := u64_abs (by omega) ia2.2
  have wd : IntKind.u64.wrap be = ((be.natAbs : Nat) : Int) := u64_abs (by omega) ib2.2
  obtain ⟨A, hAe⟩ : ∃ A, A = an.natAbs := ⟨_, rfl⟩
  obtain ⟨B, hBe⟩ : ∃ B, B = bn.natAbs := ⟨_, rfl⟩
  obtain ⟨C, hCe⟩ : ∃ C, C = ad.natAbs := ⟨_, rfl⟩
  obtain ⟨D, hDe⟩ : ∃ D, D = be.natAbs := ⟨_, rfl⟩
  rw [← hAe] at HSA; rw [← hBe] at HSB HSB2; rw [← hCe] at wc; rw [← hDe] at wd
  have hA : A < 18446744073709551616 := by have := ia1.1; have := ia1.2; omega
  have hB : B < 18446744073709551616 := by have := ib1.1; have := ib1.2; omega
  have hC : C < 18446744073709551616 := by have := ia2.1; have := ia2.2; omega
  have hD : D < 18446744073709551616 := by have := ib2.1; have := ib2.2; omega
  have HL := Lib.hid (And.intro hA (And.intro hB (And.intro hC (And.intro hD trivial))))
  have HL2 := Lib.hid (show (bd A).length ≤ 400 ∧ (bd B).length ≤ 400 ∧ (bd C).length ≤ 400 ∧ (bd D).length ≤ 400 from by
    have := bd_small hA; have := bd_small hB; have := bd_small hC; have := bd_small hD
    omega)
  have HL3 := Lib.hid (show (bd (A * D)).length ≤ 8 ∧ (bd (B * C)).length ≤ 8 ∧ (bd (C * D)).length ≤ 8 ∧ (bd (A * D + B * C)).length ≤ 9 from ⟨bd_mul hA hD, bd_mul hB hC, bd_mul hC hD, bd_add8 (bd_mul hA hD) (bd_mul hB hC)⟩)
  have hbA := blk_alloc (blk_alloc (heap_alloc_new w (.cells (rtc an ad) 27)) (.cells (rtc bn be) 27)) (.cells (rtc 0 0) 27)
  have hbB := blk_alloc (heap_an (w := w.alloc (.cells (rtc an ad) 27)) (k := w.heap.size + 1) (.cells (rtc bn be) 27) (by simp)) (.cells (rtc 0 0) 27)
  have HBR := Lib.hid (heap_an (w := (w.alloc (.cells (rtc an ad) 27)).alloc (.cells (rtc bn be) 27)) (k := w.heap.size + 1 + 1) (.cells (rtc 0 0) 27) (by simp))
  have HFW := Lib.hid ((((Fr.refl (fun _ => False) w).alloc (.cells (rtc an ad) 27)).alloc (.cells (rtc bn be) 27)).alloc (.cells (rtc 0 0) 27))
  obtain ⟨p0, p1, _, _⟩ := two_facts hbA
  obtain ⟨q0, q1, _, _⟩ := two_facts hbB
  have HC2 := Lib.hid (And.intro (And.intro p0 p1) (And.intro q0 q1))
  clear hbA hbB p0 p1 q0 q1
  have HSUM := Lib.hid (And.intro (fun s => sum_same hAe hBe hCe hDe a1 b1 s) (And.intro (fun s h => sum_less hAe hBe hCe hDe a1 b1 s h) (fun s h => sum_more hAe hBe hCe hDe a1 b1 s h)))
  generalize rR (rq an ad + rq bn be) = r at *
  clear hAe hBe hCe hDe a1 a2 a3 b1 b2 b3 ia1 ia2 ib1 ib2 hA hB hC hD
  have HFR0 := Lib.hid (fun (t : Nat) (below : Bool) (ht : (bd t).length ≤ 400) (he : fracE t below (C * D) = r) (U : World) (va vd : Value) (h1 : IsB U va t) (h2 : IsB U vd (C * D)) => he ▸ frac_calls t (C * D) below va vd U h1 h2 ht (by have := HL3.out.2.2.1; omega))
  unfold tupR at HFR0 ⊢
  generalize rN r = a at *
  generalize rD r = b at *
  generalize rE r = k at *
  go_enter Try.func43, Try.ntmps43
  go_upto_region 1 with fail
  generalize ((w.alloc (.cells (rtc an ad) 27)).alloc (.cells (rtc bn be) 27)).alloc (.cells (rtc 0 0) 27) = w2 at *
  go_cut [6, 7] from 10 to 27 (fun s6 s7 wx => Hid (IsB wx s6 (A * D)) ∧ Hid (IsB wx s7 (B * C)) ∧ Hid (Fr0 w2 wx))
  case first =>
    refine wp_region_noPanic ?_
    refine takesL_ex [0, 1, 2, 4, 5, 6, 9, 10, 13, 14, 15] (fun U => Fr0 w2 U) (fun _ _ h k => h.trans k) (Fr.refl _ _) hmx (fun _ _ _ _ _ h => h) (by kernel_rfl) (by kernel_rfl) ?_
    apply Exists.intro
    refine ⟨fun W' hW' => ?_, ?_⟩
    · have r0 := cg_cell (W := W') (hW'.cell (HC2.out.1.1) (fun h => h))
      have r1 := cg_cell (W := W') (hW'.cell (HC2.out.1.2) (fun h => h))
      have r2 := cg_cell (W := W') (hW'.cell (HC2.out.2.1) (fun h => h))
      have r3 := cg_cell (W := W') (hW'.cell (HC2.out.2.2) (fun h => h))
      simp only [pickL, List.getElem?_cons_zero, List.getElem?_cons_succ]
      repeat (first
        | go_big_quiet_step (fail)
        | go_big_quiet_step (first
          | ((go_at_call 48; with_reducible exact quiet_cg (HSA.out _)))))
      exact wpQuiet_nil rfl
    · refine wpAnyG_rel (ds := [(3, some 13), (7, some 17), (8, some 18), (11, some 21), (12, some 22), (16, some 26), (17, some 27), (18, some 6), (19, some 7)]) (RelP (relS [(3, .inl A), (7, .inl D), (8, .inl (A * D)), (11, .inr (u64v B)), (12, .inl B), (16, .inl C), (17, .inl (B * C)), (18, .inl (A * D)), (19, .inl (B * C))])) (g := 0) rfl (by kernel_rfl) (fun _ _ h k => h.trans k) (Fr.refl _ _) (fun _ _ _ _ h k => h.kept k) ?_ ?_
      · intro q hq x U hRU hFU hd
        simp only [List.mem_cons, List.not_mem_nil, or_false] at hq
        rcases hq with rfl | rfl | rfl | rfl | rfl | rfl | rfl | rfl | rfl
        · exact rel_call 47 #[u64v A] rfl rfl (by kernel_rfl) (by kernel_rfl) (of_rel HL.out.1 U rfl)
        · exact rel_call 47 #[u64v D] rfl rfl (by kernel_rfl) (by kernel_rfl) (of_rel HL.out.2.2.2.1 U rfl)
        · have h3 : IsB U (x 3) A := hd 3 (by kernel_rfl) (by kernel_rfl)
          have h7 : IsB U (x 7) D := hd 7 (by kernel_rfl) (by kernel_rfl)
          exact rel_call 46 #[x 3, x 7] rfl rfl (by kernel_rfl) (by kernel_rfl) (mul_rel rfl h3 h7 HL2.out.1 HL2.out.2.2.2)
        · exact rel_call 48 #[.int .i64 bn] rfl rfl (by kernel_rfl) (by kernel_rfl) (HSB2.out U rfl)
        · have h11 : x 11 = u64v B := hd 11 (by kernel_rfl) (by kernel_rfl)
          exact rel_call 47 #[x 11] rfl rfl (by kernel_rfl) (by kernel_rfl) (of_rel2 h11 HL.out.2.1 U rfl)
        · exact rel_call 47 #[u64v C] rfl rfl (by kernel_rfl) (by kernel_rfl) (of_rel HL.out.2.2.1 U rfl)
        · have h12 : IsB U (x 12) B := hd 12 (by kernel_rfl) (by kernel_rfl)
          have h16 : IsB U (x 16) C := hd 16 (by kernel_rfl) (by kernel_rfl)
          exact rel_call 46 #[x 12, x 16] rfl rfl (by kernel_rfl) (by kernel_rfl) (mul_rel rfl h12 h16 HL2.out.2.1 HL2.out.2.2.1)
        · have h8 : IsB U (x 8) (A * D) := hd 8 (by kernel_rfl) (by kernel_rfl)
          exact rel_value (x 8) rfl rfl (by kernel_rfl) (by kernel_rfl) (h8)
        · have h17 : IsB U (x 17) (B * C) := hd 17 (by kernel_rfl) (by kernel_rfl)
          exact rel_value (x 17) rfl rfl (by kernel_rfl) (by kernel_rfl) (h17)
      · intro x U hRU hFU hp
        have hX : IsB U (x 18) (A * D) := hp (18, some 6) (by simp)
        have hY : IsB U (x 19) (B * C) := hp (19, some 7) (by simp)
        refine wpAnyG_done (by kernel_rfl) (fun V hV => ?_)
        refine NoPanic.normal ?_
        have HX := Lib.hid (hX.kept hV)
        have HY := Lib.hid (hY.kept hV)
        have HV := Lib.hid (hFU.trans hV)
        clear hp hX hY hRU hFU hV
        simp only [puts, Act.put, List.setIfInBounds_toArray, List.set_cons_zero, List.set_cons_succ]
        generalize x 18 = x18 at *
        generalize x 19 = x19 at *
        generalize x 3 = x3
        generalize x 7 = x7
        generalize x 8 = x8
        generalize x 11 = x11
        generalize x 12 = x12
        generalize x 16 = x16
        generalize x 17 = x17
        go_wp2_with fail
        go_meet
        exact ⟨HX, HY, HV⟩
  case rest =>
    obtain ⟨HX, HY, HF3⟩ := hcut
    obtain ⟨w3, hw3⟩ : ∃ w3, w3 = wc := ⟨_, rfl⟩
    subst hw3
    have HC3 := Lib.hid (And.intro (And.intro (HF3.out.cell HC2.out.1.1 (fun h => h)) (HF3.out.cell HC2.out.1.2 (fun h => h))) (And.intro (HF3.out.cell HC2.out.2.1 (fun h => h)) (HF3.out.cell HC2.out.2.2 (fun h => h))))
    go_upto_region 2 with fail
    go_cut [8] from 28 to 36 (fun s8 wx => Hid (IsB wx s8 (C * D)) ∧ Hid (Fr0 w3 wx))
    case first =>
      refine wp_region_noPanic ?_
      refine takesL_ex [0, 1, 2, 4, 5, 6] (fun U => Fr0 w3 U) (fun _ _ h k => h.trans k) (Fr.refl _ _) hmx (fun _ _ _ _ _ h => h) (by kernel_rfl) (by kernel_rfl) ?_
      apply Exists.intro
      refine ⟨fun W' hW' => ?_, ?_⟩
      · have r0 := cg_cell (W := W') (hW'.cell (HC3.out.1.1) (fun h => h))
        have r1 := cg_cell (W := W') (hW'.cell (HC3.out.1.2) (fun h => h))
        have r2 := cg_cell (W := W') (hW'.cell (HC3.out.2.1) (fun h => h))
        have r3 := cg_cell (W := W') (hW'.cell (HC3.out.2.2) (fun h => h))
        simp only [pickL, List.getElem?_cons_zero, List.getElem?_cons_succ]
        repeat (first
          | go_big_quiet_step (fail))
        exact wpQuiet_nil rfl
      · refine wpAnyG_rel (ds := [(3, some 31), (7, some 35), (8, some 36), (9, some 8)]) (RelP (relS [(3, .inl C), (7, .inl D), (8, .inl (C * D)), (9, .inl (C * D))])) (g := 0) rfl (by kernel_rfl) (fun _ _ h k => h.trans k) (Fr.refl _ _) (fun _ _ _ _ h k => h.kept k) ?_ ?_
        · intro q hq x U hRU hFU hd
          simp only [List.mem_cons, List.not_mem_nil, or_false] at hq
          rcases hq with rfl | rfl | rfl | rfl
          · exact rel_call 47 #[u64v C] rfl rfl (by kernel_rfl) (by kernel_rfl) (of_rel HL.out.2.2.1 U rfl)
          · exact rel_call 47 #[u64v D] rfl rfl (by kernel_rfl) (by kernel_rfl) (of_rel HL.out.2.2.2.1 U rfl)
          · have h3 : IsB U (x 3) C := hd 3 (by kernel_rfl) (by kernel_rfl)
            have h7 : IsB U (x 7) D := hd 7 (by kernel_rfl) (by kernel_rfl)
            exact rel_call 46 #[x 3, x 7] rfl rfl (by kernel_rfl) (by kernel_rfl) (mul_rel rfl h3 h7 HL2.out.2.2.1 HL2.out.2.2.2)
          · have h8 : IsB U (x 8) (C * D) := hd 8 (by kernel_rfl) (by kernel_rfl)
            exact rel_value (x 8) rfl rfl (by kernel_rfl) (by kernel_rfl) (h8)
        · intro x U hRU hFU hp
          have hZ : IsB U (x 9) (C * D) := hp (9, some 8) (by simp)
          refine wpAnyG_done (by kernel_rfl) (fun V hV => ?_)
          refine NoPanic.normal ?_
          have HZ := Lib.hid (hZ.kept hV)
          have HV := Lib.hid (hFU.trans hV)
          clear hp hZ hRU hFU hV
          simp only [puts, Act.put, List.setIfInBounds_toArray, List.set_cons_zero, List.set_cons_succ]
          generalize x 9 = x9 at *
          generalize x 3 = x3
          generalize x 7 = x7
          generalize x 8 = x8
          go_wp2_with fail
          go_meet
          exact ⟨HZ, HV⟩
    case rest =>
      obtain ⟨HZ, HF4⟩ := hcut
      obtain ⟨w4, hw4⟩ : ∃ w4, w4 = wc := ⟨_, rfl⟩
      subst hw4
      have x0 := HF4.out.cell HC3.out.1.1 (fun h => h)
      have x1 := HF4.out.cell HC3.out.1.2 (fun h => h)
      have x2 := HF4.out.cell HC3.out.2.1 (fun h => h)
      have x3 := HF4.out.cell HC3.out.2.2 (fun h => h)
      have HC4 := Lib.hid (And.intro (And.intro x0 x1) (And.intro x2 x3))
      have HX4 := Lib.hid (HX.out.kept HF4.out)
      have HY4 := Lib.hid (HY.out.kept HF4.out)
      have HW4 := Lib.hid (HFW.out.trans (HF3.out.trans HF4.out))
      have HB4 := Lib.hid ((HF3.out.trans HF4.out).blk HBR.out (fun h => h))
      clear HX HY HC3 HC2 HSA HSB HSB2 HBR
      obtain ⟨pa, hpa⟩ : ∃ p, p = decide (an < 0) := ⟨_, rfl⟩
      obtain ⟨pb, hpb⟩ : ∃ p, p = decide (bn < 0) := ⟨_, rfl⟩
      rw [← hpa, ← hpb] at HSUM
      have ha0 := hpa.symm
      have hb0 := hpb.symm
      clear hpa hpb
      by_cases hs : pa = pb
      · subst hs
        have hbb : (pa == pa) = true := by simp
        go_upto_region 4 with fail
        clear x0 x1 x2 x3
        have HFRC := Lib.hid (fun U va vd => HFR0.out (A * D + B * C) pa (by have := HL3.out.2.2.2; omega) (HSUM.out.1 rfl) U va vd)
        have HZ4 := Lib.hid HZ.out
        clear HFR0 HSUM HF3 HF4 HFW
        refine wp_region_noPanic ?_
        refine takesL_ex [0, 1, 3, 4, 5, 6] (fun U => Fr (fun k => k = (w.heap.size + 1 + 1)) w4 U) (fun _ _ h k => h.trans k.any) (Fr.refl _ _) hmx (fun _ _ _ _ _ h => h) (by kernel_rfl) (by kernel_rfl) ?_
        apply Exists.intro
        refine ⟨fun W' hW' => ?_, ?_⟩
        · have r0 := cg_cell (W := W') (hW'.cell (HC4.out.1.1) (fun h => by revert h; show ¬ (w.heap.size = (w.heap.size + 1 + 1)); omega))
          simp only [pickL, List.getElem?_cons_zero, List.getElem?_cons_succ]
          repeat (first
            | go_big_quiet_step (fail))
          exact wpQuiet_nil rfl
        · refine wpAnyG_rel (ds := [(2, some 46), (7, some 51), (8, some 52), (9, some 53)]) (RelP (relS [(2, .inl (A * D + B * C)), (7, .inr (.tuple #[rtv a b, .int .i64 k])), (8, .inr (rtv a b)), (9, .inr (.int .i64 k))])) (g := 2) rfl (by kernel_rfl) (fun _ _ h k => h.trans k.any) (Fr.refl _ _) (fun _ _ _ _ h k => h.kept k) ?_ ?_
          · intro q hq x U hRU hFU hd
            simp only [List.mem_cons, List.not_mem_nil, or_false] at hq
            rcases hq with rfl | rfl | rfl | rfl
            · exact rel_call 61 #[u6, u7] rfl rfl (by kernel_rfl) (by kernel_rfl) (add_rel rfl (HX4.out.kept hFU) (HY4.out.kept hFU) (by have := HL3.out.1; omega) (by have := HL3.out.2.1; omega))
            · have h2 : IsB U (x 2) (A * D + B * C) := hd 2 (by kernel_rfl) (by kernel_rfl)
              exact rel_call 59 #[x 2, .bool pa, u8] rfl rfl (by kernel_rfl) (by kernel_rfl) (val_rel rfl (HFRC.out U _ _ h2 (HZ.out.kept (hFU))))
            · have h7 : x 7 = .tuple #[rtv a b, .int .i64 k] := hd 7 (by kernel_rfl) (by kernel_rfl)
              exact rel_value (rtv a b) rfl rfl (by kernel_rfl) (run_ext0 U rfl (by kernel_rfl) h7) rfl
            · have h7 : x 7 = .tuple #[rtv a b, .int .i64 k] := hd 7 (by kernel_rfl) (by kernel_rfl)
              exact rel_value (.int .i64 k) rfl rfl (by kernel_rfl) (run_ext1 U rfl (by kernel_rfl) h7) rfl
          · intro x U hRU hFU hp
            have h8 : x 8 = rtv a b := hp (8, some 52) (by simp)
            have h9 : x 9 = .int .i64 k := hp (9, some 53) (by simp)
            have hR0 : Fr (fun k => k = (w.heap.size + 1 + 1)) w4 U := hRU
            have hF0 := HW4.out.trans (hFU.mono (fun _ _ h => h.elim) : Fr0 _ U)
            have hB0 := hFU.blk HB4.out (fun h => h)
            refine wpAnyG_ready (f := 1) (rs := [10]) (by kernel_rfl) (by simp) ?_
            refine allG_turn (ratAt (w.heap.size + 1 + 1) a b) rfl (by kernel_rfl) rfl (fun V hV => run_store (v1 := .pointer (some ⟨(w.heap.size + 1 + 1), 0, none⟩)) (v2 := x 8) rfl (by kernel_rfl) rfl (by kernel_rfl) h8 (hV.blk hB0 (fun h => h))) (fun V hV => ⟨fr_ratAt (hR0.trans hV.any) (fun _ => rfl) a b, ?_⟩) AllG.nil
            have hB1 := two_set (hV.blk hB0 (fun h => h)) (.int .i64 a) (.int .i64 b)
            have hF1 := two_fr (b := (w.heap.size + 1 + 1)) (hF0.trans hV) (by omega) (.int .i64 a) (.int .i64 b)
            refine wpAnyG_ready (f := 0) (rs := [11]) (by kernel_rfl) (by simp) ?_
            refine allG_value (some 5) (x 9) rfl rfl (by kernel_rfl) (fun _ => by kernel_rfl) (fun V2 hV2 => ⟨(fr_ratAt (hR0.trans hV.any) (fun _ => rfl) a b).trans hV2.any, ?_⟩) AllG.nil
            refine wpAnyG_done (by kernel_rfl) (fun V3 hV3 => ?_)
            refine NoPanic.normal ?_
            have HBV := Lib.hid (hV3.blk (hV2.blk hB1 (fun h => h)) (fun h => h))
            have HFV := Lib.hid ((hF1.trans hV2).trans hV3)
            have hbV := HBV.out
            obtain ⟨y0, y1, y2, y3⟩ := two_facts hbV
            simp only [puts, Act.put, List.setIfInBounds_toArray, List.set_cons_zero, List.set_cons_succ]
            rw [h9]
            clear hB0 hF0 hV hV2 hV3 hB1 hF1 hR0 hbV hp hRU hFU
            generalize x 2 = x2
            generalize x 7 = x7
            go_wp2_with fail
            exact bodyPost_ret (results_row_tmp (p := 4) (u := 5) rfl _ _ (w.heap.size + 1 + 1) _ _ _ _ rfl HBV.out Try.underlying27 rfl (by kernel_rfl)) rfl ⟨rfl, HFV.out⟩

      · have hbb : (pa == pb) = false := by simpa using hs
        by_cases hl : A * D < B * C
        · have hld : decide (A * D < B * C) = true := decide_eq_true hl
          go_upto_region 6 with (first | (go_at_call 49; (with_reducible refine (bless_calls (A * D) (B * C) _ _ _ HX4.out HY4.out (by have := HL3.out.1; omega) (by have := HL3.out.2.1; omega)).mono ?_); rintro _ w5 ⟨rfl, hf5⟩) | fail)
          clear x0 x1 x2 x3
          have HFRC := Lib.hid (fun U va vd => HFR0.out (B * C - A * D) pb (by have := HL3.out.2.1; have := len_mono (show B * C - A * D ≤ B * C by omega); omega) (HSUM.out.2.1 hs hl) U va vd)
          have HX5 := Lib.hid (HX4.out.kept hf5)
          have HY5 := Lib.hid (HY4.out.kept hf5)
          have HZ5 := Lib.hid (HZ.out.kept hf5)
          have HC5 := Lib.hid (hf5.cell HC4.out.2.1 (fun h => h))
          have HW5 := Lib.hid (HW4.out.trans hf5)
          have HB5 := Lib.hid (hf5.blk HB4.out (fun h => h))
          clear HFR0 HSUM HF3 HF4 HFW hf5 hld
          refine wp_region_noPanic ?_
          refine takesL_ex [0, 1, 3, 4, 5, 6] (fun U => Fr (fun k => k = (w.heap.size + 1 + 1)) w5 U) (fun _ _ h k => h.trans k.any) (Fr.refl _ _) hmx (fun _ _ _ _ _ h => h) (by kernel_rfl) (by kernel_rfl) ?_
          apply Exists.intro
          refine ⟨fun W' hW' => ?_, ?_⟩
          · have r0 := cg_cell (W := W') (hW'.cell (HC5.out) (fun h => by revert h; show ¬ (w.heap.size + 1 = (w.heap.size + 1 + 1)); omega))
            simp only [pickL, List.getElem?_cons_zero, List.getElem?_cons_succ]
            repeat (first
              | go_big_quiet_step (fail))
            exact wpQuiet_nil rfl
          · refine wpAnyG_rel (ds := [(2, some 59), (7, some 64), (8, some 65), (9, some 66)]) (RelP (relS [(2, .inl (B * C - A * D)), (7, .inr (.tuple #[rtv a b, .int .i64 k])), (8, .inr (rtv a b)), (9, .inr (.int .i64 k))])) (g := 2) rfl (by kernel_rfl) (fun _ _ h k => h.trans k.any) (Fr.refl _ _) (fun _ _ _ _ h k => h.kept k) ?_ ?_
            · intro q hq x U hRU hFU hd
              simp only [List.mem_cons, List.not_mem_nil, or_false] at hq
              rcases hq with rfl | rfl | rfl | rfl
              · exact rel_call 62 #[u7, u6] rfl rfl (by kernel_rfl) (by kernel_rfl) (sub_rel rfl (Nat.le_of_lt hl) (HY5.out.kept hFU) (HX5.out.kept hFU) (by have := HL3.out.2.1; omega) (by have := HL3.out.1; omega))
              · have h2 : IsB U (x 2) (B * C - A * D) := hd 2 (by kernel_rfl) (by kernel_rfl)
                exact rel_call 59 #[x 2, .bool pb, u8] rfl rfl (by kernel_rfl) (by kernel_rfl) (val_rel rfl (HFRC.out U _ _ h2 (HZ5.out.kept (hFU))))
              · have h7 : x 7 = .tuple #[rtv a b, .int .i64 k] := hd 7 (by kernel_rfl) (by kernel_rfl)
                exact rel_value (rtv a b) rfl rfl (by kernel_rfl) (run_ext0 U rfl (by kernel_rfl) h7) rfl
              · have h7 : x 7 = .tuple #[rtv a b, .int .i64 k] := hd 7 (by kernel_rfl) (by kernel_rfl)
                exact rel_value (.int .i64 k) rfl rfl (by kernel_rfl) (run_ext1 U rfl (by kernel_rfl) h7) rfl
            · intro x U hRU hFU hp
              have h8 : x 8 = rtv a b := hp (8, some 65) (by simp)
              have h9 : x 9 = .int .i64 k := hp (9, some 66) (by simp)
              have hR0 : Fr (fun k => k = (w.heap.size + 1 + 1)) w5 U := hRU
              have hF0 := HW5.out.trans (hFU.mono (fun _ _ h => h.elim) : Fr0 _ U)
              have hB0 := hFU.blk HB5.out (fun h => h)
              refine wpAnyG_ready (f := 1) (rs := [10]) (by kernel_rfl) (by simp) ?_
              refine allG_turn (ratAt (w.heap.size + 1 + 1) a b) rfl (by kernel_rfl) rfl (fun V hV => run_store (v1 := .pointer (some ⟨(w.heap.size + 1 + 1), 0, none⟩)) (v2 := x 8) rfl (by kernel_rfl) rfl (by kernel_rfl) h8 (hV.blk hB0 (fun h => h))) (fun V hV => ⟨fr_ratAt (hR0.trans hV.any) (fun _ => rfl) a b, ?_⟩) AllG.nil
              have hB1 := two_set (hV.blk hB0 (fun h => h)) (.int .i64 a) (.int .i64 b)
              have hF1 := two_fr (b := (w.heap.size + 1 + 1)) (hF0.trans hV) (by omega) (.int .i64 a) (.int .i64 b)
              refine wpAnyG_ready (f := 0) (rs := [11]) (by kernel_rfl) (by simp) ?_
              refine allG_value (some 5) (x 9) rfl rfl (by kernel_rfl) (fun _ => by kernel_rfl) (fun V2 hV2 => ⟨(fr_ratAt (hR0.trans hV.any) (fun _ => rfl) a b).trans hV2.any, ?_⟩) AllG.nil
              refine wpAnyG_done (by kernel_rfl) (fun V3 hV3 => ?_)
              refine NoPanic.normal ?_
              have HBV := Lib.hid (hV3.blk (hV2.blk hB1 (fun h => h)) (fun h => h))
              have HFV := Lib.hid ((hF1.trans hV2).trans hV3)
              have hbV := HBV.out
              obtain ⟨y0, y1, y2, y3⟩ := two_facts hbV
              simp only [puts, Act.put, List.setIfInBounds_toArray, List.set_cons_zero, List.set_cons_succ]
              rw [h9]
              clear hB0 hF0 hV hV2 hV3 hB1 hF1 hR0 hbV hp hRU hFU
              generalize x 2 = x2
              generalize x 7 = x7
              go_wp2_with fail
              exact bodyPost_ret (results_row_tmp (p := 4) (u := 5) rfl _ _ (w.heap.size + 1 + 1) _ _ _ _ rfl HBV.out Try.underlying27 rfl (by kernel_rfl)) rfl ⟨rfl, HFV.out⟩

        · have hld : decide (A * D < B * C) = false := decide_eq_false hl
          have hz : decide (0 < (bd (A * D - B * C)).length) = decide (0 < A * D - B * C) := decide_eq_decide.2 (by have := bd_len_zero (A * D - B * C); omega)
          have HFRC := Lib.hid (fun U va vd => HFR0.out (A * D - B * C) (pa && decide (0 < A * D - B * C)) (by have := HL3.out.1; have := len_mono (show A * D - B * C ≤ A * D by omega); omega) (HSUM.out.2.2 hs (by omega)) U va vd)
          have HB8 := Lib.hid (fun U (hf : Fr0 w4 U) => hf.blk HB4.out (fun h => h))
          obtain ⟨N, hN⟩ : ∃ N, N = A * D - B * C := ⟨_, rfl⟩
          have HSB3 := Lib.hid (fun U va vb h1 h2 => bsub_calls (A * D) (B * C) va vb U (by omega) h1 h2 (by have := HL3.out.1; omega) (by have := HL3.out.2.1; omega))
          rw [← hN] at hz HFRC HSB3
          clear hN HFR0 HSUM HF3 HF4 HFW
          rcases pa with _ | _
          · have g0 : (false && decide (0 < N)) = false := rfl
            rw [g0] at HFRC
            clear g0
            go_wp2_with (first
              | (go_at_call 49; (with_reducible refine (bless_calls (A * D) (B * C) _ _ _ HX4.out HY4.out (by have := HL3.out.1; omega) (by have := HL3.out.2.1; omega)).mono ?_); rintro _ w5 ⟨rfl, hf5⟩)
              | (go_at_call 62; (with_reducible refine (HSB3.out _ _ _ (HX4.out.kept hf5) (HY4.out.kept hf5)).mono ?_); rintro _ w6 ⟨⟨v6, rfl, h6⟩, hf6⟩; have x10 := (hf5.trans hf6).cell HC4.out.1.1 (fun h => h))
              | (go_at_call 59; (with_reducible refine (HFRC.out _ _ _ h6.weak (HZ.out.kept (hf5.trans hf6))).mono ?_); rintro _ w7 ⟨rfl, hf7⟩; have hb7 := HB8.out _ ((hf5.trans hf6).trans hf7); obtain ⟨_, _, f0, f1⟩ := two_facts hb7)
              | fail)
            exact bodyPost_ret (results_row_tmp (p := 4) (u := 5) rfl _ _ (w.heap.size + 1 + 1) _ _ _ _ rfl (two_set hb7 _ _) Try.underlying27 rfl (by kernel_rfl)) rfl ⟨rfl, two_fr (HW4.out.trans ((hf5.trans hf6).trans hf7)) (by omega) _ _⟩
          · have g0 : (true && decide (0 < N)) = decide (0 < N) := Bool.true_and _
            rw [g0] at HFRC
            clear g0
            go_wp2_with (first
              | (go_at_call 49; (with_reducible refine (bless_calls (A * D) (B * C) _ _ _ HX4.out HY4.out (by have := HL3.out.1; omega) (by have := HL3.out.2.1; omega)).mono ?_); rintro _ w5 ⟨rfl, hf5⟩)
              | (go_at_call 62; (with_reducible refine (HSB3.out _ _ _ (HX4.out.kept hf5) (HY4.out.kept hf5)).mono ?_); rintro _ w6 ⟨⟨v6, rfl, h6⟩, hf6⟩; have x10 := (hf5.trans hf6).cell HC4.out.1.1 (fun h => h); have H6 := Lib.hid h6.weak; obtain ⟨A6, c6, rfl, hc6, hR6⟩ := h6)
              | (go_at_call 59; (with_reducible refine (HFRC.out _ _ _ H6.out (HZ.out.kept (hf5.trans hf6))).mono ?_); rintro _ w7 ⟨rfl, hf7⟩; have hb7 := HB8.out _ ((hf5.trans hf6).trans hf7); obtain ⟨_, _, f0, f1⟩ := two_facts hb7)
              | fail)
            exact bodyPost_ret (results_row_tmp (p := 4) (u := 5) rfl _ _ (w.heap.size + 1 + 1) _ _ _ _ rfl (two_set hb7 _ _) Try.underlying27 rfl (by kernel_rfl)) rfl ⟨rfl, two_fr (HW4.out.trans ((hf5.trans hf6).trans hf7)) (by omega) _ _⟩
end Go.Proofs.Ytjldogfpccbkeaa
