/- Chapter 01, the document: Times (written by genRc2.py). -/
import Derived.Test.YtdakeenjeieekaaRc1
set_option linter.unusedVariables false
set_option linter.unusedSimpArgs false
namespace Go.Proofs.Ytdakeenjeieekaa
open Go.RowKit
attribute [local go_sem] Oper.semAt_some

set_option maxHeartbeats 2000000 in
set_option maxRecDepth 20000 in
theorem times_calls (an ad bn be : Int) (ha : RtOk an ad) (hb : RtOk bn be) (ia : I64r an ∧ I64r ad) (ib : I64r bn ∧ I64r be) (w : World) :
    Calls Try.prog 25 #[rtv an ad, rtv bn be] w fun e w' => e = .returned (tupR (rR (rq an ad * rq bn be))) ∧ Fr0 w w' := by
  have hmx : Try.prog.follows .mixedOrders = true := by kernel_rfl
  obtain ⟨a1, a2, a3⟩ := ha
  obtain ⟨b1, b2, b3⟩ := hb
  obtain ⟨ia1, ia2⟩ := ia
  obtain ⟨ib1, ib2⟩ := ib
  have wc : IntKind.u64.wrap ad = ((ad.natAbs : Nat) : Int) := u64_abs (by omega) ia2.2
  have wd : IntKind.u64.wrap be = ((be.natAbs : Nat) : Int) := u64_abs (by omega) ib2.2
  obtain ⟨A, hAe⟩ : ∃ A, A = an.natAbs := ⟨_, rfl⟩
  obtain ⟨B, hBe⟩ : ∃ B, B = bn.natAbs := ⟨_, rfl⟩
  obtain ⟨C, hCe⟩ : ∃ C, C = ad.natAbs := ⟨_, rfl⟩
  obtain ⟨D, hDe⟩ : ∃ D, D = be.natAbs := ⟨_, rfl⟩
  have HSA := Lib.hid (fun U => size_keep hAe ia1 U)
  have HSB := Lib.hid (fun U => size_keep hBe ib1 U)
  rw [← hCe] at wc; rw [← hDe] at wd
  have hA : A < 18446744073709551616 := by have := ia1.1; have := ia1.2; omega
  have hB : B < 18446744073709551616 := by have := ib1.1; have := ib1.2; omega
  have hC : C < 18446744073709551616 := by have := ia2.1; have := ia2.2; omega
  have hD : D < 18446744073709551616 := by have := ib2.1; have := ib2.2; omega
  have HL := Lib.hid (And.intro hA (And.intro hB (And.intro hC (And.intro hD trivial))))
  have HL2 := Lib.hid (show (bd A).length ≤ 400 ∧ (bd B).length ≤ 400 ∧ (bd C).length ≤ 400 ∧ (bd D).length ≤ 400 from by
    have := bd_small hA; have := bd_small hB; have := bd_small hC; have := bd_small hD
    omega)
  have HL3 := Lib.hid (show (bd (A * B)).length ≤ 8 ∧ (bd (C * D)).length ≤ 8 from ⟨bd_mul hA hB, bd_mul hC hD⟩)
  have hbA := blk_alloc (blk_alloc (heap_alloc_new w (.cells (rtc an ad) 23)) (.cells (rtc bn be) 23)) (.cells (rtc 0 0) 23)
  have hbB := blk_alloc (heap_an (w := w.alloc (.cells (rtc an ad) 23)) (k := w.heap.size + 1) (.cells (rtc bn be) 23) (by simp)) (.cells (rtc 0 0) 23)
  have HBR := Lib.hid (heap_an (w := (w.alloc (.cells (rtc an ad) 23)).alloc (.cells (rtc bn be) 23)) (k := w.heap.size + 1 + 1) (.cells (rtc 0 0) 23) (by simp))
  have HFW := Lib.hid ((((Fr.refl (fun _ => False) w).alloc (.cells (rtc an ad) 23)).alloc (.cells (rtc bn be) 23)).alloc (.cells (rtc 0 0) 23))
  obtain ⟨p0, p1, _, _⟩ := two_facts hbA
  obtain ⟨q0, q1, _, _⟩ := two_facts hbB
  have HC2 := Lib.hid (And.intro (And.intro p0 p1) (And.intro q0 q1))
  clear hbA hbB p1 q1 p0
  have hpr := prod_eq hAe hBe hCe hDe a1 b1
  generalize rR (rq an ad * rq bn be) = r at *
  clear hAe hBe hCe hDe a1 a2 a3 b1 b2 b3 ia1 ia2 ib1 ib2 hA hB hC hD
  obtain ⟨pa, hpa⟩ : ∃ p, p = decide (an < 0) := ⟨_, rfl⟩
  obtain ⟨pb, hpb⟩ : ∃ p, p = decide (bn < 0) := ⟨_, rfl⟩
  rw [← hpa, ← hpb] at hpr
  have ha0 := hpa.symm
  have hb0 := hpb.symm
  clear hpa hpb
  have HFR0 := Lib.hid (fun (U : World) (va vd : Value) (h1 : IsB U va (A * B)) (h2 : IsB U vd (C * D)) => hpr ▸ frac_calls (A * B) (C * D) _ va vd U h1 h2 (by have := HL3.out.1; omega) (by have := HL3.out.2; omega))
  clear hpr
  unfold tupR at HFR0 ⊢
  generalize rN r = a at *
  generalize rD r = b at *
  generalize rE r = k at *
  go_enter Try.func25, Try.ntmps25
  go_upto_region 1 with fail
  clear q0
  generalize ((w.alloc (.cells (rtc an ad) 23)).alloc (.cells (rtc bn be) 23)).alloc (.cells (rtc 0 0) 23) = w2 at *
  go_cut [6] from 7 to 15 (fun s6 wx => Hid (IsB wx s6 (A * B)) ∧ Hid (Fr0 w2 wx))
  case first =>
    refine wp_region_noPanic ?_
    refine takesL_ex [0, 1, 2, 4, 5] (fun U => Fr0 w2 U) (fun _ _ h k => h.trans k) (Fr.refl _ _) hmx (fun _ _ _ _ _ h => h) (by kernel_rfl) (by kernel_rfl) ?_
    apply Exists.intro
    refine ⟨fun W' hW' => ?_, ?_⟩
    · have r0 := cg_cell (W := W') (hW'.cell (HC2.out.1.1) (fun h => h))
      have r1 := cg_cell (W := W') (hW'.cell (HC2.out.1.2) (fun h => h))
      have r2 := cg_cell (W := W') (hW'.cell (HC2.out.2.1) (fun h => h))
      have r3 := cg_cell (W := W') (hW'.cell (HC2.out.2.2) (fun h => h))
      simp only [pickL, List.getElem?_cons_zero, List.getElem?_cons_succ]
      repeat (first
        | go_big_quiet_step (fail)
        | go_big_quiet_step (first
          | ((go_at_call 41; with_reducible exact quiet_cg (HSA.out _)))))
      exact wpQuiet_nil rfl
    · refine wpAnyG_rel (ds := [(3, some 10), (6, some 13), (7, some 14), (8, some 15), (9, some 6)]) (RelP (relS [(3, .inl A), (6, .inr (u64v B)), (7, .inl B), (8, .inl (A * B)), (9, .inl (A * B))])) (g := 0) rfl (by kernel_rfl) (fun _ _ h k => h.trans k) (Fr.refl _ _) (fun _ _ _ _ h k => h.kept k) ?_ ?_
      · intro q hq x U hRU hFU hd
        simp only [List.mem_cons, List.not_mem_nil, or_false] at hq
        rcases hq with rfl | rfl | rfl | rfl | rfl
        · exact rel_call 40 #[u64v A] rfl rfl (by kernel_rfl) (by kernel_rfl) (of_rel HL.out.1 U rfl)
        · exact rel_call 41 #[.int .i64 bn] rfl rfl (by kernel_rfl) (by kernel_rfl) (val_rel rfl (HSB.out U))
        · have h6 : x 6 = u64v B := hd 6 (by kernel_rfl) (by kernel_rfl)
          exact rel_call 40 #[x 6] rfl rfl (by kernel_rfl) (by kernel_rfl) (of_rel2 h6 HL.out.2.1 U rfl)
        · have h3 : IsB U (x 3) A := hd 3 (by kernel_rfl) (by kernel_rfl)
          have h7 : IsB U (x 7) B := hd 7 (by kernel_rfl) (by kernel_rfl)
          exact rel_call 50 #[x 3, x 7] rfl rfl (by kernel_rfl) (by kernel_rfl) (mul_rel rfl h3 h7 HL2.out.1 HL2.out.2.1)
        · have h8 : IsB U (x 8) (A * B) := hd 8 (by kernel_rfl) (by kernel_rfl)
          exact rel_value (x 8) rfl rfl (by kernel_rfl) (by kernel_rfl) (h8)
      · intro x U hRU hFU hp
        have hX : IsB U (x 9) (A * B) := hp (9, some 6) (by simp)
        refine wpAnyG_done (by kernel_rfl) (fun V hV => ?_)
        refine NoPanic.normal ?_
        have HX := Lib.hid (hX.kept hV)
        have HV := Lib.hid (hFU.trans hV)
        clear hp hX hRU hFU hV
        simp only [puts, Act.put, List.setIfInBounds_toArray, List.set_cons_zero, List.set_cons_succ]
        generalize x 9 = x9 at *
        generalize x 3 = x3
        generalize x 6 = x6
        generalize x 7 = x7
        generalize x 8 = x8
        go_wp2_with fail
        go_meet
        exact ⟨HX, HV⟩
  case rest =>
    obtain ⟨HX, HF3⟩ := hcut
    obtain ⟨w3, hw3⟩ : ∃ w3, w3 = wc := ⟨_, rfl⟩
    subst hw3
    have HX2 := HX
    obtain ⟨A6, c6, rfl, hc6, hR6⟩ := HX2.out
    clear hR6 HX2
    have hz : decide (0 < (bd (A * B)).length) = decide (0 < A * B) := decide_eq_decide.2 (by have := bd_len_zero (A * B); omega)
    have HC3 := Lib.hid (And.intro (And.intro (HF3.out.cell HC2.out.1.1 (fun h => h)) (HF3.out.cell HC2.out.1.2 (fun h => h))) (And.intro (HF3.out.cell HC2.out.2.1 (fun h => h)) (HF3.out.cell HC2.out.2.2 (fun h => h))))
    have HW3 := Lib.hid (HFW.out.trans HF3.out)
    have HB3 := Lib.hid (HF3.out.blk HBR.out (fun h => h))
    clear HF3 HFW HBR HC2
    generalize hNN : A * B = N at *
    go_upto_region 2 with fail
    have HNN := Lib.hid hNN
    clear hNN
    by_cases h0 : 0 < N
    · have g0 : decide (0 < N) = true := decide_eq_true h0
      rw [g0] at hz HFR0
      clear g0 h0
      have HFR := Lib.hid (fun U va vd h1 h2 => Bool.true_and (pa != pb) ▸ HFR0.out U va vd h1 h2)
      clear HFR0
      refine wp_region_noPanic ?_
      refine takesL_ex [0, 1, 2, 3, 4, 5, 6, 7, 8, 9, 10, 11, 12, 13, 14, 15, 17, 18, 19] (fun U => Fr (fun k => k = (w.heap.size + 1 + 1)) w3 U) (fun _ _ h k => h.trans k.any) (Fr.refl _ _) hmx (fun _ _ _ _ _ h => h) (by kernel_rfl) (by kernel_rfl) ?_
      apply Exists.intro
      refine ⟨fun W' hW' => ?_, ?_⟩
      · have r0 := cg_cell (W := W') (hW'.cell (HC3.out.1.1) (fun h => by revert h; show ¬ (w.heap.size = (w.heap.size + 1 + 1)); omega))
        have r1 := cg_cell (W := W') (hW'.cell (HC3.out.1.2) (fun h => by revert h; show ¬ (w.heap.size = (w.heap.size + 1 + 1)); omega))
        have r2 := cg_cell (W := W') (hW'.cell (HC3.out.2.1) (fun h => by revert h; show ¬ (w.heap.size + 1 = (w.heap.size + 1 + 1)); omega))
        have r3 := cg_cell (W := W') (hW'.cell (HC3.out.2.2) (fun h => by revert h; show ¬ (w.heap.size + 1 = (w.heap.size + 1 + 1)); omega))
        simp only [pickL, List.getElem?_cons_zero, List.getElem?_cons_succ]
        repeat (first
          | go_big_quiet_step (fail))
        exact wpQuiet_nil rfl
      · refine wpAnyG_rel (ds := [(16, some 32), (20, some 36), (21, some 37), (22, some 38), (23, some 39), (24, some 40)]) (RelP (relS [(16, .inl C), (20, .inl D), (21, .inl (C * D)), (22, .inr (.tuple #[rtv a b, .int .i64 k])), (23, .inr (rtv a b)), (24, .inr (.int .i64 k))])) (g := 2) rfl (by kernel_rfl) (fun _ _ h k => h.trans k.any) (Fr.refl _ _) (fun _ _ _ _ h k => h.kept k) ?_ ?_
        · intro q hq x U hRU hFU hd
          simp only [List.mem_cons, List.not_mem_nil, or_false] at hq
          rcases hq with rfl | rfl | rfl | rfl | rfl | rfl
          · exact rel_call 40 #[u64v C] rfl rfl (by kernel_rfl) (by kernel_rfl) (of_rel HL.out.2.2.1 U rfl)
          · exact rel_call 40 #[u64v D] rfl rfl (by kernel_rfl) (by kernel_rfl) (of_rel HL.out.2.2.2.1 U rfl)
          · have h16 : IsB U (x 16) C := hd 16 (by kernel_rfl) (by kernel_rfl)
            have h20 : IsB U (x 20) D := hd 20 (by kernel_rfl) (by kernel_rfl)
            exact rel_call 50 #[x 16, x 20] rfl rfl (by kernel_rfl) (by kernel_rfl) (mul_rel rfl h16 h20 HL2.out.2.2.1 HL2.out.2.2.2)
          · have h21 : IsB U (x 21) (C * D) := hd 21 (by kernel_rfl) (by kernel_rfl)
            exact rel_call 39 #[.slice A6 (bd N).length c6, .bool (pa != pb), x 21] rfl rfl (by kernel_rfl) (by kernel_rfl) (val_rel rfl (HFR.out U _ _ (HX.out.kept hFU) h21))
          · have h22 : x 22 = .tuple #[rtv a b, .int .i64 k] := hd 22 (by kernel_rfl) (by kernel_rfl)
            exact rel_value (rtv a b) rfl rfl (by kernel_rfl) (run_ext0 U rfl (by kernel_rfl) h22) rfl
          · have h22 : x 22 = .tuple #[rtv a b, .int .i64 k] := hd 22 (by kernel_rfl) (by kernel_rfl)
            exact rel_value (.int .i64 k) rfl rfl (by kernel_rfl) (run_ext1 U rfl (by kernel_rfl) h22) rfl
        · intro x U hRU hFU hp
          have h23 : x 23 = rtv a b := hp (23, some 39) (by simp)
          have h24 : x 24 = .int .i64 k := hp (24, some 40) (by simp)
          have hR0 : Fr (fun k => k = (w.heap.size + 1 + 1)) w3 U := hRU
          have hF0 := HW3.out.trans (hFU.mono (fun _ _ h => h.elim) : Fr0 _ U)
          have hB0 := hFU.blk HB3.out (fun h => h)
          refine wpAnyG_ready (f := 1) (rs := [25]) (by kernel_rfl) (by simp) ?_
          refine allG_turn (ratAt (w.heap.size + 1 + 1) a b) rfl (by kernel_rfl) rfl (fun V hV => run_store (v1 := .pointer (some ⟨(w.heap.size + 1 + 1), 0, none⟩)) (v2 := x 23) rfl (by kernel_rfl) rfl (by kernel_rfl) h23 (hV.blk hB0 (fun h => h))) (fun V hV => ⟨fr_ratAt (hR0.trans hV.any) (fun _ => rfl) a b, ?_⟩) AllG.nil
          have hB1 := two_set (hV.blk hB0 (fun h => h)) (.int .i64 a) (.int .i64 b)
          have hF1 := two_fr (b := (w.heap.size + 1 + 1)) (hF0.trans hV) (by omega) (.int .i64 a) (.int .i64 b)
          refine wpAnyG_ready (f := 0) (rs := [26]) (by kernel_rfl) (by simp) ?_
          refine allG_value (some 5) (x 24) rfl rfl (by kernel_rfl) (fun _ => by kernel_rfl) (fun V2 hV2 => ⟨(fr_ratAt (hR0.trans hV.any) (fun _ => rfl) a b).trans hV2.any, ?_⟩) AllG.nil
          refine wpAnyG_done (by kernel_rfl) (fun V3 hV3 => ?_)
          refine NoPanic.normal ?_
          have HBV := Lib.hid (hV3.blk (hV2.blk hB1 (fun h => h)) (fun h => h))
          have HFV := Lib.hid ((hF1.trans hV2).trans hV3)
          have hbV := HBV.out
          obtain ⟨y0, y1, y2, y3⟩ := two_facts hbV
          simp only [puts, Act.put, List.setIfInBounds_toArray, List.set_cons_zero, List.set_cons_succ]
          rw [h24]
          clear hB0 hF0 hV hV2 hV3 hB1 hF1 hR0 hbV hp hRU hFU
          generalize x 16 = x16
          generalize x 20 = x20
          generalize x 21 = x21
          generalize x 22 = x22
          go_wp2_with fail
          exact bodyPost_ret (results_row_tmp (p := 4) (u := 5) rfl _ _ (w.heap.size + 1 + 1) _ _ _ _ rfl HBV.out Try.underlying23 rfl (by kernel_rfl)) rfl ⟨rfl, HFV.out⟩
    · have g0 : decide (0 < N) = false := decide_eq_false h0
      rw [g0] at hz HFR0
      clear g0 h0
      have HFR := Lib.hid (fun U va vd h1 h2 => Bool.false_and (pa != pb) ▸ HFR0.out U va vd h1 h2)
      clear HFR0
      refine wp_region_noPanic ?_
      refine takesL_ex [0, 1, 2, 3, 4, 5, 6, 7, 8, 9, 10, 11, 12, 13, 14, 15, 17, 18, 19] (fun U => Fr (fun k => k = (w.heap.size + 1 + 1)) w3 U) (fun _ _ h k => h.trans k.any) (Fr.refl _ _) hmx (fun _ _ _ _ _ h => h) (by kernel_rfl) (by kernel_rfl) ?_
      apply Exists.intro
      refine ⟨fun W' hW' => ?_, ?_⟩
      · have r0 := cg_cell (W := W') (hW'.cell (HC3.out.1.1) (fun h => by revert h; show ¬ (w.heap.size = (w.heap.size + 1 + 1)); omega))
        have r1 := cg_cell (W := W') (hW'.cell (HC3.out.1.2) (fun h => by revert h; show ¬ (w.heap.size = (w.heap.size + 1 + 1)); omega))
        have r2 := cg_cell (W := W') (hW'.cell (HC3.out.2.1) (fun h => by revert h; show ¬ (w.heap.size + 1 = (w.heap.size + 1 + 1)); omega))
        have r3 := cg_cell (W := W') (hW'.cell (HC3.out.2.2) (fun h => by revert h; show ¬ (w.heap.size + 1 = (w.heap.size + 1 + 1)); omega))
        simp only [pickL, List.getElem?_cons_zero, List.getElem?_cons_succ]
        repeat (first
          | go_big_quiet_step (fail))
        exact wpQuiet_nil rfl
      · refine wpAnyG_rel (ds := [(16, some 32), (20, some 36), (21, some 37), (22, some 38), (23, some 39), (24, some 40)]) (RelP (relS [(16, .inl C), (20, .inl D), (21, .inl (C * D)), (22, .inr (.tuple #[rtv a b, .int .i64 k])), (23, .inr (rtv a b)), (24, .inr (.int .i64 k))])) (g := 2) rfl (by kernel_rfl) (fun _ _ h k => h.trans k.any) (Fr.refl _ _) (fun _ _ _ _ h k => h.kept k) ?_ ?_
        · intro q hq x U hRU hFU hd
          simp only [List.mem_cons, List.not_mem_nil, or_false] at hq
          rcases hq with rfl | rfl | rfl | rfl | rfl | rfl
          · exact rel_call 40 #[u64v C] rfl rfl (by kernel_rfl) (by kernel_rfl) (of_rel HL.out.2.2.1 U rfl)
          · exact rel_call 40 #[u64v D] rfl rfl (by kernel_rfl) (by kernel_rfl) (of_rel HL.out.2.2.2.1 U rfl)
          · have h16 : IsB U (x 16) C := hd 16 (by kernel_rfl) (by kernel_rfl)
            have h20 : IsB U (x 20) D := hd 20 (by kernel_rfl) (by kernel_rfl)
            exact rel_call 50 #[x 16, x 20] rfl rfl (by kernel_rfl) (by kernel_rfl) (mul_rel rfl h16 h20 HL2.out.2.2.1 HL2.out.2.2.2)
          · have h21 : IsB U (x 21) (C * D) := hd 21 (by kernel_rfl) (by kernel_rfl)
            exact rel_call 39 #[.slice A6 (bd N).length c6, .bool (false), x 21] rfl rfl (by kernel_rfl) (by kernel_rfl) (val_rel rfl (HFR.out U _ _ (HX.out.kept hFU) h21))
          · have h22 : x 22 = .tuple #[rtv a b, .int .i64 k] := hd 22 (by kernel_rfl) (by kernel_rfl)
            exact rel_value (rtv a b) rfl rfl (by kernel_rfl) (run_ext0 U rfl (by kernel_rfl) h22) rfl
          · have h22 : x 22 = .tuple #[rtv a b, .int .i64 k] := hd 22 (by kernel_rfl) (by kernel_rfl)
            exact rel_value (.int .i64 k) rfl rfl (by kernel_rfl) (run_ext1 U rfl (by kernel_rfl) h22) rfl
        · intro x U hRU hFU hp
          have h23 : x 23 = rtv a b := hp (23, some 39) (by simp)
          have h24 : x 24 = .int .i64 k := hp (24, some 40) (by simp)
          have hR0 : Fr (fun k => k = (w.heap.size + 1 + 1)) w3 U := hRU
          have hF0 := HW3.out.trans (hFU.mono (fun _ _ h => h.elim) : Fr0 _ U)
          have hB0 := hFU.blk HB3.out (fun h => h)
          refine wpAnyG_ready (f := 1) (rs := [25]) (by kernel_rfl) (by simp) ?_
          refine allG_turn (ratAt (w.heap.size + 1 + 1) a b) rfl (by kernel_rfl) rfl (fun V hV => run_store (v1 := .pointer (some ⟨(w.heap.size + 1 + 1), 0, none⟩)) (v2 := x 23) rfl (by kernel_rfl) rfl (by kernel_rfl) h23 (hV.blk hB0 (fun h => h))) (fun V hV => ⟨fr_ratAt (hR0.trans hV.any) (fun _ => rfl) a b, ?_⟩) AllG.nil
          have hB1 := two_set (hV.blk hB0 (fun h => h)) (.int .i64 a) (.int .i64 b)
          have hF1 := two_fr (b := (w.heap.size + 1 + 1)) (hF0.trans hV) (by omega) (.int .i64 a) (.int .i64 b)
          refine wpAnyG_ready (f := 0) (rs := [26]) (by kernel_rfl) (by simp) ?_
          refine allG_value (some 5) (x 24) rfl rfl (by kernel_rfl) (fun _ => by kernel_rfl) (fun V2 hV2 => ⟨(fr_ratAt (hR0.trans hV.any) (fun _ => rfl) a b).trans hV2.any, ?_⟩) AllG.nil
          refine wpAnyG_done (by kernel_rfl) (fun V3 hV3 => ?_)
          refine NoPanic.normal ?_
          have HBV := Lib.hid (hV3.blk (hV2.blk hB1 (fun h => h)) (fun h => h))
          have HFV := Lib.hid ((hF1.trans hV2).trans hV3)
          have hbV := HBV.out
          obtain ⟨y0, y1, y2, y3⟩ := two_facts hbV
          simp only [puts, Act.put, List.setIfInBounds_toArray, List.set_cons_zero, List.set_cons_succ]
          rw [h24]
          clear hB0 hF0 hV hV2 hV3 hB1 hF1 hR0 hbV hp hRU hFU
          generalize x 16 = x16
          generalize x 20 = x20
          generalize x 21 = x21
          generalize x 22 = x22
          go_wp2_with fail
          exact bodyPost_ret (results_row_tmp (p := 4) (u := 5) rfl _ _ (w.heap.size + 1 + 1) _ _ _ _ rfl HBV.out Try.underlying23 rfl (by kernel_rfl)) rfl ⟨rfl, HFV.out⟩
end Go.Proofs.Ytdakeenjeieekaa
