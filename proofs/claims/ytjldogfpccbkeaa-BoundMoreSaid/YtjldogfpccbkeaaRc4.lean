/- Chapter 01, the document: Cmp, Floor, Ceil (written by genRc4.py). -/
import Derived.Test.YtjldogfpccbkeaaM4
import Derived.Test.YtjldogfpccbkeaaRaCm
import Derived.Test.YtjldogfpccbkeaaRc1
set_option linter.unusedVariables false
set_option linter.unusedSimpArgs false
namespace Go.Proofs.Ytjldogfpccbkeaa
open Go.RowKit
attribute [local go_sem] Oper.semAt_some

theorem mul_tdiv_range {n d : Int} (hd : 1 ≤ d) (hn : I64r n) : I64r (n.tdiv d * d) := by
  have h5 := Int.tmod_add_mul_tdiv n d
  rw [Int.mul_comm] at h5
  have h3 := Int.tmod_lt_of_pos n (show 0 < d by omega)
  obtain ⟨h1, h2⟩ := hn
  by_cases h0 : 0 ≤ n
  · have := Int.tmod_nonneg d h0
    have := Int.tdiv_nonneg h0 (show 0 ≤ d by omega)
    have := Int.mul_nonneg this (show 0 ≤ d by omega)
    exact ⟨by omega, by omega⟩
  · have := Int.tmod_nonneg d (show 0 ≤ -n by omega)
    rw [Int.neg_tmod] at this
    have h7 := Int.tdiv_nonneg (show 0 ≤ -n by omega) (show 0 ≤ d by omega)
    rw [Int.neg_tdiv] at h7
    have h8 := Int.mul_nonneg h7 (show 0 ≤ d by omega)
    rw [Int.neg_mul] at h8
    exact ⟨by omega, by omega⟩
set_option maxHeartbeats 2000000 in
theorem dceil_calls (n d : Int) (hok : RtOk n d) (hn : I64r n) (hd : I64r d) (w : World) : Calls Try.prog 38 #[rtv n d] w fun e w' => e = .returned (.int .i64 (-((-n) / d))) ∧ Fr0 w w' := by
  have HF := Lib.hid ((Fr.refl (fun _ => False) w).alloc (.cells (rtc n d) 27))
  obtain ⟨c0, c1, _, _⟩ := two_facts (heap_alloc_new w (.cells (rtc n d) 27))
  rw [tdiv_ceil hok.1]
  have hr := tdiv_range hok.1 hn
  have hr3 := mul_tdiv_range hok.1 hn
  have d1 : decide (d = 0) = false := decide_eq_false (by have := hok.1; omega)
  have d1n : (d == 0) = false := by simp; have := hok.1; omega
  have d2 : ¬ d = 0 := by have := hok.1; omega
  have e1 : IntKind.i64.wrap (n.tdiv d) = n.tdiv d := by rw [IntKind.wrap_i64]; have := hr.1; have := hr.2; omega
  have e1w := wrap64_id hr
  have e3w := wrap64_id hr3
  have h5 := Int.tmod_add_mul_tdiv n d
  rw [Int.mul_comm] at h5
  have e4 : 0 < n.tmod d → wrap64 (n.tdiv d + 1) = n.tdiv d + 1 := by
    intro h
    refine wrap64_id ?_
    have h6 : n.tdiv d ≠ -9223372036854775808 := by
      intro h7
      have := Int.natAbs_tdiv_le_natAbs n d
      have := hn.1; have := hn.2; have := hok.2.1; omega
    have h8 : n.tdiv d ≠ 9223372036854775807 ∨ 0 ≥ n.tmod d := by
      by_cases h7 : n.tdiv d = 9223372036854775807
      · right
        have := hn.2
        have h9 : n.tdiv d ≤ n.tdiv d * d := by
          have := Int.mul_le_mul_of_nonneg_left hok.1 (show 0 ≤ n.tdiv d by omega)
          rw [Int.mul_one] at this
          exact this
        omega
      · exact .inl h7
    have := hr.1; have := hr.2
    unfold I64r
    omega
  have hiff : decide (n.tdiv d * d < n) = decide (0 < n.tmod d) := decide_eq_decide.2 (by omega)
  clear hok hr hr3 h5
  by_cases hm : 0 < n.tmod d
  · have e5 := e4 hm
    rw [if_pos hm]
    rw [decide_eq_true hm] at hiff
    clear e4 hm
    go_enter Try.func38, Try.ntmps38
    go_wp2_with fail
    go_ret
    refine ⟨?_, HF.out⟩
    first
      | rfl
      | (show Ending.returned (.int .i64 (wrap64 (n.tdiv d + 1))) = _; rw [e5])
  · rw [if_neg hm]
    rw [decide_eq_false hm] at hiff
    clear e4 hm
    go_enter Try.func38, Try.ntmps38
    go_wp2_with fail
    go_ret
    exact ⟨rfl, HF.out⟩
set_option maxHeartbeats 2000000 in
set_option maxRecDepth 20000 in
theorem dcmp_calls (an ad bn be : Int) (ha : RtOk an ad) (hb : RtOk bn be) (ia : I64r an ∧ I64r ad) (ib : I64r bn ∧ I64r be) (w : World) :
    Calls Try.prog 24 #[rtv an ad, rtv bn be] w fun e w' => e = .returned (.int .i64 (cmpN an ad bn be)) ∧ Fr0 w w' := by
  have hmx : Try.prog.follows .mixedOrders = true := by kernel_rfl
  obtain ⟨a1, a2, a3⟩ := ha
  obtain ⟨b1, b2, b3⟩ := hb
  obtain ⟨ia1, ia2⟩ := ia
  obtain ⟨ib1, ib2⟩ := ib
  have wc : IntKind.u64.wrap ad = ((ad.natAbs : Nat) : Int) := u64_abs (by omega) ia2.2
  have wd : IntKind.u64.wrap be = ((be.natAbs : Nat) : Int) := u64_abs (by omega) ib2.2
  obtain ⟨A, hAe⟩ : ∃ A, A = an.natAbs := ⟨_, rfl⟩
  obtain ⟨B, hBe⟩ : ∃ B, B = bn.natAbs := ⟨_, rfl⟩
  obtain ⟨C, hCe⟩ : ∃ C, C = ad.natAbs := ⟨_, rfl⟩
  obtain ⟨D, hDe⟩ : ∃ D, D = be.natAbs := ⟨_, rfl⟩
  have HSA := Lib.hid (fun U => size_keep hAe ia1 U)
  have HSB := Lib.hid (fun U => size_keep hBe ib1 U)
  rw [← hCe] at wc; rw [← hDe] at wd
  have hA : A < 18446744073709551616 := by have := ia1.1; have := ia1.2; omega
  have hB : B < 18446744073709551616 := by have := ib1.1; have := ib1.2; omega
  have hC : C < 18446744073709551616 := by have := ia2.1; have := ia2.2; omega
  have hD : D < 18446744073709551616 := by have := ib2.1; have := ib2.2; omega
  have HL := Lib.hid (And.intro hA (And.intro hB (And.intro hC (And.intro hD trivial))))
  have HL2 := Lib.hid (show (bd A).length ≤ 400 ∧ (bd B).length ≤ 400 ∧ (bd C).length ≤ 400 ∧ (bd D).length ≤ 400 from by
    have := bd_small hA; have := bd_small hB; have := bd_small hC; have := bd_small hD
    omega)
  have HL3 := Lib.hid (show (bd (A * D)).length ≤ 1000 ∧ (bd (B * C)).length ≤ 1000 from by
    have := bd_mul hA hD; have := bd_mul hB hC
    omega)
  have HSG := Lib.hid (fun h => cmp_sign (an := an) (ad := ad) (bn := bn) (bd := be) a1 b1 h)
  have HSZ := Lib.hid (fun h => cmp_size (an := an) (ad := ad) (bn := bn) (bd := be) hAe hBe hCe hDe a1 b1 h)
  have hbA := blk_alloc (heap_alloc_new w (.cells (rtc an ad) 27)) (.cells (rtc bn be) 27)
  have hbB := heap_an (w := w.alloc (.cells (rtc an ad) 27)) (k := w.heap.size + 1) (.cells (rtc bn be) 27) (by simp)
  have HFW := Lib.hid (((Fr.refl (fun _ => False) w).alloc (.cells (rtc an ad) 27)).alloc (.cells (rtc bn be) 27))
  obtain ⟨p0, p1, _, _⟩ := two_facts hbA
  obtain ⟨q0, q1, _, _⟩ := two_facts hbB
  have HC2 := Lib.hid (And.intro (And.intro p0 p1) (And.intro q0 q1))
  clear hbA hbB p1 q1 p0 q0
  obtain ⟨ns, hns⟩ : ∃ c, c = cmpN an ad bn be := ⟨_, rfl⟩
  rw [← hns] at HSG HSZ ⊢
  clear hAe hBe hCe hDe a1 a2 a3 b1 b2 b3 ia1 ia2 ib1 ib2 hA hB hC hD hns
  go_enter Try.func24, Try.ntmps24
  go_upto_region 1 with fail
  generalize (w.alloc (.cells (rtc an ad) 27)).alloc (.cells (rtc bn be) 27) = w2 at *
  go_cut [5, 6] from 7 to 24 (fun s5 s6 wx => Hid (IsB wx s5 (A * D)) ∧ Hid (IsB wx s6 (B * C)) ∧ Hid (Fr0 w2 wx))
  case first =>
    refine wp_region_noPanic ?_
    refine takesL_ex [0, 1, 2, 4, 5, 6, 9, 10, 13, 14, 15] (fun U => Fr0 w2 U) (fun _ _ h k => h.trans k) (Fr.refl _ _) hmx (fun _ _ _ _ _ h => h) (by kernel_rfl) (by kernel_rfl) ?_
    apply Exists.intro
    refine ⟨fun W' hW' => ?_, ?_⟩
    · have r0 := cg_cell (W := W') (hW'.cell (HC2.out.1.1) (fun h => h))
      have r1 := cg_cell (W := W') (hW'.cell (HC2.out.1.2) (fun h => h))
      have r2 := cg_cell (W := W') (hW'.cell (HC2.out.2.1) (fun h => h))
      have r3 := cg_cell (W := W') (hW'.cell (HC2.out.2.2) (fun h => h))
      simp only [pickL, List.getElem?_cons_zero, List.getElem?_cons_succ]
      repeat (first
        | go_big_quiet_step (fail)
        | go_big_quiet_step (first
          | ((go_at_call 48; with_reducible exact quiet_cg (HSA.out _)))))
      exact wpQuiet_nil rfl
    · refine wpAnyG_rel (ds := [(3, some 10), (7, some 14), (8, some 15), (11, some 18), (12, some 19), (16, some 23), (17, some 24), (18, some 5), (19, some 6)]) (RelP (relS [(3, .inl A), (7, .inl D), (8, .inl (A * D)), (11, .inr (u64v B)), (12, .inl B), (16, .inl C), (17, .inl (B * C)), (18, .inl (A * D)), (19, .inl (B * C))])) (g := 0) rfl (by kernel_rfl) (fun _ _ h k => h.trans k) (Fr.refl _ _) (fun _ _ _ _ h k => h.kept k) ?_ ?_
      · intro q hq x U hRU hFU hd
        simp only [List.mem_cons, List.not_mem_nil, or_false] at hq
        rcases hq with rfl | rfl | rfl | rfl | rfl | rfl | rfl | rfl | rfl
        · exact rel_call 47 #[u64v A] rfl rfl (by kernel_rfl) (by kernel_rfl) (of_rel HL.out.1 U rfl)
        · exact rel_call 47 #[u64v D] rfl rfl (by kernel_rfl) (by kernel_rfl) (of_rel HL.out.2.2.2.1 U rfl)
        · have h3 : IsB U (x 3) A := hd 3 (by kernel_rfl) (by kernel_rfl)
          have h7 : IsB U (x 7) D := hd 7 (by kernel_rfl) (by kernel_rfl)
          exact rel_call 46 #[x 3, x 7] rfl rfl (by kernel_rfl) (by kernel_rfl) (mul_rel rfl h3 h7 HL2.out.1 HL2.out.2.2.2)
        · exact rel_call 48 #[.int .i64 bn] rfl rfl (by kernel_rfl) (by kernel_rfl) (val_rel rfl (HSB.out U))
        · have h11 : x 11 = u64v B := hd 11 (by kernel_rfl) (by kernel_rfl)
          exact rel_call 47 #[x 11] rfl rfl (by kernel_rfl) (by kernel_rfl) (of_rel2 h11 HL.out.2.1 U rfl)
        · exact rel_call 47 #[u64v C] rfl rfl (by kernel_rfl) (by kernel_rfl) (of_rel HL.out.2.2.1 U rfl)
        · have h12 : IsB U (x 12) B := hd 12 (by kernel_rfl) (by kernel_rfl)
          have h16 : IsB U (x 16) C := hd 16 (by kernel_rfl) (by kernel_rfl)
          exact rel_call 46 #[x 12, x 16] rfl rfl (by kernel_rfl) (by kernel_rfl) (mul_rel rfl h12 h16 HL2.out.2.1 HL2.out.2.2.1)
        · have h8 : IsB U (x 8) (A * D) := hd 8 (by kernel_rfl) (by kernel_rfl)
          exact rel_value (x 8) rfl rfl (by kernel_rfl) (by kernel_rfl) (h8)
        · have h17 : IsB U (x 17) (B * C) := hd 17 (by kernel_rfl) (by kernel_rfl)
          exact rel_value (x 17) rfl rfl (by kernel_rfl) (by kernel_rfl) (h17)
      · intro x U hRU hFU hp
        have hX : IsB U (x 18) (A * D) := hp (18, some 5) (by simp)
        have hY : IsB U (x 19) (B * C) := hp (19, some 6) (by simp)
        refine wpAnyG_done (by kernel_rfl) (fun V hV => ?_)
        refine NoPanic.normal ?_
        have HX := Lib.hid (hX.kept hV)
        have HY := Lib.hid (hY.kept hV)
        have HV := Lib.hid (hFU.trans hV)
        clear hp hX hY hRU hFU hV
        simp only [puts, Act.put, List.setIfInBounds_toArray, List.set_cons_zero, List.set_cons_succ]
        generalize x 18 = x18 at *
        generalize x 19 = x19 at *
        generalize x 3 = x3
        generalize x 7 = x7
        generalize x 8 = x8
        generalize x 11 = x11
        generalize x 12 = x12
        generalize x 16 = x16
        generalize x 17 = x17
        go_wp2_with fail
        go_meet
        exact ⟨HX, HY, HV⟩
  case rest =>
    obtain ⟨HX, HY, HF3⟩ := hcut
    obtain ⟨w3, hw3⟩ : ∃ w3, w3 = wc := ⟨_, rfl⟩
    subst hw3
    have a0 := HF3.out.cell HC2.out.1.1 (fun h => h)
    have b0 := HF3.out.cell HC2.out.2.1 (fun h => h)
    have HW3 := Lib.hid (HFW.out.trans HF3.out)
    have HLE := Lib.hid (fun U va vb (h1 : IsB U va (A * D)) (h2 : IsB U vb (B * C)) => bless_calls (A * D) (B * C) va vb U h1 h2 HL3.out.1 HL3.out.2)
    have HLF := Lib.hid (fun U va vb (h1 : IsB U va (B * C)) (h2 : IsB U vb (A * D)) => bless_calls (B * C) (A * D) va vb U h1 h2 HL3.out.2 HL3.out.1)
    clear HF3 HFW HC2 HSA HSB HL HL2 HL3
    generalize A * D = X at *
    generalize B * C = Y at *
    by_cases s1 : an < 0 <;> by_cases s2 : bn < 0
    · have g1 : decide (an < 0) = true := decide_eq_true s1
      have g2 : decide (bn < 0) = true := decide_eq_true s2
      have g3 : decide (0 ≤ an) = false := decide_eq_false (by omega)
      have g4 : decide (0 ≤ bn) = false := decide_eq_false (by omega)
      have hz := HSZ.out (by rw [g1, g2])
      rw [g1] at hz
      clear HSG HSZ s1 s2
      by_cases c1 : Y < X
      · have e1 : decide (Y < X) = true := decide_eq_true c1
        rw [if_neg (by omega)] at hz
        have hz2 : Hid (ns = -1) := by
          show _ = _
          rw [hz]
          rw [decide_eq_false (show ¬ X < Y by omega)]; rfl
        clear hz c1
        go_wp2_with (first | (go_at_call 49; (with_reducible refine (HLF.out _ _ _ (HY.out) (HX.out)).mono ?_); rintro _ w4 ⟨rfl, hf4⟩) | fail)
        go_ret
        rw [hz2.out]
        exact ⟨rfl, HW3.out.trans hf4⟩
      · have e1 : decide (Y < X) = false := decide_eq_false c1
        by_cases c2 : X < Y
        · have e2 : decide (X < Y) = true := decide_eq_true c2
          rw [if_neg (by omega)] at hz
          have hz2 : Hid (ns = 1) := by
            show _ = _
            rw [hz]
            rw [decide_eq_true c2]; rfl
          clear hz c1 c2
          go_wp2_with (first | (go_at_call 49; (with_reducible refine (HLE.out _ _ _ (HX.out.kept hf4) (HY.out.kept hf4)).mono ?_); rintro _ w5 ⟨rfl, hf5⟩) | (go_at_call 49; (with_reducible refine (HLF.out _ _ _ (HY.out) (HX.out)).mono ?_); rintro _ w4 ⟨rfl, hf4⟩) | fail)
          go_ret
          rw [hz2.out]
          exact ⟨rfl, (HW3.out.trans hf4).trans hf5⟩
        · have e2 : decide (X < Y) = false := decide_eq_false c2
          rw [if_pos (by omega)] at hz
          have hz2 := Lib.hid hz
          clear hz c1 c2
          go_wp2_with (first | (go_at_call 49; (with_reducible refine (HLE.out _ _ _ (HX.out.kept hf4) (HY.out.kept hf4)).mono ?_); rintro _ w5 ⟨rfl, hf5⟩) | (go_at_call 49; (with_reducible refine (HLF.out _ _ _ (HY.out) (HX.out)).mono ?_); rintro _ w4 ⟨rfl, hf4⟩) | fail)
          go_ret
          rw [hz2.out]
          exact ⟨rfl, (HW3.out.trans hf4).trans hf5⟩
    · have g1 : decide (an < 0) = true := decide_eq_true s1
      have g2 : decide (bn < 0) = false := decide_eq_false s2
      have g3 : decide (0 ≤ an) = false := decide_eq_false (by omega)
      have g4 : decide (0 ≤ bn) = true := decide_eq_true (by omega)
      have hz := HSG.out (by rw [g1, g2]; rfl)
      rw [if_pos s1] at hz
      have hz2 := Lib.hid hz
      clear hz HSG HSZ s1 s2
      go_wp2_with fail
      go_ret
      rw [hz2.out]
      exact ⟨rfl, HW3.out⟩
    · have g1 : decide (an < 0) = false := decide_eq_false s1
      have g2 : decide (bn < 0) = true := decide_eq_true s2
      have g3 : decide (0 ≤ an) = true := decide_eq_true (by omega)
      have g4 : decide (0 ≤ bn) = false := decide_eq_false (by omega)
      have hz := HSG.out (by rw [g1, g2]; rfl)
      rw [if_neg s1] at hz
      have hz2 := Lib.hid hz
      clear hz HSG HSZ s1 s2
      go_wp2_with fail
      go_ret
      rw [hz2.out]
      exact ⟨rfl, HW3.out⟩
    · have g1 : decide (an < 0) = false := decide_eq_false s1
      have g2 : decide (bn < 0) = false := decide_eq_false s2
      have g3 : decide (0 ≤ an) = true := decide_eq_true (by omega)
      have g4 : decide (0 ≤ bn) = true := decide_eq_true (by omega)
      have hz := HSZ.out (by rw [g1, g2])
      rw [g1] at hz
      clear HSG HSZ s1 s2
      by_cases c1 : X < Y
      · have e1 : decide (X < Y) = true := decide_eq_true c1
        rw [if_neg (by omega)] at hz
        have hz2 : Hid (ns = -1) := by
          show _ = _
          rw [hz]
          rw [decide_eq_true c1]; rfl
        clear hz c1
        go_wp2_with (first | (go_at_call 49; (with_reducible refine (HLE.out _ _ _ (HX.out) (HY.out)).mono ?_); rintro _ w4 ⟨rfl, hf4⟩) | fail)
        go_ret
        rw [hz2.out]
        exact ⟨rfl, HW3.out.trans hf4⟩
      · have e1 : decide (X < Y) = false := decide_eq_false c1
        by_cases c2 : Y < X
        · have e2 : decide (Y < X) = true := decide_eq_true c2
          rw [if_neg (by omega)] at hz
          have hz2 : Hid (ns = 1) := by
            show _ = _
            rw [hz]
            rw [decide_eq_false c1]; rfl
          clear hz c1 c2
          go_wp2_with (first | (go_at_call 49; (with_reducible refine (HLF.out _ _ _ (HY.out.kept hf4) (HX.out.kept hf4)).mono ?_); rintro _ w5 ⟨rfl, hf5⟩) | (go_at_call 49; (with_reducible refine (HLE.out _ _ _ (HX.out) (HY.out)).mono ?_); rintro _ w4 ⟨rfl, hf4⟩) | fail)
          go_ret
          rw [hz2.out]
          exact ⟨rfl, (HW3.out.trans hf4).trans hf5⟩
        · have e2 : decide (Y < X) = false := decide_eq_false c2
          rw [if_pos (by omega)] at hz
          have hz2 := Lib.hid hz
          clear hz c1 c2
          go_wp2_with (first | (go_at_call 49; (with_reducible refine (HLF.out _ _ _ (HY.out.kept hf4) (HX.out.kept hf4)).mono ?_); rintro _ w5 ⟨rfl, hf5⟩) | (go_at_call 49; (with_reducible refine (HLE.out _ _ _ (HX.out) (HY.out)).mono ?_); rintro _ w4 ⟨rfl, hf4⟩) | fail)
          go_ret
          rw [hz2.out]
          exact ⟨rfl, (HW3.out.trans hf4).trans hf5⟩
end Go.Proofs.Ytjldogfpccbkeaa
