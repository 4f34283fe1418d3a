/- Several texts in one: Rb6 Rb7 RbT RbU Rb8 Rb9 Rc0. -/
import Derived.Test.YtjldogfpccbkeaaM6
import Derived.Test.YtjldogfpccbkeaaM3
import Derived.Test.YtjldogfpccbkeaaM1
import Derived.Deep.RegionHeld3
import Derived.Test.YtjldogfpccbkeaaM6
import Derived.Test.YtjldogfpccbkeaaM4
import Derived.Test.YtjldogfpccbkeaaM4
/- Chapter 01, the document: gcd, number, size. -/
set_option linter.unusedVariables false
set_option linter.unusedSimpArgs false
namespace Go.Proofs.Ytjldogfpccbkeaa
open Go.RowKit
attribute [local go_sem] Oper.semAt_some

theorem IsB.inj {w : World} {v : Value} {n m : Nat} (h1 : IsB w v n) (h2 : IsB w v m) : n = m := by
  obtain ⟨A, c, rfl, _, hR⟩ := h1
  obtain ⟨A2, c2, e, _, hR2⟩ := h2
  simp only [Value.slice.injEq] at e
  obtain ⟨rfl, hl, rfl⟩ := e
  have : bd n = bd m := by
    refine List.ext_getElem hl (fun i h1 h2 => ?_)
    obtain ⟨b, o, rfl⟩ := hR.some_ (by rw [u32s_length]; omega)
    have c1 := rd_digit hR i h1
    have c2 := rd_digit hR2 i h2
    rw [c1] at c2
    have := Option.some.inj c2
    injection this with _ h
    omega
  rw [← bv_bd n, this, bv_bd]
open Classical in
/-- The number that a slice reads as. -/
noncomputable def numOf (w : World) (v : Value) : Nat := if h : ∃ n, IsB w v n then h.choose else 0
theorem numOf_eq {w : World} {v : Value} {n : Nat} (h : IsB w v n) : numOf w v = n := by
  unfold numOf
  rw [dif_pos ⟨n, h⟩]
  exact IsB.inj (Exists.choose_spec (⟨n, h⟩ : ∃ n, IsB w v n)) h
theorem gcd_calls (a b : Nat) (va vb : Value) (w : World) (ha : IsB w va a) (hb : IsB w vb b) (hla : (bd a).length ≤ 400) (hlb : (bd b).length ≤ 400) :
    Calls Try.prog 75 #[va, vb] w fun e w' => (∃ v, e = .returned v ∧ IsB w' v (Nat.gcd a b)) ∧ Fr0 w w' := by
  have HA := Lib.hid ha
  have HB := Lib.hid hb
  have HL := Lib.hid (And.intro hla hlb)
  clear ha hb hla hlb
  go_enter Try.func75, Try.ntmps75
  go_wp2_with fail
  go_loopw [0, 1] (fun s0 s1 wr => ∃ (x y : Nat), Hid (IsB wr s0 x) ∧ Hid (IsB wr s1 y) ∧ Hid (Nat.gcd x y = Nat.gcd a b) ∧ Hid ((bd x).length ≤ 400 ∧ (bd y).length ≤ 400) ∧ Hid (Fr0 w wr)) (fun _ s1 wr => numOf wr s1)
  case atStart => exact ⟨a, b, HA, HB, rfl, HL, Fr.refl _ _⟩
  case round =>
    clear HA HB HL
    obtain ⟨x, y, HX, HY, HG, HL, HF⟩ := hrel
    obtain ⟨A, c, rfl, hc, hR⟩ := HY.out
    clear hR
    rcases Nat.eq_zero_or_pos y with rfl | hy
    · have hg : x = Nat.gcd a b := by rw [← HG.out, Nat.gcd_zero_right]
      rw [bd_zero] at HY hc ⊢
      have HG2 := Lib.hid hg
      clear hg HG HL hc
      go_wp2_with fail
      go_ret
      exact ⟨⟨_, rfl, by rw [← HG2.out]; exact HX.out⟩, HF.out⟩
    · have hly : 0 < (bd y).length := by rw [bd_pos (by omega)]; simp
      have HNY := Lib.hid (numOf_eq HY.out)
      obtain ⟨ly, hl⟩ : ∃ l, l = (bd y).length := ⟨_, rfl⟩
      rw [← hl] at hly hc HY HNY ⊢
      have HLY := Lib.hid hl
      have hd1 : decide ((0 : Int) < (ly : Int)) = true := decide_eq_true (by omega)
      have hd2 : decide (0 < ly) = true := decide_eq_true (by omega)
      have HYP := Lib.hid hy
      clear hl hy
      go_wp2_with (first | (go_at_call 76; (with_reducible refine (bdiv_calls x y _ _ _ HYP.out HX.out HY.out HL.out.1 HL.out.2).mono ?_); rintro _ w5 ⟨⟨v1, v2, rfl, hv1, hv2⟩, hf5⟩; have HV1 := Lib.hid hv1; have HV2 := Lib.hid hv2; have HF5 := Lib.hid hf5; clear hv1 hv2 hf5) | fail)
      go_roundw
      case rel => exact ⟨y, x % y, HY.out.kept HF5.out, HV2, by rw [← HG.out, Nat.gcd_comm x y, Nat.gcd_rec y x, Nat.gcd_comm]; rfl, ⟨HL.out.2, Nat.le_trans (len_mono (Nat.le_of_lt (Nat.mod_lt _ HYP.out))) HL.out.2⟩, HF.out.trans HF5.out⟩
      case measure =>
        have h1 := numOf_eq HV2.out
        have h2 := Nat.mod_lt x HYP.out
        show numOf w5 v2 < numOf wr _
        rw [HNY.out, h1]
        exact h2
/-- A number of at most 63 bits. -/
theorem number_calls (a : Nat) (va : Value) (w : World) (ha : IsB w va a) (hla : (bd a).length ≤ 1000) :
    Calls Try.prog 77 #[va] w fun e w' => (∃ z : Int, e = .returned (.tuple #[.int .i64 z, .bool (decide (a ≤ 9223372036854775807))]) ∧ (a ≤ 9223372036854775807 → z = (a : Int))) ∧ Fr0 w w' := by
  obtain ⟨A, c, rfl, hc, hR⟩ := ha
  have HR := Lib.hid hR
  obtain ⟨la, hl⟩ : ∃ l, l = (bd a).length := ⟨_, rfl⟩
  rw [← hl] at hc hla ⊢
  have HLA := Lib.hid hl
  clear hl hR
  by_cases h4 : la ≤ 4
  · have hlt : a < 18446744073709551616 := by
      have := (bd_len_le a 4).1 (by rw [← HLA.out]; exact h4)
      have h : (65536 : Nat) ^ 4 = 18446744073709551616 := rfl
      omega
    have HLT := Lib.hid hlt
    have hwl : wrap64 ((la : Int) - 1) = (la : Int) - 1 := w64_id (by omega) (by omega)
    clear hlt
    obtain ⟨r, hr⟩ : ∃ r, r = decide (a ≤ 9223372036854775807) := ⟨_, rfl⟩
    rw [← hr]
    have HR2 := Lib.hid hr
    clear hr
    go_enter Try.func77, Try.ntmps77
    go_wp2_with fail
    go_loopw [4, 5] (fun s4 s5 wr => ∃ (k n : Nat), k ≤ la ∧ s4 = u64v n ∧ s5 = .int .i64 ((k : Int) - 1) ∧ Hid (n = a / 65536 ^ k) ∧ Hid (Fr0 w wr)) (fun _ s5 _ => (intOf s5 + 1).toNat)
    case atStart => exact ⟨la, 0, Nat.le_refl _, rfl, rfl, (Nat.div_eq_of_lt ((bd_len_le a la).1 (by rw [← HLA.out]; exact Nat.le_refl _))).symm, Fr.refl _ _⟩
    case round =>
      obtain ⟨k, n, hk, rfl, rfl, HN, HF⟩ := hrel
      rcases k with _ | k
      · have hn : n = a := by have := HN.out; simpa using this
        subst hn
        have hlt := HLT.out
        have hdd : decide ((n : Int) < 9223372036854775808) = decide (n ≤ 9223372036854775807) := decide_eq_decide.2 (by omega)
        have hdn : decide (n < 9223372036854775808) = decide (n ≤ 9223372036854775807) := decide_eq_decide.2 (by omega)
        have hrr := HR2.out
        rw [← hrr] at hdd hdn
        obtain ⟨z, hz⟩ : ∃ z, z = IntKind.i64.wrap (n : Int) := ⟨_, rfl⟩
        have HZ : Hid (n ≤ 9223372036854775807 → z = (n : Int)) := fun h => by rw [hz, IntKind.wrap_i64]; omega
        have hz3 := hz.symm
        have hz4 := hz3
        rw [IntKind.wrap_i64] at hz4
        clear HN hlt hrr hz
        go_wp2_with fail
        go_ret2
        exact ⟨⟨z, rfl, HZ.out⟩, HF.out⟩
      · have hr := HR.out.kept HF.out
        obtain ⟨b, off, rfl⟩ := hr.some_ (by rw [u32s_length, ← HLA.out]; omega)
        have d0 := rd_digit hr k (by rw [← HLA.out]; omega)
        rw [bd_get (by rw [← HLA.out]; omega)] at d0
        have hnx : a / 65536 ^ k = n * 65536 + a / 65536 ^ k % 65536 := by
          rw [HN.out, Nat.pow_succ, ← Nat.div_div_eq_div_mul]
          omega
        have hle : a / 65536 ^ k ≤ a := Nat.div_le_self _ _
        have hdl : a / 65536 ^ k % 65536 < 65536 := Nat.mod_lt _ (by omega)
        obtain ⟨d, hd⟩ : ∃ d, d = a / 65536 ^ k % 65536 := ⟨_, rfl⟩
        rw [← hd] at d0 hnx hdl
        have hlt := HLT.out
        obtain ⟨m, hm⟩ : ∃ m, m = n * 65536 := ⟨_, rfl⟩
        obtain ⟨m2, hm2⟩ : ∃ m2, m2 = m + d := ⟨_, rfl⟩
        have hml : m2 < 18446744073709551616 := by omega
        have hmm : m < 18446744073709551616 := by omega
        have HM2 : Hid (m2 = a / 65536 ^ k) := by show m2 = _; omega
        have e1 : ((k + 1 : Nat) : Int) - 1 = (k : Int) := by omega
        have e2 : (n : Int) * 65536 = (m : Int) := by omega
        have e3 : (m : Int) + (d : Int) = (m2 : Int) := by omega
        rw [e1]
        have hi1 : (0 : Int) ≤ (k : Int) := by omega
        have hi2 : (k : Int) < (la : Int) := by omega
        have hd1 : decide ((0 : Int) ≤ (k : Int)) = true := decide_eq_true hi1
        have hwk : wrap64 ((k : Int) - 1) = (k : Int) - 1 := w64_id (by omega) (by omega)
        clear hr hd hnx hle hlt hm hm2 e1 HN
        go_wp2_with fail
        go_roundw
        case rel => exact ⟨k, m2, by omega, rfl, rfl, HM2, HF⟩
        case measure => first | (simp [intOf]; done) | (simp [intOf]; omega)
  · have hbig : decide (a ≤ 9223372036854775807) = false := decide_eq_false (by
      have := (bd_len_lt a 4).1 (by rw [← HLA.out]; omega)
      have h : (65536 : Nat) ^ 4 = 18446744073709551616 := rfl
      omega)
    have HBG := Lib.hid (of_decide_eq_false hbig)
    rw [hbig]
    have hd1 : decide ((4 : Int) < (la : Int)) = true := decide_eq_true (by omega)
    have hd2 : decide (4 < la) = true := decide_eq_true (by omega)
    clear hbig
    go_enter Try.func77, Try.ntmps77
    go_wp2_with fail
    go_ret2
    exact ⟨⟨0, rfl, fun h => absurd h HBG.out⟩, Fr.refl _ _⟩
theorem size_calls (n : Int) (hn : I64r n) (w : World) : Calls Try.prog 48 #[.int .i64 n] w fun e w' => e = .returned (u64v n.natAbs) ∧ Fr0 w w' := by
  obtain ⟨h1, h2⟩ := hn
  by_cases h : n < 0
  · have hw : wrap64 (-1 - n) = -1 - n := w64_id (by omega) (by omega)
    have hz : (1 : Int) + (-1 - n) = (n.natAbs : Int) := by omega
    have hu : IntKind.u64.wrap (-1 - n) = -1 - n := by rw [IntKind.wrap_u64]; omega
    have hu2 : IntKind.u64.wrap ((n.natAbs : Int)) = (n.natAbs : Int) := by rw [IntKind.wrap_u64]; omega
    have hd : decide (n < 0) = true := decide_eq_true h
    obtain ⟨m, hm⟩ : ∃ m, m = n.natAbs := ⟨_, rfl⟩
    rw [← hm] at hz hu2 ⊢
    clear hm
    go_enter Try.func48, Try.ntmps48
    go_wp2_with fail
    go_ret
    exact ⟨rfl, Fr.refl _ _⟩
  · have hd : decide (n < 0) = false := decide_eq_false h
    have hu : IntKind.u64.wrap n = (n.natAbs : Int) := by rw [IntKind.wrap_u64]; omega
    obtain ⟨m, hm⟩ : ∃ m, m = n.natAbs := ⟨_, rfl⟩
    rw [← hm] at hu ⊢
    clear hm
    go_enter Try.func48, Try.ntmps48
    go_wp2_with fail
    go_ret
    exact ⟨rfl, Fr.refl _ _⟩
end Go.Proofs.Ytjldogfpccbkeaa

/- Chapter 01, the document: Frac. -/
set_option linter.unusedVariables false
set_option linter.unusedSimpArgs false
namespace Go.Proofs.Ytjldogfpccbkeaa
open Go.RowKit
attribute [local go_sem] Oper.semAt_some

/-- The fraction of two numbers, or why there is none. -/
def fracE (n : Nat) (below : Bool) (d : Nat) : Ra := if d = 0 then .error 2 else fracR n below d
theorem number_yes (a : Nat) (va : Value) (w : World) (ha : IsB w va a) (h : a ≤ 9223372036854775807) :
    Calls Try.prog 77 #[va] w fun e w' => e = .returned (.tuple #[.int .i64 (a : Int), .bool true]) ∧ Fr0 w w' := by
  refine (number_calls a va w ha ?_).mono ?_
  · have := (bd_len_le a 4).2 (by omega)
    omega
  · rintro e w' ⟨⟨z, rfl, hz⟩, hf⟩
    rw [hz h, decide_eq_true h]
    exact ⟨rfl, hf⟩
theorem number_no (a : Nat) (va : Value) (w : World) (ha : IsB w va a) (hla : (bd a).length ≤ 1000) (h : ¬ a ≤ 9223372036854775807) :
    Calls Try.prog 77 #[va] w fun e w' => (∃ z : Int, e = .returned (.tuple #[.int .i64 z, .bool false])) ∧ Fr0 w w' := by
  refine (number_calls a va w ha hla).mono ?_
  rintro e w' ⟨⟨z, rfl, hz⟩, hf⟩
  rw [decide_eq_false h]
  exact ⟨⟨z, rfl⟩, hf⟩
set_option maxHeartbeats 2000000 in
theorem frac_calls (n d : Nat) (below : Bool) (va vd : Value) (w : World) (ha : IsB w va n) (hd : IsB w vd d) (hla : (bd n).length ≤ 400) (hlb : (bd d).length ≤ 400) :
    Calls Try.prog 59 #[va, .bool below, vd] w fun e w' => e = .returned (tupR (fracE n below d)) ∧ Fr0 w w' := by
  have HA := Lib.hid ha
  have HF := Lib.hid ((Fr.refl (fun _ => False) w).alloc (.cells (rtc 0 0) 27))
  have HB := Lib.hid (heap_alloc_new w (.cells (rtc 0 0) 27))
  obtain ⟨c0, c1, z0, z1⟩ := two_facts HB.out
  have HD := Lib.hid hd
  obtain ⟨A, c, rfl, hc, hR⟩ := hd
  clear hR ha
  rcases Nat.eq_zero_or_pos d with rfl | hp
  · have HE : Hid (fracE n below 0 = .error 2) := if_pos rfl
    rw [bd_zero] at HD hc ⊢
    clear hla hlb hc
    go_enter Try.func59, Try.ntmps59
    go_wp2_with fail
    rw [HE.out]
    exact bodyPost_ret (results_row_tmp (p := 6) (u := 7) rfl _ _ w.heap.size _ _ _ _ rfl HB.out Try.underlying27 rfl (by kernel_rfl)) rfl ⟨rfl, HF.out⟩
  · have hld : 0 < (bd d).length := by rw [bd_pos (by omega)]; simp
    have hg0 : 0 < Nat.gcd n d := Nat.gcd_pos_of_pos_right _ hp
    have hgn : Nat.gcd n d ≤ d := Nat.gcd_le_right _ hp
    have HLN := Lib.hid (show (bd n).length ≤ 400 ∧ (bd d).length ≤ 400 ∧ (bd (Nat.gcd n d)).length ≤ 400 ∧ (bd (n / Nat.gcd n d)).length ≤ 1000 ∧ (bd (d / Nat.gcd n d)).length ≤ 1000 from by
      have h1 := len_mono hgn
      have h2 := len_mono (Nat.div_le_self n (Nat.gcd n d))
      have h3 := len_mono (Nat.div_le_self d (Nat.gcd n d))
      omega)
    have HG0 := Lib.hid hg0
    have HE : Hid (fracE n below d = toldR (n / Nat.gcd n d) below (d / Nat.gcd n d)) := if_neg (by omega)
    obtain ⟨ld, hl⟩ : ∃ l, l = (bd d).length := ⟨_, rfl⟩
    rw [← hl] at hld hc HD ⊢
    have hd1 : decide ((ld : Int) = 0) = false := decide_eq_false (by omega)
    have hd2 : ((ld : Int) == 0) = false := by simp; omega
    have hd3 : decide (ld = 0) = false := decide_eq_false (by omega)
    have HGC := Lib.hid (fun (U : World) (h1 : IsB U va n) (h2 : IsB U (.slice A ld c) d) => gcd_calls n d va _ U h1 h2 HLN.out.1 HLN.out.2.1)
    have HD1 := Lib.hid (fun (U : World) (v : Value) (h1 : IsB U va n) (h2 : IsB U v (Nat.gcd n d)) => bdiv_calls n (Nat.gcd n d) va v U HG0.out h1 h2 HLN.out.1 HLN.out.2.2.1)
    have HD22 := Lib.hid (fun (U : World) (v : Value) (h1 : IsB U (.slice A ld c) d) (h2 : IsB U v (Nat.gcd n d)) => bdiv_calls d (Nat.gcd n d) _ v U HG0.out h1 h2 HLN.out.2.1 HLN.out.2.2.1)
    have HA2 := Lib.hid (HA.out.kept HF.out)
    have HD2 := Lib.hid (HD.out.kept HF.out)
    have HLN := Lib.hid (And.intro HLN.out.2.2.2.1 HLN.out.2.2.2.2)
    generalize Nat.gcd n d = g at *
    generalize n / g = N at *
    generalize d / g = D at *
    clear hla hlb hp hg0 hgn hl HA HD HG0 hc hld
    unfold toldR at HE
    by_cases hc1 : N ≤ 9223372036854775807
    · by_cases hc2 : D ≤ 9223372036854775807
      · rw [if_pos ⟨hc2, hc1⟩] at HE
        have hwn : wrap64 (-(N : Int)) = -(N : Int) := w64_id (by omega) (by omega)
        rcases below with _ | _
        · have HE2 : Hid (fracE n false d = .ok ((N : Int), (D : Int))) := HE.out
          clear HE
          go_enter Try.func59, Try.ntmps59
          go_wp2_with (first
            | (go_at_call 75; (with_reducible refine (HGC.out _ HA2.out HD2.out).mono ?_); rintro _ w3 ⟨⟨v3, rfl, h3⟩, hf3⟩)
            | (go_at_call 76; (with_reducible refine (HD1.out _ _ (HA2.out.kept hf3) h3).mono ?_); rintro _ w4 ⟨⟨v4, v4b, rfl, h4, _⟩, hf4⟩)
            | (go_at_call 76; (with_reducible refine (HD22.out _ _ ((HD2.out.kept hf3).kept hf4) (h3.kept hf4)).mono ?_); rintro _ w5 ⟨⟨v5, v5b, rfl, h5, _⟩, hf5⟩)
            | (go_at_call 77; (with_reducible refine (number_yes _ _ _ (h4.kept hf5) hc1).mono ?_); rintro _ w6 ⟨rfl, hf6⟩)
            | (go_at_call 77; (with_reducible refine (number_yes _ _ _ (h5.kept hf6) hc2).mono ?_); rintro _ w7 ⟨rfl, hf7⟩; have hft := Lib.hid (HF.out.trans ((((hf3.trans hf4).trans hf5).trans hf6).trans hf7)); have hb7 := (((((hf3.trans hf4).trans hf5).trans hf6).trans hf7)).blk HB.out (fun h => h); obtain ⟨y0, y1, y2, y3⟩ := two_facts hb7; have HB7 := Lib.hid hb7; clear hb7)
            | fail)
          rw [HE2.out]
          exact bodyPost_ret (results_row_tmp (p := 6) (u := 7) rfl _ _ w.heap.size _ _ _ _ rfl (two_set HB7.out _ _) Try.underlying27 rfl (by kernel_rfl)) rfl ⟨rfl, two_fr hft.out (by simp) _ _⟩
        · have HE2 : Hid (fracE n true d = .ok (-(N : Int), (D : Int))) := HE.out
          clear HE
          go_enter Try.func59, Try.ntmps59
          go_wp2_with (first
            | (go_at_call 75; (with_reducible refine (HGC.out _ HA2.out HD2.out).mono ?_); rintro _ w3 ⟨⟨v3, rfl, h3⟩, hf3⟩)
            | (go_at_call 76; (with_reducible refine (HD1.out _ _ (HA2.out.kept hf3) h3).mono ?_); rintro _ w4 ⟨⟨v4, v4b, rfl, h4, _⟩, hf4⟩)
            | (go_at_call 76; (with_reducible refine (HD22.out _ _ ((HD2.out.kept hf3).kept hf4) (h3.kept hf4)).mono ?_); rintro _ w5 ⟨⟨v5, v5b, rfl, h5, _⟩, hf5⟩)
            | (go_at_call 77; (with_reducible refine (number_yes _ _ _ (h4.kept hf5) hc1).mono ?_); rintro _ w6 ⟨rfl, hf6⟩)
            | (go_at_call 77; (with_reducible refine (number_yes _ _ _ (h5.kept hf6) hc2).mono ?_); rintro _ w7 ⟨rfl, hf7⟩; have hft := Lib.hid (HF.out.trans ((((hf3.trans hf4).trans hf5).trans hf6).trans hf7)); have hb7 := (((((hf3.trans hf4).trans hf5).trans hf6).trans hf7)).blk HB.out (fun h => h); obtain ⟨y0, y1, y2, y3⟩ := two_facts hb7; have HB7 := Lib.hid hb7; clear hb7)
            | fail)
          rw [HE2.out]
          exact bodyPost_ret (results_row_tmp (p := 6) (u := 7) rfl _ _ w.heap.size _ _ _ _ rfl (two_set HB7.out _ _) Try.underlying27 rfl (by kernel_rfl)) rfl ⟨rfl, two_fr hft.out (by simp) _ _⟩
      · rw [if_neg (fun h => hc2 h.1)] at HE
        go_enter Try.func59, Try.ntmps59
        go_wp2_with (first
          | (go_at_call 75; (with_reducible refine (HGC.out _ HA2.out HD2.out).mono ?_); rintro _ w3 ⟨⟨v3, rfl, h3⟩, hf3⟩)
          | (go_at_call 76; (with_reducible refine (HD1.out _ _ (HA2.out.kept hf3) h3).mono ?_); rintro _ w4 ⟨⟨v4, v4b, rfl, h4, _⟩, hf4⟩)
          | (go_at_call 76; (with_reducible refine (HD22.out _ _ ((HD2.out.kept hf3).kept hf4) (h3.kept hf4)).mono ?_); rintro _ w5 ⟨⟨v5, v5b, rfl, h5, _⟩, hf5⟩)
          | (go_at_call 77; (with_reducible refine (number_yes _ _ _ (h4.kept hf5) hc1).mono ?_); rintro _ w6 ⟨rfl, hf6⟩)
          | (go_at_call 77; (with_reducible refine (number_no _ _ _ (h5.kept hf6) HLN.out.2 hc2).mono ?_); rintro _ w7 ⟨⟨z2, rfl⟩, hf7⟩; have hft := Lib.hid (HF.out.trans ((((hf3.trans hf4).trans hf5).trans hf6).trans hf7)); have hb7 := (((((hf3.trans hf4).trans hf5).trans hf6).trans hf7)).blk HB.out (fun h => h); obtain ⟨y0, y1, y2, y3⟩ := two_facts hb7; have HB7 := Lib.hid hb7; clear hb7)
          | fail)
        rw [HE.out]
        exact bodyPost_ret (results_row_tmp (p := 6) (u := 7) rfl _ _ w.heap.size _ _ _ _ rfl (two_set HB7.out _ _) Try.underlying27 rfl (by kernel_rfl)) rfl ⟨rfl, two_fr hft.out (by simp) _ _⟩
    · rw [if_neg (fun h => hc1 h.2)] at HE
      go_enter Try.func59, Try.ntmps59
      go_wp2_with (first
        | (go_at_call 75; (with_reducible refine (HGC.out _ HA2.out HD2.out).mono ?_); rintro _ w3 ⟨⟨v3, rfl, h3⟩, hf3⟩)
        | (go_at_call 76; (with_reducible refine (HD1.out _ _ (HA2.out.kept hf3) h3).mono ?_); rintro _ w4 ⟨⟨v4, v4b, rfl, h4, _⟩, hf4⟩)
        | (go_at_call 76; (with_reducible refine (HD22.out _ _ ((HD2.out.kept hf3).kept hf4) (h3.kept hf4)).mono ?_); rintro _ w5 ⟨⟨v5, v5b, rfl, h5, _⟩, hf5⟩)
        | (go_at_call 77; (with_reducible refine (number_no _ _ _ (h4.kept hf5) HLN.out.1 hc1).mono ?_); rintro _ w6 ⟨⟨z1, rfl⟩, hf6⟩)
        | (go_at_call 77; (with_reducible refine (number_calls _ _ _ (h5.kept hf6) HLN.out.2).mono ?_); rintro _ w7 ⟨⟨z2, rfl, hz2⟩, hf7⟩; clear hz2; generalize decide (D ≤ 9223372036854775807) = q2; have hft := Lib.hid (HF.out.trans ((((hf3.trans hf4).trans hf5).trans hf6).trans hf7)); have hb7 := (((((hf3.trans hf4).trans hf5).trans hf6).trans hf7)).blk HB.out (fun h => h); obtain ⟨y0, y1, y2, y3⟩ := two_facts hb7; have HB7 := Lib.hid hb7; clear hb7)
        | fail)
      rw [HE.out]
      exact bodyPost_ret (results_row_tmp (p := 6) (u := 7) rfl _ _ w.heap.size _ _ _ _ rfl (two_set HB7.out _ _) Try.underlying27 rfl (by kernel_rfl)) rfl ⟨rfl, two_fr hft.out (by simp) _ _⟩
end Go.Proofs.Ytjldogfpccbkeaa

/- Chapter 01, the document: tools for regions that call Of, Mul, Frac. -/
set_option linter.unusedVariables false
set_option linter.unusedSimpArgs false
namespace Go.Proofs.Ytjldogfpccbkeaa
open Go.RowKit
attribute [local go_sem] Oper.semAt_some

/-- What an operation leaves: a number, or a value. -/
def RelP (S : Nat → Nat ⊕ Value) (i : Nat) (v : Value) (U : World) : Prop :=
  match S i with
  | .inl n => IsB U v n
  | .inr u => v = u
theorem RelP.kept {S : Nat → Nat ⊕ Value} {i : Nat} {v : Value} {U V : World} (h : RelP S i v U) (hf : Fr0 U V) : RelP S i v V := by
  unfold RelP at *
  split
  · rename_i n e; rw [e] at h; exact h.kept hf
  · rename_i n e; rw [e] at h; exact h
/-- The properties of what is left, by a list. -/
def relS (l : List (Nat × (Nat ⊕ Value))) : Nat → Nat ⊕ Value := fun i => match l.find? (fun q => q.1 == i) with
  | some q => q.2
  | none => .inl 0
section
variable {P : Program} {ops : Array Oper} {Q : Exit → Act → World → Prop}
theorem rel_step {i : Nat} {o : Oper} {a a0 : Act} {d : Option Tmp} {U : World} {S : Nat → Nat ⊕ Value} (ho : ops[i]? = some o)
    (h : ∀ K' : Act → World → Prop, Shut (∀ v V, RelP S i v V → Fr0 U V → K' (a0.put d v) V) →
      if Region.wanted o (yielded ops a.tmps) = true then Oper.wp P o a U K' Q else K' (a.put o.dst undef) U) :
    wpOp P ops Q i (fun a' V => ∃ v, a' = a0.put d v ∧ RelP S i v V ∧ Fr0 U V) a U :=
  wpOp_step ho (fun K' hK => h K' (fun v V h1 h2 => hK _ _ ⟨v, rfl, h1, h2⟩))
end
theorem RtOk_iff (n d : Int) : RtOk n d ↔ (1 ≤ d ∧ n ≠ -9223372036854775808 ∧ Nat.gcd n.natAbs d.natAbs = 1) := Iff.rfl
theorem bd_one : bd 1 = [1] := by rw [bd_pos (by omega)]; simp [bd_zero]
end Go.Proofs.Ytjldogfpccbkeaa

/- Chapter 01, the document: steps of a region by what an operation runs to. -/
set_option linter.unusedVariables false
set_option linter.unusedSimpArgs false
namespace Go.Proofs.Ytjldogfpccbkeaa
open Go.RowKit
section
variable {P : Program} {ops : Array Oper} {Q : Exit → Act → World → Prop}
theorem rel_call {i : Nat} {o : Oper} {a : Act} {d : Option Tmp} {U : World} {S : Nat → Nat ⊕ Value} (f : FuncId) (args : Array Value) (ho : ops[i]? = some o) (hd : o.dst = d)
    (hw : Region.wanted o (yielded ops a.tmps) = true) (he : (execOp a.eval o).run P U = .ok (.enter f args) U)
    (h : Calls P f args U fun e V => ∃ v, e = .returned v ∧ RelP S i v V ∧ Fr0 U V) :
    wpOp P ops Q i (fun a' V => ∃ v, a' = a.put d v ∧ RelP S i v V ∧ Fr0 U V) a U := by
  unfold wpOp
  rw [ho]
  simp only [hw, if_true]
  refine .inl ?_
  unfold Oper.wp
  rw [he, Oper.upon_enter]
  refine h.mono ?_
  rintro e V ⟨v, rfl, h1, h2⟩
  exact ⟨v, by rw [hd], h1, h2⟩
theorem rel_value {i : Nat} {o : Oper} {a : Act} {d : Option Tmp} {U : World} {S : Nat → Nat ⊕ Value} (v : Value) (ho : ops[i]? = some o) (hd : o.dst = d)
    (hw : Region.wanted o (yielded ops a.tmps) = true) (he : (execOp a.eval o).run P U = .ok (.value v) U)
    (h : RelP S i v U) :
    wpOp P ops Q i (fun a' V => ∃ v, a' = a.put d v ∧ RelP S i v V ∧ Fr0 U V) a U := by
  unfold wpOp
  rw [ho]
  simp only [hw, if_true]
  refine .inl ?_
  unfold Oper.wp
  rw [he, Oper.upon_value]
  exact ⟨v, by rw [hd], h, Fr.refl _ _⟩
end
theorem of_rel {n : Nat} (hn : n < 18446744073709551616) (U : World) {S : Nat → Nat ⊕ Value} {i : Nat} (hS : S i = .inl n) :
    Calls Try.prog 47 #[u64v n] U fun e V => ∃ v, e = .returned v ∧ RelP S i v V ∧ Fr0 U V :=
  (rof_calls n hn U).mono (fun e V h => by
    obtain ⟨⟨v, rfl, hv⟩, hf⟩ := h
    exact ⟨v, rfl, by unfold RelP; rw [hS]; exact hv, hf⟩)
theorem of_rel2 {n : Nat} {u : Value} (hu : u = u64v n) (hn : n < 18446744073709551616) (U : World) {S : Nat → Nat ⊕ Value} {i : Nat} (hS : S i = .inl n) :
    Calls Try.prog 47 #[u] U fun e V => ∃ v, e = .returned v ∧ RelP S i v V ∧ Fr0 U V := by
  subst hu
  exact of_rel hn U hS
theorem mul_rel {n m : Nat} {va vb : Value} {U : World} {S : Nat → Nat ⊕ Value} {i : Nat} (hS : S i = .inl (n * m)) (ha : IsB U va n) (hb : IsB U vb m) (hn : (bd n).length ≤ 400) (hm : (bd m).length ≤ 400) :
    Calls Try.prog 46 #[va, vb] U fun e V => ∃ v, e = .returned v ∧ RelP S i v V ∧ Fr0 U V :=
  (bmul_calls n m va vb U ha hb hn hm).mono (fun e V h => by
    obtain ⟨⟨v, rfl, hv⟩, hf⟩ := h
    exact ⟨v, rfl, by unfold RelP; rw [hS]; exact hv.weak, hf⟩)
theorem size_rel {n : Int} {m : Nat} (hm : m = n.natAbs) (hn : I64r n) (U : World) {S : Nat → Nat ⊕ Value} {i : Nat} (hS : S i = .inr (u64v m)) :
    Calls Try.prog 48 #[.int .i64 n] U fun e V => ∃ v, e = .returned v ∧ RelP S i v V ∧ Fr0 U V :=
  (size_calls n hn U).mono (fun e V h => by
    obtain ⟨rfl, hf⟩ := h
    exact ⟨_, rfl, by unfold RelP; rw [hS, hm], hf⟩)
theorem size_keep {n : Int} {m : Nat} (hm : m = n.natAbs) (hn : I64r n) (U : World) : Calls Try.prog 48 #[.int .i64 n] U fun e w' => e = .returned (u64v m) ∧ Fr0 U w' := hm ▸ size_calls n hn U
theorem add_rel {n m : Nat} {va vb : Value} {U : World} {S : Nat → Nat ⊕ Value} {i : Nat} (hS : S i = .inl (n + m)) (ha : IsB U va n) (hb : IsB U vb m) (hn : (bd n).length ≤ 400) (hm : (bd m).length ≤ 400) :
    Calls Try.prog 61 #[va, vb] U fun e V => ∃ v, e = .returned v ∧ RelP S i v V ∧ Fr0 U V :=
  (badd_calls n m va vb U ha hb (by omega) (by omega)).mono (fun e V h => by
    obtain ⟨⟨v, rfl, hv⟩, hf⟩ := h
    exact ⟨v, rfl, by unfold RelP; rw [hS]; exact hv.weak, hf⟩)
theorem sub_rel {n m : Nat} {va vb : Value} {U : World} {S : Nat → Nat ⊕ Value} {i : Nat} (hS : S i = .inl (n - m)) (hle : m ≤ n) (ha : IsB U va n) (hb : IsB U vb m) (hn : (bd n).length ≤ 400) (hm : (bd m).length ≤ 400) :
    Calls Try.prog 62 #[va, vb] U fun e V => ∃ v, e = .returned v ∧ RelP S i v V ∧ Fr0 U V :=
  (bsub_calls n m va vb U hle ha hb (by omega) (by omega)).mono (fun e V h => by
    obtain ⟨⟨v, rfl, hv⟩, hf⟩ := h
    exact ⟨v, rfl, by unfold RelP; rw [hS]; exact hv.weak, hf⟩)
theorem val_rel {P : Program} {f : FuncId} {args : Array Value} {U : World} {r : Value} {S : Nat → Nat ⊕ Value} {i : Nat} (hS : S i = .inr r) (h : Calls P f args U fun e w' => e = .returned r ∧ Fr0 U w') :
    Calls P f args U fun e V => ∃ v, e = .returned v ∧ RelP S i v V ∧ Fr0 U V :=
  h.mono (fun e V h => by
    obtain ⟨rfl, hf⟩ := h
    exact ⟨_, rfl, by unfold RelP; rw [hS], hf⟩)
theorem run_ext0 {P : Program} {o : Oper} {ev : Operand → Value} {t : Operand} {v : Value} {a b k : Int} (U : World) (ho : o.op = .extract t 0) (he : ev t = v) (h : v = .tuple #[rtv a b, .int .i64 k]) :
    (execOp ev o).run P U = .ok (.value (rtv a b)) U := by
  subst h
  unfold execOp
  rw [ho]
  simp only [he]
  rfl
theorem run_ext1 {P : Program} {o : Oper} {ev : Operand → Value} {t : Operand} {v : Value} {a b k : Int} (U : World) (ho : o.op = .extract t 1) (he : ev t = v) (h : v = .tuple #[rtv a b, .int .i64 k]) :
    (execOp ev o).run P U = .ok (.value (.int .i64 k)) U := by
  subst h
  unfold execOp
  rw [ho]
  simp only [he]
  rfl
section
variable {P : Program} {md : Region.Mode} {ops : Array Oper} {Q : Exit → Act → World → Prop} {R : World → Prop}
/-- An operation that yields a value and turns nothing is next. -/
theorem allG_value {f i : Nat} {listed : Array Bool} {a : Act} {W : World} {o : Oper} {rs : List Nat} (d : Option Tmp) (v : Value) (hd : o.dst = d) (ho : ops[i]? = some o) (hw : Region.wanted o (yielded ops a.tmps) = true)
    (he : ∀ U, (execOp a.eval o).run P U = .ok (.value v) U)
    (h : ∀ U, Fr0 W U → R U ∧ wpAnyG P md ops Q R f (listed.setIfInBounds i true) (a.put d v) U)
    (hs : AllG P md ops Q R f listed a W rs) : AllG P md ops Q R f listed a W (i :: rs) := by
  subst hd
  refine AllG.cons ho (fun U hU K hK => ?_) hs
  rw [if_pos hw]
  unfold Oper.wp
  rw [he U, Oper.upon_value]
  exact hK.out _ _ ⟨U, (h U hU).1, Fr.refl _ _, (h U hU).2⟩
/-- An operation that turns the world is next. -/
theorem allG_turn {f i : Nat} {listed : Array Bool} {a : Act} {W : World} {o : Oper} {rs : List Nat} (T : World → World) (ho : ops[i]? = some o) (hw : Region.wanted o (yielded ops a.tmps) = true) (hd : o.dst = none)
    (he : ∀ U, Fr0 W U → (execOp a.eval o).run P U = .ok .skip (T U))
    (h : ∀ U, Fr0 W U → R (T U) ∧ wpAnyG P md ops Q R f (listed.setIfInBounds i true) a (T U))
    (hs : AllG P md ops Q R f listed a W rs) : AllG P md ops Q R f listed a W (i :: rs) := by
  refine AllG.cons ho (fun U hU K hK => ?_) hs
  rw [if_pos hw]
  unfold Oper.wp
  rw [he U hU, Oper.upon_skip, hd]
  exact hK.out _ _ ⟨T U, (h U hU).1, Fr.refl _ _, (h U hU).2⟩
end
/-- A fraction, laid into its two cells. -/
def ratAt (b : Nat) (x y : Int) (U : World) : World := (U.setCell ⟨b, 0, none⟩ (.int .i64 x)).setCell ⟨b, 1, none⟩ (.int .i64 y)
theorem fr_ratAt {S : Nat → Prop} {a U : World} {b : Nat} (h : Fr S a U) (hb : b < a.heap.size → S b) (x y : Int) : Fr S a (ratAt b x y U) :=
  (h.setCell (p := ⟨b, 0, none⟩) hb _).setCell (p := ⟨b, 1, none⟩) hb _
theorem run_store {o : Oper} {ev : Operand → Value} {p q : Operand} {b : Nat} {x y : Int} {v1 v2 : Value} {U : World} {m n : Int} (ho : o.op = .store 27 p q) (h1 : ev p = v1) (e1 : v1 = .pointer (some ⟨b, 0, none⟩)) (h2 : ev q = v2) (e2 : v2 = rtv x y)
    (hb : U.heap[b]? = some (.cells (rtc m n) 27 (0, 0))) :
    (execOp ev o).run Try.prog U = .ok .skip (ratAt b x y U) := by
  subst e1; subst e2
  obtain ⟨c0, c1, f0, f1⟩ := two_facts hb
  unfold execOp
  rw [ho]
  simp only [h1, h2]
  go_simp
  rfl
section
variable {P : Program} {md : Region.Mode} {ops : Array Oper} {Q : Exit → Act → World → Prop} {R : World → Prop}
/-- An operation that makes a block is next. -/
theorem allG_make {f i : Nat} {listed : Array Bool} {a : Act} {W : World} {o : Oper} {rs : List Nat} (d : Option Tmp) (x : Obj) (hd : o.dst = d) (ho : ops[i]? = some o) (hw : Region.wanted o (yielded ops a.tmps) = true)
    (he : ∀ U : World, (execOp a.eval o).run P U = .ok (.value (.pointer (some ⟨U.heap.size, 0, none⟩))) (U.alloc x))
    (h : ∀ U, Fr0 W U → R (U.alloc x) ∧ wpAnyG P md ops Q R f (listed.setIfInBounds i true) (a.put d (.pointer (some ⟨U.heap.size, 0, none⟩))) (U.alloc x))
    (hs : AllG P md ops Q R f listed a W rs) : AllG P md ops Q R f listed a W (i :: rs) := by
  subst hd
  refine AllG.cons ho (fun U hU K hK => ?_) hs
  rw [if_pos hw]
  unfold Oper.wp
  rw [he U, Oper.upon_value]
  exact hK.out _ _ ⟨U.alloc x, (h U hU).1, Fr.refl _ _, (h U hU).2⟩
end
theorem run_alloc {o : Oper} {ev : Operand → Value} (ho : o.op = .alloc 27) (U : World) :
    (execOp ev o).run Try.prog U = .ok (.value (.pointer (some ⟨U.heap.size, 0, none⟩))) (U.alloc (.cells (rtc 0 0) 27)) := by
  unfold execOp
  rw [ho]
  go_simp
end Go.Proofs.Ytjldogfpccbkeaa

/- Chapter 01, the document: Right. -/
set_option linter.unusedVariables false
set_option linter.unusedSimpArgs false
namespace Go.Proofs.Ytjldogfpccbkeaa
open Go.RowKit
attribute [local go_sem] Oper.semAt_some

end Go.Proofs.Ytjldogfpccbkeaa

/- Chapter 01, the document: Make (written by genRb9.py). -/
set_option linter.unusedVariables false
set_option linter.unusedSimpArgs false
namespace Go.Proofs.Ytjldogfpccbkeaa
open Go.RowKit
attribute [local go_sem] Oper.semAt_some

abbrev tupv (a b k : Int) : Value := .tuple #[rtv a b, .int .i64 k]
theorem makeR_frac (n d : Int) : makeR n d = fracE n.natAbs (!decide (n = 0) && (decide (n < 0) != decide (d < 0))) d.natAbs := by
  unfold fracE
  by_cases h : d = 0
  · subst h; show _ = ite (0 = 0) _ _; rw [if_pos rfl]; rfl
  · rw [if_neg (by omega), makeR_eq n d h]
    congr 1
    rw [Bool.and_comm]
    congr 1
    by_cases h0 : n = 0 <;> simp [h0]
theorem bd_small {n : Nat} (h : n < 18446744073709551616) : (bd n).length ≤ 4 := (bd_len_le n 4).2 (by omega)
set_option maxHeartbeats 4000000 in
theorem make_calls (n d : Int) (hn : I64r n) (hd : I64r d) (w : World) : Calls Try.prog 37 #[.int .i64 n, .int .i64 d] w fun e w' => e = .returned (tupR (makeR n d)) ∧ Fr0 w w' := by
  have hmx : Try.prog.follows .mixedOrders = true := by kernel_rfl
  have HSN := Lib.hid (fun U => size_calls n hn U)
  have HSD := Lib.hid (fun U => size_calls d hd U)
  have HF := Lib.hid ((Fr.refl (fun _ => False) w).alloc (.cells (rtc 0 0) 27))
  have HB := Lib.hid (heap_alloc_new w (.cells (rtc 0 0) 27))
  have hA : n.natAbs < 18446744073709551616 := by have := hn.1; have := hn.2; omega
  have hD : d.natAbs < 18446744073709551616 := by have := hd.1; have := hd.2; omega
  rw [makeR_frac]
  have HFR := Lib.hid (fun (below : Bool) (U : World) (va vd : Value) (h1 : IsB U va n.natAbs) (h2 : IsB U vd d.natAbs) => frac_calls n.natAbs d.natAbs below va vd U h1 h2 (by have := bd_small hA; omega) (by have := bd_small hD; omega))
  generalize n.natAbs = A at *
  generalize d.natAbs = D at *
  have HL := Lib.hid (And.intro hA (And.intro hD trivial))
  clear hA hD
  unfold tupR at HFR ⊢
  by_cases h0 : n = 0
  · have e0 : (!decide (n = 0) && (decide (n < 0) != decide (d < 0))) = false := by simp [h0]
    rw [e0]
    subst h0
    have HFR := Lib.hid (HFR.out false)
    clear e0
    generalize rN (fracE A false D) = a at *
    generalize rD (fracE A false D) = b at *
    generalize rE (fracE A false D) = k at *
    go_enter Try.func37, Try.ntmps37
    go_wp2_with (first
      | (go_at_call 48; (with_reducible refine (HSN.out _).mono ?_); rintro _ w3 ⟨rfl, hf3⟩)
      | (go_at_call 47; (with_reducible refine (rof_calls A HL.out.1 _).mono ?_); rintro _ w4 ⟨⟨v4, rfl, h4⟩, hf4⟩)
      | (go_at_call 48; (with_reducible refine (HSD.out _).mono ?_); rintro _ w5 ⟨rfl, hf5⟩)
      | (go_at_call 47; (with_reducible refine (rof_calls D HL.out.2.1 _).mono ?_); rintro _ w6 ⟨⟨v6, rfl, h6⟩, hf6⟩)
      | (go_at_call 59; (with_reducible refine (HFR.out _ _ _ ((h4.kept hf5).kept hf6) h6).mono ?_); rintro _ w7 ⟨rfl, hf7⟩; have hb7 := (((((hf3.trans hf4).trans hf5).trans hf6).trans hf7)).blk HB.out (fun h => h); obtain ⟨_, _, f0, f1⟩ := two_facts hb7)
      | fail)
    exact bodyPost_ret (results_row_tmp (p := 4) (u := 5) rfl _ _ w.heap.size _ _ _ _ rfl (two_set hb7 _ _) Try.underlying27 rfl (by kernel_rfl)) rfl ⟨rfl, two_fr (HF.out.trans ((((hf3.trans hf4).trans hf5).trans hf6).trans hf7)) (by simp) _ _⟩
  · by_cases h1 : n < 0 <;> by_cases h2 : d < 0
    · have g0 : decide (n = 0) = false := decide_eq_false h0
      have g1 : decide (n < 0) = true := decide_eq_true h1
      have g2 : decide (d < 0) = true := decide_eq_true h2
      have e0 : (!decide (n = 0) && (decide (n < 0) != decide (d < 0))) = false := by rw [g0, g1, g2]; rfl
      rw [e0]
      have g3 : (n == 0) = false := by simpa using h0
      have g4 : (n != 0) = true := by simpa using h0
      have HFR := Lib.hid (HFR.out false)
      clear e0 h1 h2
      generalize rN (fracE A false D) = a at *
      generalize rD (fracE A false D) = b at *
      generalize rE (fracE A false D) = k at *
      go_enter Try.func37, Try.ntmps37
      go_wp2_with (first
        | (go_at_call 48; (with_reducible refine (HSN.out _).mono ?_); rintro _ w3 ⟨rfl, hf3⟩)
        | (go_at_call 47; (with_reducible refine (rof_calls A HL.out.1 _).mono ?_); rintro _ w4 ⟨⟨v4, rfl, h4⟩, hf4⟩)
        | (go_at_call 48; (with_reducible refine (HSD.out _).mono ?_); rintro _ w5 ⟨rfl, hf5⟩)
        | (go_at_call 47; (with_reducible refine (rof_calls D HL.out.2.1 _).mono ?_); rintro _ w6 ⟨⟨v6, rfl, h6⟩, hf6⟩)
        | (go_at_call 59; (with_reducible refine (HFR.out _ _ _ ((h4.kept hf5).kept hf6) h6).mono ?_); rintro _ w7 ⟨rfl, hf7⟩; have hb7 := (((((hf3.trans hf4).trans hf5).trans hf6).trans hf7)).blk HB.out (fun h => h); obtain ⟨_, _, f0, f1⟩ := two_facts hb7)
        | fail)
      exact bodyPost_ret (results_row_tmp (p := 4) (u := 5) rfl _ _ w.heap.size _ _ _ _ rfl (two_set hb7 _ _) Try.underlying27 rfl (by kernel_rfl)) rfl ⟨rfl, two_fr (HF.out.trans ((((hf3.trans hf4).trans hf5).trans hf6).trans hf7)) (by simp) _ _⟩
    · have g0 : decide (n = 0) = false := decide_eq_false h0
      have g1 : decide (n < 0) = true := decide_eq_true h1
      have g2 : decide (d < 0) = false := decide_eq_false h2
      have e0 : (!decide (n = 0) && (decide (n < 0) != decide (d < 0))) = true := by rw [g0, g1, g2]; rfl
      rw [e0]
      have g3 : (n == 0) = false := by simpa using h0
      have g4 : (n != 0) = true := by simpa using h0
      have HFR := Lib.hid (HFR.out true)
      clear e0 h1 h2
      generalize rN (fracE A true D) = a at *
      generalize rD (fracE A true D) = b at *
      generalize rE (fracE A true D) = k at *
      go_enter Try.func37, Try.ntmps37
      go_wp2_with (first
        | (go_at_call 48; (with_reducible refine (HSN.out _).mono ?_); rintro _ w3 ⟨rfl, hf3⟩)
        | (go_at_call 47; (with_reducible refine (rof_calls A HL.out.1 _).mono ?_); rintro _ w4 ⟨⟨v4, rfl, h4⟩, hf4⟩)
        | (go_at_call 48; (with_reducible refine (HSD.out _).mono ?_); rintro _ w5 ⟨rfl, hf5⟩)
        | (go_at_call 47; (with_reducible refine (rof_calls D HL.out.2.1 _).mono ?_); rintro _ w6 ⟨⟨v6, rfl, h6⟩, hf6⟩)
        | (go_at_call 59; (with_reducible refine (HFR.out _ _ _ ((h4.kept hf5).kept hf6) h6).mono ?_); rintro _ w7 ⟨rfl, hf7⟩; have hb7 := (((((hf3.trans hf4).trans hf5).trans hf6).trans hf7)).blk HB.out (fun h => h); obtain ⟨_, _, f0, f1⟩ := two_facts hb7)
        | fail)
      exact bodyPost_ret (results_row_tmp (p := 4) (u := 5) rfl _ _ w.heap.size _ _ _ _ rfl (two_set hb7 _ _) Try.underlying27 rfl (by kernel_rfl)) rfl ⟨rfl, two_fr (HF.out.trans ((((hf3.trans hf4).trans hf5).trans hf6).trans hf7)) (by simp) _ _⟩
    · have g0 : decide (n = 0) = false := decide_eq_false h0
      have g1 : decide (n < 0) = false := decide_eq_false h1
      have g2 : decide (d < 0) = true := decide_eq_true h2
      have e0 : (!decide (n = 0) && (decide (n < 0) != decide (d < 0))) = true := by rw [g0, g1, g2]; rfl
      rw [e0]
      have g3 : (n == 0) = false := by simpa using h0
      have g4 : (n != 0) = true := by simpa using h0
      have HFR := Lib.hid (HFR.out true)
      clear e0 h1 h2
      generalize rN (fracE A true D) = a at *
      generalize rD (fracE A true D) = b at *
      generalize rE (fracE A true D) = k at *
      go_enter Try.func37, Try.ntmps37
      go_wp2_with (first
        | (go_at_call 48; (with_reducible refine (HSN.out _).mono ?_); rintro _ w3 ⟨rfl, hf3⟩)
        | (go_at_call 47; (with_reducible refine (rof_calls A HL.out.1 _).mono ?_); rintro _ w4 ⟨⟨v4, rfl, h4⟩, hf4⟩)
        | (go_at_call 48; (with_reducible refine (HSD.out _).mono ?_); rintro _ w5 ⟨rfl, hf5⟩)
        | (go_at_call 47; (with_reducible refine (rof_calls D HL.out.2.1 _).mono ?_); rintro _ w6 ⟨⟨v6, rfl, h6⟩, hf6⟩)
        | (go_at_call 59; (with_reducible refine (HFR.out _ _ _ ((h4.kept hf5).kept hf6) h6).mono ?_); rintro _ w7 ⟨rfl, hf7⟩; have hb7 := (((((hf3.trans hf4).trans hf5).trans hf6).trans hf7)).blk HB.out (fun h => h); obtain ⟨_, _, f0, f1⟩ := two_facts hb7)
        | fail)
      exact bodyPost_ret (results_row_tmp (p := 4) (u := 5) rfl _ _ w.heap.size _ _ _ _ rfl (two_set hb7 _ _) Try.underlying27 rfl (by kernel_rfl)) rfl ⟨rfl, two_fr (HF.out.trans ((((hf3.trans hf4).trans hf5).trans hf6).trans hf7)) (by simp) _ _⟩
    · have g0 : decide (n = 0) = false := decide_eq_false h0
      have g1 : decide (n < 0) = false := decide_eq_false h1
      have g2 : decide (d < 0) = false := decide_eq_false h2
      have e0 : (!decide (n = 0) && (decide (n < 0) != decide (d < 0))) = false := by rw [g0, g1, g2]; rfl
      rw [e0]
      have g3 : (n == 0) = false := by simpa using h0
      have g4 : (n != 0) = true := by simpa using h0
      have HFR := Lib.hid (HFR.out false)
      clear e0 h1 h2
      generalize rN (fracE A false D) = a at *
      generalize rD (fracE A false D) = b at *
      generalize rE (fracE A false D) = k at *
      go_enter Try.func37, Try.ntmps37
      go_wp2_with (first
        | (go_at_call 48; (with_reducible refine (HSN.out _).mono ?_); rintro _ w3 ⟨rfl, hf3⟩)
        | (go_at_call 47; (with_reducible refine (rof_calls A HL.out.1 _).mono ?_); rintro _ w4 ⟨⟨v4, rfl, h4⟩, hf4⟩)
        | (go_at_call 48; (with_reducible refine (HSD.out _).mono ?_); rintro _ w5 ⟨rfl, hf5⟩)
        | (go_at_call 47; (with_reducible refine (rof_calls D HL.out.2.1 _).mono ?_); rintro _ w6 ⟨⟨v6, rfl, h6⟩, hf6⟩)
        | (go_at_call 59; (with_reducible refine (HFR.out _ _ _ ((h4.kept hf5).kept hf6) h6).mono ?_); rintro _ w7 ⟨rfl, hf7⟩; have hb7 := (((((hf3.trans hf4).trans hf5).trans hf6).trans hf7)).blk HB.out (fun h => h); obtain ⟨_, _, f0, f1⟩ := two_facts hb7)
        | fail)
      exact bodyPost_ret (results_row_tmp (p := 4) (u := 5) rfl _ _ w.heap.size _ _ _ _ rfl (two_set hb7 _ _) Try.underlying27 rfl (by kernel_rfl)) rfl ⟨rfl, two_fr (HF.out.trans ((((hf3.trans hf4).trans hf5).trans hf6).trans hf7)) (by simp) _ _⟩
end Go.Proofs.Ytjldogfpccbkeaa

/- Plain: the document's sums, products, quotients, comparisons of fractions. -/
set_option linter.unusedVariables false
set_option linter.unusedSimpArgs false
namespace Go.Proofs.Ytjldogfpccbkeaa

theorem fracE_eq (t : Nat) (below : Bool) (d : Nat) (hd : d ≠ 0) : fracE t below d = rR (mkRat (sgn t below) d) := by
  unfold fracE
  rw [if_neg hd, fracR_eq t below d hd]
theorem frac_sum {an ad bn bd : Int} {t C D : Nat} {below : Bool} (hC : C = ad.natAbs) (hD : D = bd.natAbs) (c1 : 1 ≤ ad) (c2 : 1 ≤ bd) (h : sgn t below = an * bd + bn * ad) :
    fracE t below (C * D) = rR (rq an ad + rq bn bd) := by
  have e1 : (D : Int) = bd := by omega
  have e2 : (C : Int) = ad := by omega
  rw [fracE_eq _ _ _ (Nat.mul_ne_zero (by omega) (by omega)), h]
  unfold rq
  rw [Rat.mkRat_add_mkRat _ _ (by omega) (by omega), ← hC, ← hD, e1, e2]
/-- A number and its sign. -/
theorem sgn_abs (n : Int) : sgn n.natAbs (decide (n < 0)) = n := by
  unfold sgn
  by_cases h : n < 0 <;> simp [h] <;> omega
theorem sgn_mul (a b : Nat) (p q : Bool) : sgn a p * sgn b q = sgn (a * b) (p != q) := by
  unfold sgn
  cases p <;> cases q <;> simp [Int.neg_mul, Int.mul_neg]
theorem sgn_zero (p : Bool) : sgn 0 p = 0 := by unfold sgn; cases p <;> rfl
theorem sum_same {an ad bn bd : Int} {A B C D : Nat} (hA : A = an.natAbs) (hB : B = bn.natAbs) (hC : C = ad.natAbs) (hD : D = bd.natAbs) (c1 : 1 ≤ ad) (c2 : 1 ≤ bd) (s : decide (an < 0) = decide (bn < 0)) :
    fracE (A * D + B * C) (decide (an < 0)) (C * D) = rR (rq an ad + rq bn bd) := by
  refine frac_sum hC hD c1 c2 ?_
  have e1 : bd = sgn D false := by unfold sgn; simp; omega
  have e2 : ad = sgn C false := by unfold sgn; simp; omega
  conv => rhs; rw [← sgn_abs an, ← sgn_abs bn, ← hA, ← hB, e1, e2, sgn_mul, sgn_mul, ← s]
  unfold sgn
  cases decide (an < 0) <;> simp <;> omega
theorem sum_less {an ad bn bd : Int} {A B C D : Nat} (hA : A = an.natAbs) (hB : B = bn.natAbs) (hC : C = ad.natAbs) (hD : D = bd.natAbs) (c1 : 1 ≤ ad) (c2 : 1 ≤ bd) (s : decide (an < 0) ≠ decide (bn < 0)) (h : A * D < B * C) :
    fracE (B * C - A * D) (decide (bn < 0)) (C * D) = rR (rq an ad + rq bn bd) := by
  refine frac_sum hC hD c1 c2 ?_
  have e1 : bd = sgn D false := by unfold sgn; simp; omega
  have e2 : ad = sgn C false := by unfold sgn; simp; omega
  have e3 : decide (an < 0) = !decide (bn < 0) := by revert s; cases decide (an < 0) <;> cases decide (bn < 0) <;> simp
  conv => rhs; rw [← sgn_abs an, ← sgn_abs bn, ← hA, ← hB, e1, e2, sgn_mul, sgn_mul, e3]
  unfold sgn
  have e4 : ((B * C - A * D : Nat) : Int) = ((B * C : Nat) : Int) - ((A * D : Nat) : Int) := by omega
  cases decide (bn < 0) <;> simp only [Bool.not_false, Bool.not_true, Bool.false_eq_true, if_false, if_true, bne_self_eq_false, Bool.bne_false, e4] <;> omega
theorem sum_more {an ad bn bd : Int} {A B C D : Nat} (hA : A = an.natAbs) (hB : B = bn.natAbs) (hC : C = ad.natAbs) (hD : D = bd.natAbs) (c1 : 1 ≤ ad) (c2 : 1 ≤ bd) (s : decide (an < 0) ≠ decide (bn < 0)) (h : B * C ≤ A * D) :
    fracE (A * D - B * C) (decide (an < 0) && decide (0 < A * D - B * C)) (C * D) = rR (rq an ad + rq bn bd) := by
  refine frac_sum hC hD c1 c2 ?_
  have e1 : bd = sgn D false := by unfold sgn; simp; omega
  have e2 : ad = sgn C false := by unfold sgn; simp; omega
  have e3 : decide (bn < 0) = !decide (an < 0) := by revert s; cases decide (an < 0) <;> cases decide (bn < 0) <;> simp
  conv => rhs; rw [← sgn_abs an, ← sgn_abs bn, ← hA, ← hB, e1, e2, sgn_mul, sgn_mul, e3]
  have e4 : ((A * D - B * C : Nat) : Int) = ((A * D : Nat) : Int) - ((B * C : Nat) : Int) := by omega
  by_cases h0 : 0 < A * D - B * C
  · rw [decide_eq_true h0]
    unfold sgn
    cases decide (an < 0) <;> simp only [Bool.true_and, Bool.false_and, Bool.not_false, Bool.not_true, Bool.false_eq_true, if_false, if_true, bne_self_eq_false, Bool.bne_false, e4] <;> omega
  · rw [decide_eq_false h0, show A * D - B * C = 0 by omega, sgn_zero]
    unfold sgn
    cases decide (an < 0) <;> simp only [Bool.not_false, Bool.not_true, Bool.false_eq_true, if_false, if_true, bne_self_eq_false, Bool.bne_false] <;> omega
theorem frac_prod {an bn : Int} {A B D E : Nat} (hA : A = an.natAbs) (hB : B = bn.natAbs) (hD : 0 < D) (hE : 0 < E) :
    fracE (A * B) (decide (0 < A * B) && (decide (an < 0) != decide (bn < 0))) (D * E) = rR (mkRat an D * mkRat bn E) := by
  rw [fracE_eq _ _ _ (Nat.mul_ne_zero (by omega) (by omega)), Rat.mkRat_mul_mkRat]
  congr 2
  conv => rhs; rw [← sgn_abs an, ← sgn_abs bn, ← hA, ← hB, sgn_mul]
  by_cases h : 0 < A * B
  · rw [decide_eq_true h, Bool.true_and]
  · rw [show A * B = 0 by omega, sgn_zero, sgn_zero]
theorem prod_eq {an ad bn bd : Int} {A B C D : Nat} (hA : A = an.natAbs) (hB : B = bn.natAbs) (hC : C = ad.natAbs) (hD : D = bd.natAbs) (c1 : 1 ≤ ad) (c2 : 1 ≤ bd) :
    fracE (A * B) (decide (0 < A * B) && (decide (an < 0) != decide (bn < 0))) (C * D) = rR (rq an ad * rq bn bd) := by
  rw [frac_prod hA hB (by omega) (by omega)]
  unfold rq
  rw [hC, hD]
theorem quot_eq {an ad bn bd : Int} {A B C D : Nat} (hA : A = an.natAbs) (hB : B = bn.natAbs) (hC : C = ad.natAbs) (hD : D = bd.natAbs) (c1 : 1 ≤ ad) (c2 : 1 ≤ bd) (hz : bn ≠ 0) :
    fracE (A * D) (decide (0 < A * D) && (decide (an < 0) != decide (bn < 0))) (C * B) = rR (rq an ad / rq bn bd) := by
  by_cases hs : bn < 0
  · rw [← rq_inv hz c2 (.inr ⟨rfl, rfl, hs⟩) (rq an ad)]
    have h1 := frac_prod (an := an) (bn := -bd) (A := A) (B := D) (D := C) (E := B) hA (by omega) (by omega) (by omega)
    rw [show decide (-bd < 0) = decide (bn < 0) by rw [decide_eq_true hs, decide_eq_true (by omega)]] at h1
    rw [h1]
    unfold rq
    rw [hC, show (-bn).natAbs = B by omega]
  · rw [← rq_inv hz c2 (.inl ⟨rfl, rfl, by omega⟩) (rq an ad)]
    have h1 := frac_prod (an := an) (bn := bd) (A := A) (B := D) (D := C) (E := B) hA (by omega) (by omega) (by omega)
    rw [show decide (bd < 0) = decide (bn < 0) by rw [decide_eq_false hs, decide_eq_false (by omega)]] at h1
    rw [h1]
    unfold rq
    rw [hC, show bn.natAbs = B by omega]
theorem bd_len_zero (n : Nat) : (bd n).length = 0 ↔ n = 0 := by
  constructor
  · intro h
    have := (bd_len_le n 0).1 (by omega)
    simpa using this
  · rintro rfl; rw [bd_zero]; rfl
end Go.Proofs.Ytjldogfpccbkeaa
