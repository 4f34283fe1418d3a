/- Chapter 01, the document: gcd, number, size. -/
import Derived.Test.YtdakeenjeieekaaRb4
set_option linter.unusedVariables false
set_option linter.unusedSimpArgs false
namespace Go.Proofs.Ytdakeenjeieekaa
open Go.RowKit
attribute [local go_sem] Oper.semAt_some

theorem IsB.inj {w : World} {v : Value} {n m : Nat} (h1 : IsB w v n) (h2 : IsB w v m) : n = m := by
  obtain ⟨A, c, rfl, _, hR⟩ := h1
  obtain ⟨A2, c2, e, _, hR2⟩ := h2
  simp only [Value.slice.injEq] at e
  obtain ⟨rfl, hl, rfl⟩ := e
  have : bd n = bd m := by
    refine List.ext_getElem hl (fun i h1 h2 => ?_)
    obtain ⟨b, o, rfl⟩ := hR.some_ (by rw [u32s_length]; omega)
    have c1 := rd_digit hR i h1
    have c2 := rd_digit hR2 i h2
    rw [c1] at c2
    have := Option.some.inj c2
    injection this with _ h
    omega
  rw [← bv_bd n, this, bv_bd]
open Classical in
/-- The number that a slice reads as. -/
noncomputable def numOf (w : World) (v : Value) : Nat := if h : ∃ n, IsB w v n then h.choose else 0
theorem numOf_eq {w : World} {v : Value} {n : Nat} (h : IsB w v n) : numOf w v = n := by
  unfold numOf
  rw [dif_pos ⟨n, h⟩]
  exact IsB.inj (Exists.choose_spec (⟨n, h⟩ : ∃ n, IsB w v n)) h
theorem gcd_calls (a b : Nat) (va vb : Value) (w : World) (ha : IsB w va a) (hb : IsB w vb b) (hla : (bd a).length ≤ 400) (hlb : (bd b).length ≤ 400) :
    Calls Try.prog 43 #[va, vb] w fun e w' => (∃ v, e = .returned v ∧ IsB w' v (Nat.gcd a b)) ∧ Fr0 w w' := by
  have HA := Lib.hid ha
  have HB := Lib.hid hb
  have HL := Lib.hid (And.intro hla hlb)
  clear ha hb hla hlb
  go_enter Try.func43, Try.ntmps43
  go_wp2_with fail
  go_loopw [0, 1] (fun s0 s1 wr => ∃ (x y : Nat), Hid (IsB wr s0 x) ∧ Hid (IsB wr s1 y) ∧ Hid (Nat.gcd x y = Nat.gcd a b) ∧ Hid ((bd x).length ≤ 400 ∧ (bd y).length ≤ 400) ∧ Hid (Fr0 w wr)) (fun _ s1 wr => numOf wr s1)
  case atStart => exact ⟨a, b, HA, HB, rfl, HL, Fr.refl _ _⟩
  case round =>
    clear HA HB HL
    obtain ⟨x, y, HX, HY, HG, HL, HF⟩ := hrel
    obtain ⟨A, c, rfl, hc, hR⟩ := HY.out
    clear hR
    rcases Nat.eq_zero_or_pos y with rfl | hy
    · have hg : x = Nat.gcd a b := by rw [← HG.out, Nat.gcd_zero_right]
      rw [bd_zero] at HY hc ⊢
      have HG2 := Lib.hid hg
      clear hg HG HL hc
      go_wp2_with fail
      go_ret
      exact ⟨⟨_, rfl, by rw [← HG2.out]; exact HX.out⟩, HF.out⟩
    · have hly : 0 < (bd y).length := by rw [bd_pos (by omega)]; simp
      have HNY := Lib.hid (numOf_eq HY.out)
      obtain ⟨ly, hl⟩ : ∃ l, l = (bd y).length := ⟨_, rfl⟩
      rw [← hl] at hly hc HY HNY ⊢
      have HLY := Lib.hid hl
      have hd1 : decide ((0 : Int) < (ly : Int)) = true := decide_eq_true (by omega)
      have hd2 : decide (0 < ly) = true := decide_eq_true (by omega)
      have HYP := Lib.hid hy
      clear hl hy
      go_wp2_with (first | (go_at_call 64; (with_reducible refine (bdiv_calls x y _ _ _ HYP.out HX.out HY.out HL.out.1 HL.out.2).mono ?_); rintro _ w5 ⟨⟨v1, v2, rfl, hv1, hv2⟩, hf5⟩; have HV1 := Lib.hid hv1; have HV2 := Lib.hid hv2; have HF5 := Lib.hid hf5; clear hv1 hv2 hf5) | fail)
      go_roundw
      case rel => exact ⟨y, x % y, HY.out.kept HF5.out, HV2, by rw [← HG.out, Nat.gcd_comm x y, Nat.gcd_rec y x, Nat.gcd_comm]; rfl, ⟨HL.out.2, Nat.le_trans (len_mono (Nat.le_of_lt (Nat.mod_lt _ HYP.out))) HL.out.2⟩, HF.out.trans HF5.out⟩
      case measure =>
        have h1 := numOf_eq HV2.out
        have h2 := Nat.mod_lt x HYP.out
        show numOf w5 v2 < numOf wr _
        rw [HNY.out, h1]
        exact h2
/-- A number of at most 63 bits. -/
theorem number_calls (a : Nat) (va : Value) (w : World) (ha : IsB w va a) (hla : (bd a).length ≤ 1000) :
    Calls Try.prog 65 #[va] w fun e w' => (∃ z : Int, e = .returned (.tuple #[.int .i64 z, .bool (decide (a ≤ 9223372036854775807))]) ∧ (a ≤ 9223372036854775807 → z = (a : Int))) ∧ Fr0 w w' := by
  obtain ⟨A, c, rfl, hc, hR⟩ := ha
  have HR := Lib.hid hR
  obtain ⟨la, hl⟩ : ∃ l, l = (bd a).length := ⟨_, rfl⟩
  rw [← hl] at hc hla ⊢
  have HLA := Lib.hid hl
  clear hl hR
  by_cases h4 : la ≤ 4
  · have hlt : a < 18446744073709551616 := by
      have := (bd_len_le a 4).1 (by rw [← HLA.out]; exact h4)
      have h : (65536 : Nat) ^ 4 = 18446744073709551616 := rfl
      omega
    have HLT := Lib.hid hlt
    have hwl : wrap64 ((la : Int) - 1) = (la : Int) - 1 := w64_id (by omega) (by omega)
    clear hlt
    obtain ⟨r, hr⟩ : ∃ r, r = decide (a ≤ 9223372036854775807) := ⟨_, rfl⟩
    rw [← hr]
    have HR2 := Lib.hid hr
    clear hr
    go_enter Try.func65, Try.ntmps65
    go_wp2_with fail
    go_loopw [4, 5] (fun s4 s5 wr => ∃ (k n : Nat), k ≤ la ∧ s4 = u64v n ∧ s5 = .int .i64 ((k : Int) - 1) ∧ Hid (n = a / 65536 ^ k) ∧ Hid (Fr0 w wr)) (fun _ s5 _ => (intOf s5 + 1).toNat)
    case atStart => exact ⟨la, 0, Nat.le_refl _, rfl, rfl, (Nat.div_eq_of_lt ((bd_len_le a la).1 (by rw [← HLA.out]; exact Nat.le_refl _))).symm, Fr.refl _ _⟩
    case round =>
      obtain ⟨k, n, hk, rfl, rfl, HN, HF⟩ := hrel
      rcases k with _ | k
      · have hn : n = a := by have := HN.out; simpa using this
        subst hn
        have hlt := HLT.out
        have hdd : decide ((n : Int) < 9223372036854775808) = decide (n ≤ 9223372036854775807) := decide_eq_decide.2 (by omega)
        have hdn : decide (n < 9223372036854775808) = decide (n ≤ 9223372036854775807) := decide_eq_decide.2 (by omega)
        have hrr := HR2.out
        rw [← hrr] at hdd hdn
        obtain ⟨z, hz⟩ : ∃ z, z = IntKind.i64.wrap (n : Int) := ⟨_, rfl⟩
        have HZ : Hid (n ≤ 9223372036854775807 → z = (n : Int)) := fun h => by rw [hz, IntKind.wrap_i64]; omega
        have hz3 := hz.symm
        have hz4 := hz3
        rw [IntKind.wrap_i64] at hz4
        clear HN hlt hrr hz
        go_wp2_with fail
        go_ret2
        exact ⟨⟨z, rfl, HZ.out⟩, HF.out⟩
      · have hr := HR.out.kept HF.out
        obtain ⟨b, off, rfl⟩ := hr.some_ (by rw [u32s_length, ← HLA.out]; omega)
        have d0 := rd_digit hr k (by rw [← HLA.out]; omega)
        rw [bd_get (by rw [← HLA.out]; omega)] at d0
        have hnx : a / 65536 ^ k = n * 65536 + a / 65536 ^ k % 65536 := by
          rw [HN.out, Nat.pow_succ, ← Nat.div_div_eq_div_mul]
          omega
        have hle : a / 65536 ^ k ≤ a := Nat.div_le_self _ _
        have hdl : a / 65536 ^ k % 65536 < 65536 := Nat.mod_lt _ (by omega)
        obtain ⟨d, hd⟩ : ∃ d, d = a / 65536 ^ k % 65536 := ⟨_, rfl⟩
        rw [← hd] at d0 hnx hdl
        have hlt := HLT.out
        obtain ⟨m, hm⟩ : ∃ m, m = n * 65536 := ⟨_, rfl⟩
        obtain ⟨m2, hm2⟩ : ∃ m2, m2 = m + d := ⟨_, rfl⟩
        have hml : m2 < 18446744073709551616 := by omega
        have hmm : m < 18446744073709551616 := by omega
        have HM2 : Hid (m2 = a / 65536 ^ k) := by show m2 = _; omega
        have e1 : ((k + 1 : Nat) : Int) - 1 = (k : Int) := by omega
        have e2 : (n : Int) * 65536 = (m : Int) := by omega
        have e3 : (m : Int) + (d : Int) = (m2 : Int) := by omega
        rw [e1]
        have hi1 : (0 : Int) ≤ (k : Int) := by omega
        have hi2 : (k : Int) < (la : Int) := by omega
        have hd1 : decide ((0 : Int) ≤ (k : Int)) = true := decide_eq_true hi1
        have hwk : wrap64 ((k : Int) - 1) = (k : Int) - 1 := w64_id (by omega) (by omega)
        clear hr hd hnx hle hlt hm hm2 e1 HN
        go_wp2_with fail
        go_roundw
        case rel => exact ⟨k, m2, by omega, rfl, rfl, HM2, HF⟩
        case measure => first | (simp [intOf]; done) | (simp [intOf]; omega)
  · have hbig : decide (a ≤ 9223372036854775807) = false := decide_eq_false (by
      have := (bd_len_lt a 4).1 (by rw [← HLA.out]; omega)
      have h : (65536 : Nat) ^ 4 = 18446744073709551616 := rfl
      omega)
    have HBG := Lib.hid (of_decide_eq_false hbig)
    rw [hbig]
    have hd1 : decide ((4 : Int) < (la : Int)) = true := decide_eq_true (by omega)
    have hd2 : decide (4 < la) = true := decide_eq_true (by omega)
    clear hbig
    go_enter Try.func65, Try.ntmps65
    go_wp2_with fail
    go_ret2
    exact ⟨⟨0, rfl, fun h => absurd h HBG.out⟩, Fr.refl _ _⟩
theorem size_calls (n : Int) (hn : I64r n) (w : World) : Calls Try.prog 41 #[.int .i64 n] w fun e w' => e = .returned (u64v n.natAbs) ∧ Fr0 w w' := by
  obtain ⟨h1, h2⟩ := hn
  by_cases h : n < 0
  · have hw : wrap64 (-1 - n) = -1 - n := w64_id (by omega) (by omega)
    have hz : (1 : Int) + (-1 - n) = (n.natAbs : Int) := by omega
    have hu : IntKind.u64.wrap (-1 - n) = -1 - n := by rw [IntKind.wrap_u64]; omega
    have hu2 : IntKind.u64.wrap ((n.natAbs : Int)) = (n.natAbs : Int) := by rw [IntKind.wrap_u64]; omega
    have hd : decide (n < 0) = true := decide_eq_true h
    obtain ⟨m, hm⟩ : ∃ m, m = n.natAbs := ⟨_, rfl⟩
    rw [← hm] at hz hu2 ⊢
    clear hm
    go_enter Try.func41, Try.ntmps41
    go_wp2_with fail
    go_ret
    exact ⟨rfl, Fr.refl _ _⟩
  · have hd : decide (n < 0) = false := decide_eq_false h
    have hu : IntKind.u64.wrap n = (n.natAbs : Int) := by rw [IntKind.wrap_u64]; omega
    obtain ⟨m, hm⟩ : ∃ m, m = n.natAbs := ⟨_, rfl⟩
    rw [← hm] at hu ⊢
    clear hm
    go_enter Try.func41, Try.ntmps41
    go_wp2_with fail
    go_ret
    exact ⟨rfl, Fr.refl _ _⟩
end Go.Proofs.Ytdakeenjeieekaa
