/- Chapter 01, the document: Less. -/
import Derived.Test.YtdakeenjeieekaaRb0
set_option linter.unusedVariables false
set_option linter.unusedSimpArgs false
namespace Go.Proofs.Ytdakeenjeieekaa
open Go.RowKit
attribute [local go_sem] Oper.semAt_some

theorem len_less {a b : Nat} (h : (bd a).length < (bd b).length) : a < b := by
  have h1 := bd_lt_len a
  have h2 := (bd_len_lt b (bd a).length).1 h
  omega
set_option maxHeartbeats 2000000 in
theorem bless_calls (a b : Nat) (va vb : Value) (w : World) (ha : IsB w va a) (hb : IsB w vb b) (hla : (bd a).length ≤ 1000) (hlb : (bd b).length ≤ 1000) :
    Calls Try.prog 52 #[va, vb] w fun e w' => e = .returned (.bool (decide (a < b))) ∧ Fr0 w w' := by
  have hmx : Try.prog.follows .mixedOrders = true := by kernel_rfl
  obtain ⟨Aa, ca, rfl, hca, hRA⟩ := ha
  obtain ⟨Ab, cb, rfl, hcb, hRB⟩ := hb
  have HRA := Lib.hid hRA
  have HRB := Lib.hid hRB
  clear hRA hRB
  have HA1 := Lib.hid (len_less (a := a) (b := b))
  have HA2 := Lib.hid (len_less (a := b) (b := a))
  obtain ⟨la, hla2⟩ : ∃ l, l = (bd a).length := ⟨_, rfl⟩
  obtain ⟨lb, hlb2⟩ : ∃ l, l = (bd b).length := ⟨_, rfl⟩
  rw [← hla2] at hla hca HA1 HA2 ⊢
  rw [← hlb2] at hlb hcb HA1 HA2 ⊢
  have HLA := Lib.hid hla2
  have HLB := Lib.hid hlb2
  clear hla2 hlb2
  by_cases hl : la = lb
  · subst hl
    obtain ⟨r, hr⟩ : ∃ r, r = decide (a < b) := ⟨_, rfl⟩
    rw [← hr]
    have HR := Lib.hid hr
    clear hr HA1 HA2
    go_enter Try.func52, Try.ntmps52
    go_wp2_with fail
    go_loopw [5] (fun s5 wr => ∃ k : Nat, k ≤ la ∧ s5 = .int .i64 ((k : Int) - 1) ∧ Hid (a / 65536 ^ k = b / 65536 ^ k) ∧ Hid (Fr0 w wr)) (fun s5 _ => (intOf s5 + 1).toNat)
    case atStart => exact ⟨la, Nat.le_refl _, rfl, by
      show a / 65536 ^ la = b / 65536 ^ la
      rw [Nat.div_eq_of_lt ((bd_len_le a la).1 (by rw [← HLA.out]; omega)), Nat.div_eq_of_lt ((bd_len_le b la).1 (by rw [← HLB.out]; omega))], Fr.refl _ _⟩
    case round =>
      obtain ⟨k, hk, rfl, HV, HF⟩ := hrel
      rcases k with _ | k
      · have he : r = false := by
          have := HV.out
          rw [HR.out]
          simp at this
          rw [this]; simp
        subst he
        clear HV HR
        go_wp2_with fail
        go_ret
        exact ⟨rfl, HF.out⟩
      · have hra := HRA.out.kept HF.out
        have hrb := HRB.out.kept HF.out
        obtain ⟨ba, oa, rfl⟩ := hra.some_ (by rw [u32s_length, ← HLA.out]; omega)
        obtain ⟨bb, ob, rfl⟩ := hrb.some_ (by rw [u32s_length, ← HLB.out]; omega)
        have cella := rd_digit hra k (by rw [← HLA.out]; omega)
        have cellb := rd_digit hrb k (by rw [← HLB.out]; omega)
        rw [bd_get (by rw [← HLA.out]; omega)] at cella
        rw [bd_get (by rw [← HLB.out]; omega)] at cellb
        have e1 : ((k + 1 : Nat) : Int) - 1 = (k : Int) := by omega
        rw [e1]
        have HC := Lib.hid (fun h => cmp_digit (a := a) (b := b) (i := k) HV.out h)
        have HC2 := Lib.hid (fun h => cmp_digit (a := b) (b := a) (i := k) HV.out.symm h)
        have HDD := Lib.hid (fun h => div_digit (a := a) (b := b) (i := k) HV.out h)
        obtain ⟨x, hx⟩ : ∃ x, x = a / 65536 ^ k % 65536 := ⟨_, rfl⟩
        obtain ⟨y, hy⟩ : ∃ y, y = b / 65536 ^ k % 65536 := ⟨_, rfl⟩
        rw [← hx, ← hy] at HC HDD
        rw [← hx, ← hy] at HC2
        rw [← hx] at cella
        rw [← hy] at cellb
        have hi1 : (0 : Int) ≤ (k : Int) := by omega
        have hi2 : (k : Int) < (la : Int) := by omega
        have hd1 : decide ((0 : Int) ≤ (k : Int)) = true := decide_eq_true hi1
        clear hra hrb hx hy HV e1
        by_cases hxy : x = y
        · have h1 : decide (x = y) = true := decide_eq_true hxy
          have HE := Lib.hid (HDD.out hxy)
          subst hxy
          have hw : IntKind.i64.wrap ((k : Int) - 1) = (k : Int) - 1 := by rw [IntKind.wrap_i64]; omega
          have hw2 := hw
          rw [IntKind.wrap_i64] at hw2
          clear HC HC2 HDD h1
          go_upto_region 6 with fail
          have r0 := cg_cell (W := wr) cella
          have r1 := cg_cell (W := wr) cellb
          refine wp_region_cg hmx (by kernel_rfl) ?_
          repeat (go_big_quiet_step (fail))
          refine wpQuiet_nil ?_
          intro w6 hf6
          go_wp2_with fail
          go_roundw
          case rel => exact ⟨k, by omega, rfl, HE, HF.out.trans hf6⟩
          case measure => first | (simp [intOf]; done) | (simp [intOf]; omega)
        · have h1 : decide (x = y) = false := decide_eq_false hxy
          have h2 : decide ((x : Int) = (y : Int)) = false := decide_eq_false (by omega)
          have h3 : ((x : Int) == (y : Int)) = false := by simpa using h2
          have hv : decide (x < y) = r := by
            rw [HR.out]
            by_cases c : x < y
            · rw [decide_eq_true c, decide_eq_true (HC.out c)]
            · rw [decide_eq_false c, decide_eq_false (by have := HC2.out (by omega); omega)]
          have hv2 : decide ((x : Int) < (y : Int)) = r := by rw [← hv]; exact decide_eq_decide.2 (by omega)
          clear HC HC2 HDD HR hxy
          go_upto_region 6 with fail
          have r0 := cg_cell (W := wr) cella
          have r1 := cg_cell (W := wr) cellb
          refine wp_region_cg hmx (by kernel_rfl) ?_
          repeat (go_big_quiet_step (fail))
          refine wpQuiet_nil ?_
          intro w6 hf6
          have cella6 := hf6.cell cella (fun h => h)
          have cellb6 := hf6.cell cellb (fun h => h)
          go_upto_region 7 with fail
          have r2 := cg_cell (W := w6) cella6
          have r3 := cg_cell (W := w6) cellb6
          refine wp_region_cg hmx (by kernel_rfl) ?_
          repeat (go_big_quiet_step (fail))
          refine wpQuiet_nil ?_
          intro w7 hf7
          go_wp2_with fail
          go_ret
          exact ⟨rfl, (HF.out.trans hf6).trans hf7⟩
  · have hv : decide (a < b) = decide (la < lb) := by
      by_cases h : la < lb
      · rw [decide_eq_true h, decide_eq_true (HA1.out h)]
      · rw [decide_eq_false h, decide_eq_false (by have := HA2.out (by omega); omega)]
    rw [hv]
    have h1 : decide (la = lb) = false := decide_eq_false hl
    have h2 : decide ((la : Int) = (lb : Int)) = false := decide_eq_false (by omega)
    have h3 : ((la : Int) == (lb : Int)) = false := by simpa using h2
    have h4 : decide ((la : Int) < (lb : Int)) = decide (la < lb) := decide_eq_decide.2 (by omega)
    clear hv hl HA1 HA2
    generalize decide (la < lb) = r at *
    go_enter Try.func52, Try.ntmps52
    go_wp2_with fail
    go_ret
    exact ⟨by first | rfl | simp_all, Fr.refl _ _⟩
end Go.Proofs.Ytdakeenjeieekaa
