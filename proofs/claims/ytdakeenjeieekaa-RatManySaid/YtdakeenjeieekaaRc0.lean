/- Plain: the document's sums, products, quotients, comparisons of fractions. -/
import Derived.Test.YtdakeenjeieekaaRb9
import Derived.Test.YtdakeenjeieekaaRaV
set_option linter.unusedVariables false
set_option linter.unusedSimpArgs false
namespace Go.Proofs.Ytdakeenjeieekaa

theorem fracE_eq (t : Nat) (below : Bool) (d : Nat) (hd : d ≠ 0) : fracE t below d = rR (mkRat (sgn t below) d) := by
  unfold fracE
  rw [if_neg hd, fracR_eq t below d hd]
theorem frac_sum {an ad bn bd : Int} {t C D : Nat} {below : Bool} (hC : C = ad.natAbs) (hD : D = bd.natAbs) (c1 : 1 ≤ ad) (c2 : 1 ≤ bd) (h : sgn t below = an * bd + bn * ad) :
    fracE t below (C * D) = rR (rq an ad + rq bn bd) := by
  have e1 : (D : Int) = bd := by omega
  have e2 : (C : Int) = ad := by omega
  rw [fracE_eq _ _ _ (Nat.mul_ne_zero (by omega) (by omega)), h]
  unfold rq
  rw [Rat.mkRat_add_mkRat _ _ (by omega) (by omega), ← hC, ← hD, e1, e2]
/-- A number and its sign. -/
theorem sgn_abs (n : Int) : sgn n.natAbs (decide (n < 0)) = n := by
  unfold sgn
  by_cases h : n < 0 <;> simp [h] <;> omega
theorem sgn_mul (a b : Nat) (p q : Bool) : sgn a p * sgn b q = sgn (a * b) (p != q) := by
  unfold sgn
  cases p <;> cases q <;> simp [Int.neg_mul, Int.mul_neg]
theorem sgn_zero (p : Bool) : sgn 0 p = 0 := by unfold sgn; cases p <;> rfl
theorem sum_same {an ad bn bd : Int} {A B C D : Nat} (hA : A = an.natAbs) (hB : B = bn.natAbs) (hC : C = ad.natAbs) (hD : D = bd.natAbs) (c1 : 1 ≤ ad) (c2 : 1 ≤ bd) (s : decide (an < 0) = decide (bn < 0)) :
    fracE (A * D + B * C) (decide (an < 0)) (C * D) = rR (rq an ad + rq bn bd) := by
  refine frac_sum hC hD c1 c2 ?_
  have e1 : bd = sgn D false := by unfold sgn; simp; omega
  have e2 : ad = sgn C false := by unfold sgn; simp; omega
  conv => rhs; rw [← sgn_abs an, ← sgn_abs bn, ← hA, ← hB, e1, e2, sgn_mul, sgn_mul, ← s]
  unfold sgn
  cases decide (an < 0) <;> simp <;> omega
theorem sum_less {an ad bn bd : Int} {A B C D : Nat} (hA : A = an.natAbs) (hB : B = bn.natAbs) (hC : C = ad.natAbs) (hD : D = bd.natAbs) (c1 : 1 ≤ ad) (c2 : 1 ≤ bd) (s : decide (an < 0) ≠ decide (bn < 0)) (h : A * D < B * C) :
    fracE (B * C - A * D) (decide (bn < 0)) (C * D) = rR (rq an ad + rq bn bd) := by
  refine frac_sum hC hD c1 c2 ?_
  have e1 : bd = sgn D false := by unfold sgn; simp; omega
  have e2 : ad = sgn C false := by unfold sgn; simp; omega
  have e3 : decide (an < 0) = !decide (bn < 0) := by revert s; cases decide (an < 0) <;> cases decide (bn < 0) <;> simp
  conv => rhs; rw [← sgn_abs an, ← sgn_abs bn, ← hA, ← hB, e1, e2, sgn_mul, sgn_mul, e3]
  unfold sgn
  have e4 : ((B * C - A * D : Nat) : Int) = ((B * C : Nat) : Int) - ((A * D : Nat) : Int) := by omega
  cases decide (bn < 0) <;> simp only [Bool.not_false, Bool.not_true, Bool.false_eq_true, if_false, if_true, bne_self_eq_false, Bool.bne_false, e4] <;> omega
theorem sum_more {an ad bn bd : Int} {A B C D : Nat} (hA : A = an.natAbs) (hB : B = bn.natAbs) (hC : C = ad.natAbs) (hD : D = bd.natAbs) (c1 : 1 ≤ ad) (c2 : 1 ≤ bd) (s : decide (an < 0) ≠ decide (bn < 0)) (h : B * C ≤ A * D) :
    fracE (A * D - B * C) (decide (an < 0) && decide (0 < A * D - B * C)) (C * D) = rR (rq an ad + rq bn bd) := by
  refine frac_sum hC hD c1 c2 ?_
  have e1 : bd = sgn D false := by unfold sgn; simp; omega
  have e2 : ad = sgn C false := by unfold sgn; simp; omega
  have e3 : decide (bn < 0) = !decide (an < 0) := by revert s; cases decide (an < 0) <;> cases decide (bn < 0) <;> simp
  conv => rhs; rw [← sgn_abs an, ← sgn_abs bn, ← hA, ← hB, e1, e2, sgn_mul, sgn_mul, e3]
  have e4 : ((A * D - B * C : Nat) : Int) = ((A * D : Nat) : Int) - ((B * C : Nat) : Int) := by omega
  by_cases h0 : 0 < A * D - B * C
  · rw [decide_eq_true h0]
    unfold sgn
    cases decide (an < 0) <;> simp only [Bool.true_and, Bool.false_and, Bool.not_false, Bool.not_true, Bool.false_eq_true, if_false, if_true, bne_self_eq_false, Bool.bne_false, e4] <;> omega
  · rw [decide_eq_false h0, show A * D - B * C = 0 by omega, sgn_zero]
    unfold sgn
    cases decide (an < 0) <;> simp only [Bool.not_false, Bool.not_true, Bool.false_eq_true, if_false, if_true, bne_self_eq_false, Bool.bne_false] <;> omega
theorem frac_prod {an bn : Int} {A B D E : Nat} (hA : A = an.natAbs) (hB : B = bn.natAbs) (hD : 0 < D) (hE : 0 < E) :
    fracE (A * B) (decide (0 < A * B) && (decide (an < 0) != decide (bn < 0))) (D * E) = rR (mkRat an D * mkRat bn E) := by
  rw [fracE_eq _ _ _ (Nat.mul_ne_zero (by omega) (by omega)), Rat.mkRat_mul_mkRat]
  congr 2
  conv => rhs; rw [← sgn_abs an, ← sgn_abs bn, ← hA, ← hB, sgn_mul]
  by_cases h : 0 < A * B
  · rw [decide_eq_true h, Bool.true_and]
  · rw [show A * B = 0 by omega, sgn_zero, sgn_zero]
theorem prod_eq {an ad bn bd : Int} {A B C D : Nat} (hA : A = an.natAbs) (hB : B = bn.natAbs) (hC : C = ad.natAbs) (hD : D = bd.natAbs) (c1 : 1 ≤ ad) (c2 : 1 ≤ bd) :
    fracE (A * B) (decide (0 < A * B) && (decide (an < 0) != decide (bn < 0))) (C * D) = rR (rq an ad * rq bn bd) := by
  rw [frac_prod hA hB (by omega) (by omega)]
  unfold rq
  rw [hC, hD]
theorem quot_eq {an ad bn bd : Int} {A B C D : Nat} (hA : A = an.natAbs) (hB : B = bn.natAbs) (hC : C = ad.natAbs) (hD : D = bd.natAbs) (c1 : 1 ≤ ad) (c2 : 1 ≤ bd) (hz : bn ≠ 0) :
    fracE (A * D) (decide (0 < A * D) && (decide (an < 0) != decide (bn < 0))) (C * B) = rR (rq an ad / rq bn bd) := by
  by_cases hs : bn < 0
  · rw [← rq_inv hz c2 (.inr ⟨rfl, rfl, hs⟩) (rq an ad)]
    have h1 := frac_prod (an := an) (bn := -bd) (A := A) (B := D) (D := C) (E := B) hA (by omega) (by omega) (by omega)
    rw [show decide (-bd < 0) = decide (bn < 0) by rw [decide_eq_true hs, decide_eq_true (by omega)]] at h1
    rw [h1]
    unfold rq
    rw [hC, show (-bn).natAbs = B by omega]
  · rw [← rq_inv hz c2 (.inl ⟨rfl, rfl, by omega⟩) (rq an ad)]
    have h1 := frac_prod (an := an) (bn := bd) (A := A) (B := D) (D := C) (E := B) hA (by omega) (by omega) (by omega)
    rw [show decide (bd < 0) = decide (bn < 0) by rw [decide_eq_false hs, decide_eq_false (by omega)]] at h1
    rw [h1]
    unfold rq
    rw [hC, show bn.natAbs = B by omega]
theorem bd_len_zero (n : Nat) : (bd n).length = 0 ↔ n = 0 := by
  constructor
  · intro h
    have := (bd_len_le n 0).1 (by omega)
    simpa using this
  · rintro rfl; rw [bd_zero]; rfl
end Go.Proofs.Ytdakeenjeieekaa
