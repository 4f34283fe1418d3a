/- Chapter 01: compared. -/
import Derived.Test.YtjldogfpccbkeaaM4
set_option linter.unusedVariables false
set_option linter.unusedSimpArgs false
namespace Go.Proofs.Ytjldogfpccbkeaa
open Go.RowKit
attribute [local go_sem] Oper.semAt_some

/-- Which of two is less. -/
def cmpN (an ad bn bd : Int) : Int := if an * bd < bn * ad then -1 else if an * bd = bn * ad then 0 else 1
theorem cmp_sign {an ad bn bd : Int} (h1 : 1 ≤ ad) (h2 : 1 ≤ bd) (h : decide (an < 0) = !decide (bn < 0)) : cmpN an ad bn bd = if an < 0 then -1 else 1 := by
  unfold cmpN
  by_cases s1 : an < 0 <;> by_cases s2 : bn < 0
  · simp [s1, s2] at h
  · have a1 : an * bd < 0 := Int.mul_neg_of_neg_of_pos s1 (by omega)
    have a2 : 0 ≤ bn * ad := Int.mul_nonneg (by omega) (by omega)
    rw [if_pos (by omega), if_pos s1]
  · have a1 : 0 ≤ an * bd := Int.mul_nonneg (by omega) (by omega)
    have a2 : bn * ad < 0 := Int.mul_neg_of_neg_of_pos s2 (by omega)
    rw [if_neg (by omega), if_neg (by omega), if_neg s1]
  · simp [s1, s2] at h
theorem cmp_size {an ad bn bd : Int} {A B C D : Nat} (hA : A = an.natAbs) (hB : B = bn.natAbs) (hC : C = ad.natAbs) (hD : D = bd.natAbs) (h1 : 1 ≤ ad) (h2 : 1 ≤ bd) (h : decide (an < 0) = decide (bn < 0)) :
    cmpN an ad bn bd = if A * D = B * C then 0 else if (decide (A * D < B * C)) != decide (an < 0) then -1 else 1 := by
  have e1 : (C : Int) = ad := by omega
  have e2 : (D : Int) = bd := by omega
  have hh := decide_eq_decide.1 h
  unfold cmpN
  by_cases s1 : an < 0
  · have s2 := hh.1 s1
    have f1 : an = -(A : Int) := by omega
    have f2 : bn = -(B : Int) := by omega
    rw [← e1, ← e2, f1, f2, Int.neg_mul, Int.neg_mul, ← Int.natCast_mul, ← Int.natCast_mul]
    have s3 : decide (-(A : Int) < 0) = true := by rw [← f1]; exact decide_eq_true s1
    rw [s3]
    generalize A * D = x
    generalize B * C = y
    by_cases c1 : x = y
    · subst c1; simp
    · by_cases c2 : x < y
      · rw [if_neg (by omega), if_neg (by omega), if_neg c1, decide_eq_true c2]; rfl
      · rw [if_pos (by omega), if_neg c1, decide_eq_false c2]; rfl
  · have s2 : ¬ bn < 0 := fun h => s1 (hh.2 h)
    have f1 : an = (A : Int) := by omega
    have f2 : bn = (B : Int) := by omega
    rw [← e1, ← e2, f1, f2, ← Int.natCast_mul, ← Int.natCast_mul]
    have s3 : decide ((A : Int) < 0) = false := by rw [← f1]; exact decide_eq_false s1
    rw [s3]
    generalize A * D = x
    generalize B * C = y
    by_cases c1 : x = y
    · subst c1; simp
    · by_cases c2 : x < y
      · rw [if_pos (by omega), if_neg c1, decide_eq_true c2]; rfl
      · rw [if_neg (by omega), if_neg (by omega), if_neg c1, decide_eq_false c2]; rfl
end Go.Proofs.Ytjldogfpccbkeaa
