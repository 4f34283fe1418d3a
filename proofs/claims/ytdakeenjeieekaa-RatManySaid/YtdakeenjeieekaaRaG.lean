/- Chapter 01: a number of two words by a word. -/
import Derived.Test.YtdakeenjeieekaaRaF
import Derived.Laws.Shifts
import Derived.Deep.CutBlock
set_option linter.unusedVariables false
set_option linter.unusedSimpArgs false
namespace Go.Proofs.Ytdakeenjeieekaa
open Go.RowKit
attribute [local go_sem] Oper.semAt_some

/-- One digit to the base 2^32, guessed too high: q is no less than the digit, r what is left of it. -/
def Dg (U u Y a b q r : Nat) : Prop := U = q * a + r ∧ r < 4294967296 ∧ (U * 4294967296 + u) / Y ≤ q ∧ q < 18446744073709551616
theorem Dg.start {U u Y a b : Nat} (hY : Y = a * 4294967296 + b) (ha : 0 < a) (ha2 : a < 4294967296) (hu : u < 4294967296) (hU : U < 18446744073709551616) : Dg U u Y a b (U / a) (U % a) := by
  refine ⟨(Nat.div_add_mod' U a).symm, Nat.lt_trans (Nat.mod_lt _ ha) ha2, ?_, Nat.lt_of_le_of_lt (Nat.div_le_self _ _) hU⟩
  rw [Nat.le_div_iff_mul_le ha]
  have h1 : (U * 4294967296 + u) / Y * Y ≤ U * 4294967296 + u := Nat.div_mul_le_self _ _
  generalize (U * 4294967296 + u) / Y = q at *
  have h2 : q * Y = q * a * 4294967296 + q * b := by rw [hY, Nat.mul_add, Nat.mul_assoc]
  have h3 : 0 ≤ q * b := Nat.zero_le _
  generalize q * a = x at *
  generalize q * b = z at *
  omega
theorem mulY {q a b Y : Nat} (hY : Y = a * 4294967296 + b) : q * Y = q * a * 4294967296 + q * b := by rw [hY, Nat.mul_add, Nat.mul_assoc]
/-- The guess fits. -/
theorem Dg.done {U u Y a b q r : Nat} (h : Dg U u Y a b q r) (hY : Y = a * 4294967296 + b) (hY0 : 0 < Y) (hq : q * b ≤ 4294967296 * r + u) : q = (U * 4294967296 + u) / Y := by
  obtain ⟨h1, h2, h3, h4⟩ := h
  refine Nat.le_antisymm ?_ h3
  rw [Nat.le_div_iff_mul_le hY0, mulY hY]
  generalize q * a = x at *
  generalize q * b = z at *
  omega
/-- The guess is too high. -/
theorem Dg.less {U u Y a b q r : Nat} (h : Dg U u Y a b q r) (hY : Y = a * 4294967296 + b) (hb : b < 4294967296) (hu : u < 4294967296) (hUY : U < Y) (hq : 4294967296 ≤ q ∨ 4294967296 * r + u < q * b) :
    1 ≤ q ∧ U = (q - 1) * a + (r + a) ∧ (U * 4294967296 + u) / Y ≤ q - 1 := by
  obtain ⟨h1, h2, h3, h4⟩ := h
  have hd : (U * 4294967296 + u) / Y < 4294967296 := by rw [Nat.div_lt_iff_lt_mul (by omega)]; omega
  have hq2 : 4294967296 ≤ q ∨ (U * 4294967296 + u) / Y < q := by
    rcases hq with hq | hq
    · exact .inl hq
    · refine .inr ?_
      rw [Nat.div_lt_iff_lt_mul (by omega), mulY hY]
      generalize q * a = x at *
      generalize q * b = z at *
      omega
  generalize (U * 4294967296 + u) / Y = D at *
  refine ⟨by omega, ?_, by omega⟩
  obtain ⟨p, rfl⟩ : ∃ p, q = p + 1 := ⟨q - 1, by omega⟩
  rw [Nat.succ_mul] at h1
  simp only [Nat.add_sub_cancel]
  omega
/-- What is left is too great for a further step: the guess fits. -/
theorem Dg.out {U u Y a b q r : Nat} (h1 : U = q * a + r) (h3 : (U * 4294967296 + u) / Y ≤ q) (hY : Y = a * 4294967296 + b) (hb : b < 4294967296) (hUY : U < Y) (ha : 0 < a) (hr : 4294967296 ≤ r) : q = (U * 4294967296 + u) / Y := by
  have hq : q < 4294967296 := by
    apply Nat.lt_of_not_le
    intro hle
    have := Nat.mul_le_mul_right a hle
    rw [Nat.mul_comm 4294967296 a] at this
    generalize q * a = x at *
    omega
  refine Nat.le_antisymm ?_ h3
  rw [Nat.le_div_iff_mul_le (by omega), mulY hY]
  have hb' : q * b ≤ 4294967296 * 4294967296 := Nat.mul_le_mul (by omega) (by omega)
  have hr' : 4294967296 * 4294967296 ≤ 4294967296 * r := Nat.mul_le_mul_left _ hr
  generalize q * a = x at *
  generalize q * b = z at *
  omega
/-- The words of the shifted numbers. -/
theorem shifted {hi lo y s : Nat} (hh : hi < y) (hl : lo < 18446744073709551616) (hs : s ≤ 63) (hy1 : 9223372036854775808 ≤ y * 2 ^ s) (hy2 : y * 2 ^ s < 18446744073709551616) :
    ∃ U L : Nat, U < y * 2 ^ s ∧ L < 18446744073709551616 ∧ (hi * 18446744073709551616 + lo) * 2 ^ s = U * 18446744073709551616 + L ∧ U = hi * 2 ^ s + lo / 2 ^ (64 - s) ∧ L = lo * 2 ^ s % 18446744073709551616 ∧
      hi * 2 ^ s < 18446744073709551616 ∧ lo / 2 ^ (64 - s) < 2 ^ s := by
  have hp : (18446744073709551616 : Nat) = 2 ^ s * 2 ^ (64 - s) := by rw [← Nat.pow_add, show s + (64 - s) = 64 by omega]
  have h2 : lo / 2 ^ (64 - s) < 2 ^ s := by rw [Nat.div_lt_iff_lt_mul (Nat.pow_pos (by omega)), ← hp]; exact hl
  have h3 : lo * 2 ^ s / 18446744073709551616 = lo / 2 ^ (64 - s) := by
    rw [hp, Nat.mul_comm lo, Nat.mul_div_mul_left _ _ (Nat.pow_pos (by omega))]
  have h4 : (hi + 1) * 2 ^ s ≤ y * 2 ^ s := Nat.mul_le_mul_right _ hh
  rw [Nat.add_mul, Nat.one_mul] at h4
  refine ⟨hi * 2 ^ s + lo / 2 ^ (64 - s), lo * 2 ^ s % 18446744073709551616, by omega, Nat.mod_lt _ (by omega), ?_, rfl, rfl, by omega, h2⟩
  have h5 := Nat.div_add_mod (lo * 2 ^ s) 18446744073709551616
  rw [h3] at h5
  rw [Nat.add_mul, Nat.mul_right_comm]
  generalize hi * 2 ^ s = x at *
  generalize lo * 2 ^ s = z at *
  omega
theorem norm_y {y : Nat} (h0 : y ≠ 0) (h : y < 18446744073709551616) : 9223372036854775808 ≤ y * 2 ^ (63 - y.log2) ∧ y * 2 ^ (63 - y.log2) < 18446744073709551616 := by
  have h1 := Nat.log2_self_le h0
  have h2 := Nat.lt_log2_self (n := y)
  have hl : y.log2 < 64 := (Nat.log2_lt h0).2 (by simpa using h)
  have e1 : (9223372036854775808 : Nat) = 2 ^ y.log2 * 2 ^ (63 - y.log2) := by rw [← Nat.pow_add, show y.log2 + (63 - y.log2) = 63 by omega]
  have e2 : (18446744073709551616 : Nat) = 2 ^ (y.log2 + 1) * 2 ^ (63 - y.log2) := by rw [← Nat.pow_add, show y.log2 + 1 + (63 - y.log2) = 64 by omega]
  constructor
  · rw [e1]; exact Nat.mul_le_mul_right _ h1
  · rw [e2]; exact Nat.mul_lt_mul_of_pos_right h2 (Nat.pow_pos (by omega))
theorem two_digits0 {Y q1 q0 V W U u1 u0 N K : Nat} (hN : N = U * (K * K) + (u1 * K + u0)) (h1 : Y * q1 + V = U * K + u1) (h2 : Y * q0 + W = V * K + u0) : N = Y * (q1 * K + q0) + W := by
  rw [hN]
  calc U * (K * K) + (u1 * K + u0) = (U * K + u1) * K + u0 := by rw [Nat.add_mul, Nat.mul_assoc, Nat.add_assoc]
    _ = (Y * q1 + V) * K + u0 := by rw [h1]
    _ = Y * (q1 * K) + (V * K + u0) := by rw [Nat.add_mul, Nat.mul_assoc, Nat.add_assoc]
    _ = Y * (q1 * K + q0) + W := by rw [← h2, Nat.mul_add, Nat.add_assoc]
/-- The two digits are the quotient, what is left behind them, shifted back, the rest. -/
theorem two_digits1 {N y P Y Q W : Nat} (hP : 0 < P) (hY : Y = y * P) (h4 : N * P = Y * Q + W) (h3 : W < Y) : Q = N / y ∧ W / P = N % y := by
  have hY0 : 0 < Y := by omega
  have h5 : N * P / Y = Q := by
    rw [h4, Nat.mul_add_div hY0, Nat.div_eq_of_lt h3]; rfl
  have h6 : N * P % Y = W := by rw [h4, Nat.mul_add_mod, Nat.mod_eq_of_lt h3]
  rw [hY, Nat.mul_div_mul_right _ _ hP] at h5
  rw [hY, Nat.mul_mod_mul_right] at h6
  refine ⟨h5.symm, ?_⟩
  rw [← h6, Nat.mul_div_cancel _ hP]
theorem two_digits {N y P Y U u1 u0 q1 q0 V W : Nat} (hP : 0 < P) (hY : Y = y * P) (hN : N * P = U * 18446744073709551616 + (u1 * 4294967296 + u0))
    (h1 : Y * q1 + V = U * 4294967296 + u1) (h2 : Y * q0 + W = V * 4294967296 + u0) (h3 : W < Y) :
    q1 * 4294967296 + q0 = N / y ∧ W / P = N % y := two_digits1 hP hY (two_digits0 hN h1 h2) h3
end Go.Proofs.Ytdakeenjeieekaa
