/- Plain: division bit by bit over digits to the base 65536. -/
import Derived.Test.YtdakeenjeieekaaRaP
set_option linter.unusedVariables false
set_option linter.unusedSimpArgs false
namespace Go.Proofs.Ytdakeenjeieekaa

theorem pow_split (k : Nat) : 65536 ^ (k / 16) * 2 ^ (k % 16) = 2 ^ k := by
  have : (65536 : Nat) = 2 ^ 16 := rfl
  rw [this, ← Nat.pow_mul, ← Nat.pow_add, Nat.div_add_mod]
theorem bit_at (a k : Nat) : a / 65536 ^ (k / 16) % 65536 / 2 ^ (k % 16) % 2 = a / 2 ^ k % 2 := by
  have ht : k % 16 < 16 := Nat.mod_lt _ (by omega)
  have e : (65536 : Nat) = 2 ^ (k % 16) * 2 ^ (16 - k % 16) := by
    rw [← Nat.pow_add, show k % 16 + (16 - k % 16) = 16 by omega]
  have e2 : 2 ∣ 2 ^ (16 - k % 16) := by
    rw [show 16 - k % 16 = (15 - k % 16) + 1 by omega, Nat.pow_succ]
    exact Nat.dvd_mul_left _ _
  generalize hy : a / 65536 ^ (k / 16) = y
  have h1 : y % 65536 / 2 ^ (k % 16) = y / 2 ^ (k % 16) % 2 ^ (16 - k % 16) := by
    conv => lhs; rw [e]
    exact Nat.mod_mul_right_div_self _ _ _
  rw [h1, Nat.mod_mod_of_dvd _ e2, ← hy, Nat.div_div_eq_div_mul, pow_split]
theorem half_step (a k : Nat) : a / 2 ^ k = 2 * (a / 2 ^ (k + 1)) + a / 2 ^ k % 2 := by
  rw [Nat.pow_succ, ← Nat.div_div_eq_div_mul]
  have := Nat.div_add_mod (a / 2 ^ k) 2
  omega
theorem div_step {x y b bit : Nat} (hb : 0 < b) (h : x = 2 * y + bit) (hbit : bit < 2) :
    (2 * (y % b) + bit < b → x % b = 2 * (y % b) + bit ∧ x / b = 2 * (y / b)) ∧ (b ≤ 2 * (y % b) + bit → x % b = 2 * (y % b) + bit - b ∧ x / b = 2 * (y / b) + 1) := by
  have h1 := Nat.div_add_mod y b
  have h2 := Nat.mod_lt y hb
  generalize hq : y / b = q at *
  generalize hr : y % b = r at *
  constructor
  · intro h3
    have e : x = b * (2 * q) + (2 * r + bit) := by rw [h, ← h1, Nat.mul_add, Nat.mul_left_comm]; omega
    exact ⟨by rw [e, Nat.mul_add_mod, Nat.mod_eq_of_lt h3], by rw [e, Nat.mul_add_div hb, Nat.div_eq_of_lt h3]; rfl⟩
  · intro h3
    have e : x = b * (2 * q + 1) + (2 * r + bit - b) := by rw [h, ← h1, Nat.mul_add, Nat.mul_add b, Nat.mul_left_comm]; omega
    exact ⟨by rw [e, Nat.mul_add_mod, Nat.mod_eq_of_lt (by omega)], by rw [e, Nat.mul_add_div hb, Nat.div_eq_of_lt (by omega)]⟩
theorem bv_get : ∀ (l : List Nat) (j : Nat) (hj : j < l.length), (∀ x ∈ l, x < 65536) → l[j] = bv l / 65536 ^ j % 65536
  | x :: l, 0, _, h => by
    have := h x (List.mem_cons_self ..)
    simp [bv]; omega
  | x :: l, j + 1, hj, h => by
    have h1 := h x (List.mem_cons_self ..)
    have ih := bv_get l j (by simpa using hj) (fun y hy => h y (List.mem_cons_of_mem _ hy))
    rw [List.getElem_cons_succ, ih, bv, Nat.pow_succ, Nat.mul_comm (65536 ^ j), ← Nat.div_div_eq_div_mul, show (x + 65536 * bv l) / 65536 = bv l by omega]
theorem bv_set : ∀ (l : List Nat) (j x : Nat) (hj : j < l.length), bv (l.set j (l[j] + x)) = bv l + x * 65536 ^ j
  | y :: l, 0, x, _ => by simp [bv]; omega
  | y :: l, j + 1, x, hj => by
    rw [List.set_cons_succ, List.getElem_cons_succ, bv, bv, bv_set l j x (by simpa using hj), Nat.pow_succ, Nat.mul_add, Nat.mul_comm x (65536 ^ j * 65536), Nat.mul_comm (65536 ^ j) 65536, Nat.mul_assoc, Nat.mul_comm (65536 ^ j) x]
    omega
/-- One bit more of the quotient. -/
theorem quo_bit {Q : List Nat} {q k : Nat} (hQ : ∀ x ∈ Q, x < 65536) (hv : bv Q = 2 ^ (k + 1) * q) (hj : k / 16 < Q.length) :
    Q[k / 16] + 2 ^ (k % 16) < 65536 ∧ bv (Q.set (k / 16) (Q[k / 16] + 2 ^ (k % 16))) = 2 ^ k * (2 * q + 1) := by
  have ht : k % 16 < 16 := Nat.mod_lt _ (by omega)
  have hs := pow_split k
  constructor
  · rw [bv_get Q _ hj hQ, hv, Nat.pow_succ, ← hs, Nat.mul_assoc, Nat.mul_assoc, Nat.mul_div_cancel_left _ (Nat.pow_pos (by omega))]
    have e : (65536 : Nat) = 2 ^ (k % 16) * 2 * 2 ^ (15 - k % 16) := by
      rw [← Nat.pow_succ, ← Nat.pow_add, show (k % 16).succ + (15 - k % 16) = 16 by omega]
    have h1 : 2 ^ (k % 16) * (2 * q) % 65536 = 2 ^ (k % 16) * 2 * (q % 2 ^ (15 - k % 16)) := by
      conv => lhs; rw [e]
      rw [← Nat.mul_assoc, Nat.mul_mod_mul_left]
    rw [h1]
    have h2 : q % 2 ^ (15 - k % 16) + 1 ≤ 2 ^ (15 - k % 16) := Nat.mod_lt _ (Nat.pow_pos (by omega))
    have h3 := Nat.mul_le_mul_left (2 ^ (k % 16) * 2) h2
    rw [← e, Nat.mul_add, Nat.mul_one] at h3
    have h4 : 0 < 2 ^ (k % 16) := Nat.pow_pos (by omega)
    generalize 2 ^ (k % 16) * 2 * (q % 2 ^ (15 - k % 16)) = z at *
    omega
  · rw [bv_set, hv, Nat.pow_succ, Nat.mul_comm (2 ^ (k % 16)), hs, Nat.mul_assoc, Nat.mul_add, Nat.mul_one]
theorem set_lt {Q : List Nat} {j x : Nat} (hQ : ∀ y ∈ Q, y < 65536) (hx : x < 65536) : ∀ y ∈ Q.set j x, y < 65536 := by
  intro y hy
  rcases List.mem_or_eq_of_mem_set hy with h | h
  · exact hQ y h
  · rw [h]; exact hx
theorem bv_zeros : ∀ n, bv (List.replicate n 0) = 0
  | 0 => rfl
  | n + 1 => by rw [List.replicate_succ, bv, bv_zeros n]
theorem pow16 (n : Nat) : (65536 : Nat) ^ n = 2 ^ (16 * n) := by
  have : (65536 : Nat) = 2 ^ 16 := rfl
  rw [this, ← Nat.pow_mul]
end Go.Proofs.Ytdakeenjeieekaa
