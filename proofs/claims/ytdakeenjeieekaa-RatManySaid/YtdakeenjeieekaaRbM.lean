/- Chapter 01, the document: products of digits, plain. -/
import Derived.Test.YtdakeenjeieekaaRbP
namespace Go.Proofs.Ytdakeenjeieekaa

theorem bv_put : ∀ (l : List Nat) (j v : Nat) (hj : j < l.length), bv (l.set j v) + l[j] * 65536 ^ j = bv l + v * 65536 ^ j
  | y :: l, 0, v, _ => by simp [bv]; omega
  | y :: l, j + 1, v, hj => by
    have ih := bv_put l j v (by simpa using hj)
    rw [List.set_cons_succ, List.getElem_cons_succ, bv, bv, Nat.pow_succ, ← Nat.mul_assoc, ← Nat.mul_assoc]
    omega
/-- One digit of a product: what is carried, what stands there, what is added. -/
theorem mul_step {L : List Nat} {j c z T : Nat} (hj : j < L.length) (h : bv L + c * 65536 ^ j = T) :
    bv (L.set j ((c + L[j] + z) % 65536)) + (c + L[j] + z) / 65536 * 65536 ^ (j + 1) = T + z * 65536 ^ j := by
  have h1 := bv_put L j ((c + L[j] + z) % 65536) hj
  have h2 : (c + L[j] + z) / 65536 * 65536 ^ (j + 1) + (c + L[j] + z) % 65536 * 65536 ^ j = (c + L[j] + z) * 65536 ^ j := by
    rw [Nat.pow_succ, Nat.mul_comm (65536 ^ j), ← Nat.mul_assoc, ← Nat.add_mul]
    congr 1
    omega
  rw [Nat.add_mul, Nat.add_mul] at h2
  omega
/-- Where something is carried, the row goes on. -/
theorem mul_room {L : List Nat} {a b c i k lb : Nat} (hb : b < 65536 ^ lb) (hc : 0 < c) (h : bv L + c * 65536 ^ (i + k) = a % 65536 ^ i * b + a / 65536 ^ i % 65536 * (b % 65536 ^ k) * 65536 ^ i) : k ≤ lb := by
  have h1 : a % 65536 ^ i * b + a / 65536 ^ i % 65536 * (b % 65536 ^ k) * 65536 ^ i ≤ a % 65536 ^ (i + 1) * b := by
    rw [mod_succ, Nat.add_mul]
    have := Nat.mul_le_mul_left (a / 65536 ^ i % 65536 * 65536 ^ i) (Nat.mod_le b (65536 ^ k))
    rw [Nat.mul_right_comm, Nat.mul_comm (65536 ^ i)]
    omega
  have h2 : a % 65536 ^ (i + 1) * b < 65536 ^ (i + 1) * 65536 ^ lb :=
    Nat.lt_of_le_of_lt (Nat.mul_le_mul_right _ (Nat.le_of_lt (Nat.mod_lt _ (Nat.pow_pos (by omega))))) (Nat.mul_lt_mul_of_pos_left hb (Nat.pow_pos (by omega)))
  have h3 : 1 * 65536 ^ (i + k) ≤ c * 65536 ^ (i + k) := Nat.mul_le_mul_right _ hc
  rw [← Nat.pow_add] at h2
  have h4 : 65536 ^ (i + k) < 65536 ^ (i + 1 + lb) := by omega
  have := (Nat.pow_lt_pow_iff_right (show 1 < 65536 by omega)).1 h4
  omega
theorem mul_next {a b i k T : Nat} (h : T = a % 65536 ^ i * b + a / 65536 ^ i % 65536 * (b % 65536 ^ k) * 65536 ^ i) :
    T + a / 65536 ^ i % 65536 * (b / 65536 ^ k % 65536) * 65536 ^ (i + k) = a % 65536 ^ i * b + a / 65536 ^ i % 65536 * (b % 65536 ^ (k + 1)) * 65536 ^ i := by
  rw [mod_succ b k, h, Nat.mul_add, Nat.add_mul, Nat.pow_add, Nat.add_assoc]
  congr 2
  simp only [Nat.mul_assoc, Nat.mul_comm, Nat.mul_left_comm]
theorem mul_over {a b i k T : Nat} (hb : b < 65536 ^ k) (h : T = a % 65536 ^ i * b + a / 65536 ^ i % 65536 * (b % 65536 ^ k) * 65536 ^ i) :
    T = a % 65536 ^ i * b + a / 65536 ^ i % 65536 * (b % 65536 ^ (k + 1)) * 65536 ^ i := by
  rw [Nat.mod_eq_of_lt hb] at h
  rw [Nat.mod_eq_of_lt (Nat.lt_of_lt_of_le hb (Nat.pow_le_pow_right (by omega) (by omega)))]
  exact h
theorem mul_row {a b i k : Nat} (hb : b < 65536 ^ k) : a % 65536 ^ i * b + a / 65536 ^ i % 65536 * (b % 65536 ^ k) * 65536 ^ i = a % 65536 ^ (i + 1) * b := by
  rw [Nat.mod_eq_of_lt hb, mod_succ, Nat.add_mul, Nat.mul_comm (65536 ^ i), Nat.mul_right_comm]
end Go.Proofs.Ytdakeenjeieekaa
