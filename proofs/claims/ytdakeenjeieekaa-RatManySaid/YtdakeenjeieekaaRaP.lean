/- Plain: numbers as digits to the base 65536, the lowest first. -/
import Derived.Test.YtdakeenjeieekaaRaA
set_option linter.unusedVariables false
set_option linter.unusedSimpArgs false
namespace Go.Proofs.Ytdakeenjeieekaa

def bd (n : Nat) : List Nat := if h : n = 0 then [] else n % 65536 :: bd (n / 65536)
termination_by n
decreasing_by omega
def bv : List Nat → Nat
  | [] => 0
  | x :: l => x + 65536 * bv l
theorem bd_zero : bd 0 = [] := by rw [bd]; simp
theorem bd_pos {n : Nat} (h : n ≠ 0) : bd n = n % 65536 :: bd (n / 65536) := by rw [bd]; simp [h]
theorem bv_bd (n : Nat) : bv (bd n) = n := by
  induction n using Nat.strongRecOn with
  | _ n ih =>
    by_cases h : n = 0
    · subst h; rw [bd_zero]; rfl
    · rw [bd_pos h, bv, ih _ (by omega)]; omega
theorem bv_append (l m : List Nat) : bv (l ++ m) = bv l + 65536 ^ l.length * bv m := by
  induction l with
  | nil => simp [bv]
  | cons x l ih => simp only [List.cons_append, bv, ih, List.length_cons, Nat.pow_succ]; rw [Nat.mul_add, ← Nat.mul_assoc, Nat.mul_comm 65536 (65536 ^ l.length)]; omega
theorem bv_one (x : Nat) : bv [x] = x := by simp [bv]
theorem bd_lt (n : Nat) : ∀ x ∈ bd n, x < 65536 := by
  induction n using Nat.strongRecOn with
  | _ n ih =>
    by_cases h : n = 0
    · subst h; rw [bd_zero]; simp
    · rw [bd_pos h]; intro x hx
      rcases List.mem_cons.1 hx with rfl | hx
      · omega
      · exact ih _ (by omega) x hx
theorem bd_getD (n i : Nat) : (bd n).getD i 0 = n / 65536 ^ i % 65536 := by
  induction i generalizing n with
  | zero =>
    by_cases h : n = 0
    · subst h; rw [bd_zero]; simp
    · rw [bd_pos h]; simp
  | succ i ih =>
    by_cases h : n = 0
    · subst h; rw [bd_zero]; simp
    · rw [bd_pos h, List.getD_cons_succ, ih, Nat.pow_succ, Nat.mul_comm, ← Nat.div_div_eq_div_mul]
theorem bd_get {n i : Nat} (h : i < (bd n).length) : (bd n)[i] = n / 65536 ^ i % 65536 := by
  rw [← bd_getD, List.getD_eq_getElem?_getD, List.getElem?_eq_getElem h]; rfl
theorem bd_len_le (n k : Nat) : (bd n).length ≤ k ↔ n < 65536 ^ k := by
  induction k generalizing n with
  | zero =>
    by_cases h : n = 0
    · subst h; rw [bd_zero]; simp
    · rw [bd_pos h]; simp; omega
  | succ k ih =>
    by_cases h : n = 0
    · subst h; rw [bd_zero]; simp [Nat.pow_pos]
    · rw [bd_pos h, List.length_cons, Nat.succ_le_succ_iff, ih, Nat.pow_succ, Nat.div_lt_iff_lt_mul (by omega)]
theorem bd_len_lt (n k : Nat) : k < (bd n).length ↔ 65536 ^ k ≤ n := by
  have := bd_len_le n k
  omega
theorem bd_lt_len (n : Nat) : n < 65536 ^ (bd n).length := (bd_len_le n _).1 (Nat.le_refl _)
/-- Digits of which the last is not nought. -/
theorem bd_bv : ∀ (l : List Nat), (∀ x ∈ l, x < 65536) → (∀ x, l.getLast? = some x → x ≠ 0) → bd (bv l) = l
  | [], _, _ => by rw [bv, bd_zero]
  | x :: l, hx, hl => by
    have h1 := hx x (List.mem_cons_self ..)
    have ih := bd_bv l (fun y hy => hx y (List.mem_cons_of_mem _ hy)) (fun y hy => by
      cases l with
      | nil => simp at hy
      | cons z l => exact hl y (by rw [List.getLast?_cons_cons]; exact hy))
    have hn : bv (x :: l) ≠ 0 := by
      intro h0
      rw [bv] at h0
      have h2 : bv l = 0 := by omega
      rw [h2, bd_zero] at ih
      subst ih
      exact hl x rfl (by omega)
    rw [bd_pos hn, bv]
    rw [show (x + 65536 * bv l) % 65536 = x by omega, show (x + 65536 * bv l) / 65536 = bv l by omega, ih]
theorem mod_succ (n i : Nat) : n % 65536 ^ (i + 1) = n % 65536 ^ i + 65536 ^ i * (n / 65536 ^ i % 65536) := by
  rw [Nat.pow_succ, Nat.mod_mul]
theorem bv_push (l : List Nat) (x : Nat) : bv (l ++ [x]) = bv l + 65536 ^ l.length * x := by rw [bv_append, bv_one]
theorem bv_lt : ∀ (l : List Nat), (∀ x ∈ l, x < 65536) → bv l < 65536 ^ l.length
  | [], _ => by simp [bv]
  | x :: l, h => by
    have h1 := h x (List.mem_cons_self ..)
    have h2 := bv_lt l (fun y hy => h y (List.mem_cons_of_mem _ hy))
    rw [bv, List.length_cons, Nat.pow_succ]; omega
/-- Two numbers that are alike above a digit are as this digit. -/
theorem cmp_digit {a b i : Nat} (h : a / 65536 ^ (i + 1) = b / 65536 ^ (i + 1)) (hd : a / 65536 ^ i % 65536 < b / 65536 ^ i % 65536) : a < b := by
  have h1 : a / 65536 ^ (i + 1) = a / 65536 ^ i / 65536 := by rw [Nat.pow_succ, Nat.div_div_eq_div_mul]
  have h2 : b / 65536 ^ (i + 1) = b / 65536 ^ i / 65536 := by rw [Nat.pow_succ, Nat.div_div_eq_div_mul]
  have h3 : a / 65536 ^ i < b / 65536 ^ i := by omega
  exact Nat.lt_of_not_le fun hle => absurd (Nat.div_le_div_right (c := 65536 ^ i) hle) (by omega)
theorem div_digit {a b i : Nat} (h : a / 65536 ^ (i + 1) = b / 65536 ^ (i + 1)) (hd : a / 65536 ^ i % 65536 = b / 65536 ^ i % 65536) : a / 65536 ^ i = b / 65536 ^ i := by
  have h1 : a / 65536 ^ (i + 1) = a / 65536 ^ i / 65536 := by rw [Nat.pow_succ, Nat.div_div_eq_div_mul]
  have h2 : b / 65536 ^ (i + 1) = b / 65536 ^ i / 65536 := by rw [Nat.pow_succ, Nat.div_div_eq_div_mul]
  omega
/-- One digit of a sum. -/
theorem add_digit {L : List Nat} {a b c i t : Nat} (hl : L.length = i) (hv : bv L + c * 65536 ^ i = a % 65536 ^ i + b % 65536 ^ i) (ht : t = c + a / 65536 ^ i % 65536 + b / 65536 ^ i % 65536) :
    bv (L ++ [t % 65536]) + t / 65536 * 65536 ^ (i + 1) = a % 65536 ^ (i + 1) + b % 65536 ^ (i + 1) := by
  rw [bv_push, hl, mod_succ, mod_succ, Nat.pow_succ]
  generalize 65536 ^ i = P at *
  generalize a / P % 65536 = x at *
  generalize b / P % 65536 = y at *
  have h1 : P * (t % 65536) + t / 65536 * (P * 65536) = P * t := by
    rw [show t / 65536 * (P * 65536) = P * (65536 * (t / 65536)) by simp only [Nat.mul_comm, Nat.mul_left_comm], ← Nat.mul_add, Nat.add_comm, Nat.div_add_mod]
  have h2 : P * t = c * P + P * x + P * y := by rw [ht, Nat.mul_add, Nat.mul_add, Nat.mul_comm c P]
  omega
/-- One digit of a difference; d: 1 where one is borrowed. -/
theorem sub_digit {L : List Nat} {a b i c d t : Nat} (hl : L.length = i) (hv : bv L + b % 65536 ^ i = a % 65536 ^ i + c * 65536 ^ i) (ht : t + c + b / 65536 ^ i % 65536 = a / 65536 ^ i % 65536 + d * 65536) :
    bv (L ++ [t]) + b % 65536 ^ (i + 1) = a % 65536 ^ (i + 1) + d * 65536 ^ (i + 1) := by
  rw [bv_push, hl, mod_succ, mod_succ, Nat.pow_succ]
  generalize 65536 ^ i = P at *
  generalize a / P % 65536 = x at *
  generalize b / P % 65536 = y at *
  have h1 : P * t + c * P + P * y = P * x + d * (P * 65536) := by
    have := congrArg (P * ·) ht
    simp only [Nat.mul_add] at this
    rw [Nat.mul_comm c P, show d * (P * 65536) = P * (d * 65536) by simp only [Nat.mul_comm, Nat.mul_left_comm]]
    exact this
  omega
theorem get_lt {l : List Nat} (h : ∀ x ∈ l, x < 65536) (i : Nat) (hi : i < l.length) : l[i] < 65536 := h _ (List.getElem_mem hi)
theorem lt_push {l : List Nat} {x : Nat} (h : ∀ y ∈ l, y < 65536) (hx : x < 65536) : ∀ y ∈ l ++ [x], y < 65536 := by
  intro y hy
  rcases List.mem_append.1 hy with hy | hy
  · exact h y hy
  · rw [List.mem_singleton.1 hy]; exact hx
end Go.Proofs.Ytdakeenjeieekaa
