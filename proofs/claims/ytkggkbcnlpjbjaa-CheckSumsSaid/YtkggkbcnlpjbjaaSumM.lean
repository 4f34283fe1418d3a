/- The sums' own law: a sum is its pairs' sum, put together; what follows of it. No program in sight. -/
import Derived.Test.YtkggkbcnlpjbjaaSumG
set_option linter.unusedVariables false
set_option linter.unusedSimpArgs false
namespace Go.Proofs.Ytkggkbcnlpjbjaa
open Go.RowKit

/-- A sum of pairs, put together. -/
def oc (n : Int) : Int := if n = 0 then 0 else (n - 1) % 65535 + 1
/-- The sum of pairs. -/
def tot : List UInt8 → Int
  | [] => 0
  | [x] => 256 * x.toNat
  | x :: y :: l => 256 * x.toNat + y.toNat + tot l
theorem tot_nonneg : ∀ l, 0 ≤ tot l
  | [] => by simp [tot]
  | [x] => by simp only [tot]; omega
  | x :: y :: l => by have := tot_nonneg l; simp only [tot]; omega
theorem putI_oc {a p : Int} (ha : 0 ≤ a) (h0 : 0 ≤ p) (h1 : p ≤ 65535) : putI (oc a) p = oc (a + p) := by
  unfold putI oc
  split <;> split <;> omega
theorem pairs_tot : ∀ (l : List UInt8) (a : Int), 0 ≤ a → pairs (oc a) l = oc (a + tot l)
  | [], a, h => by simp [pairs, tot]
  | [x], a, h => by have := x.toNat_lt; simp only [pairs, tot]; exact putI_oc h (by omega) (by omega)
  | x :: y :: l, a, h => by
    have := x.toNat_lt
    have := y.toNat_lt
    simp only [pairs, tot]
    rw [putI_oc h (by omega) (by omega), pairs_tot l _ (by omega)]
    congr 1; omega
theorem ck_tot (bs : List UInt8) : ck bs = 65535 - oc (tot bs) := by
  rw [ck_pairs]
  have := pairs_tot bs 0 (by omega)
  rw [show oc 0 = 0 from rfl, Int.zero_add] at this
  rw [this]
theorem oc_range {n : Int} (h : 0 ≤ n) : 0 ≤ oc n ∧ oc n ≤ 65535 := by unfold oc; split <;> omega

/-- The weight of the byte at i. -/
def wt (i : Nat) : Int := if i % 2 = 0 then 256 else 1
theorem tot_cons2 (x y : UInt8) (l : List UInt8) : tot (x :: y :: l) = 256 * x.toNat + y.toNat + tot l := rfl
theorem tot_set : ∀ (l : List UInt8) (i : Nat) (v : UInt8) (h : i < l.length), tot (l.set i v) = tot l + wt i * ((v.toNat : Int) - l[i].toNat)
  | [x], 0, v, _ => by simp [tot, wt]; omega
  | x :: y :: l, 0, v, _ => by simp [tot, wt]; omega
  | x :: y :: l, 1, v, _ => by simp [tot, wt]; omega
  | x :: y :: l, i + 2, v, h => by
    have := tot_set l i v (by simpa using h)
    have e : wt (i + 2) = wt i := by unfold wt; rw [Nat.add_mod_right]
    simp only [List.set_cons_succ, tot_cons2, List.getElem_cons_succ, e]
    omega
  | [x], i + 1, v, h => by simp at h
  | [], i, v, h => by simp at h
theorem tot_append_even : ∀ (a b : List UInt8), a.length % 2 = 0 → tot (a ++ b) = tot a + tot b
  | [], b, _ => by simp [tot]
  | [x], b, h => by simp at h
  | x :: y :: a, b, h => by
    have := tot_append_even a b (by simp only [List.length_cons] at h; omega)
    simp only [List.cons_append, tot_cons2, this]
    omega
theorem tot_zeros : ∀ n, tot (List.replicate n 0) = 0
  | 0 => rfl
  | 1 => rfl
  | n + 2 => by
    rw [List.replicate_succ, List.replicate_succ, tot_cons2, tot_zeros n]; rfl
theorem tot_pad (b : List UInt8) (n : Nat) (h : b.length % 2 = 0 ∨ 0 < n) : tot (b ++ List.replicate n 0) = tot b := by
  by_cases he : b.length % 2 = 0
  · rw [tot_append_even b _ he, tot_zeros]; omega
  · obtain ⟨m, rfl⟩ : ∃ m, n = m + 1 := ⟨n - 1, by omega⟩
    rw [show b ++ List.replicate (m + 1) 0 = (b ++ [0]) ++ List.replicate m 0 by rw [List.replicate_succ]; simp]
    rw [tot_append_even _ _ (by simp; omega), tot_zeros]
    have : ∀ l : List UInt8, l.length % 2 = 1 → tot (l ++ [0]) = tot l := by
      intro l
      induction l using tot.induct with
      | case1 => intro h; simp at h
      | case2 x => intro _; simp [tot]
      | case3 x y l ih => intro h; simp only [List.cons_append, tot_cons2, ih (by simp only [List.length_cons] at h; omega)]
    rw [this b (by omega)]; omega
theorem tot_zero_iff : ∀ (l : List UInt8), tot l = 0 ↔ l.all (· == 0) = true
  | [] => by simp [tot]
  | [x] => by
    simp [tot]
    constructor
    · intro h; exact UInt8.toNat_inj.1 (by show x.toNat = 0; omega)
    · rintro rfl; rfl
  | x :: y :: l => by
    have ih := tot_zero_iff l
    have hn := tot_nonneg l
    rw [tot_cons2, List.all_cons, List.all_cons, Bool.and_eq_true, Bool.and_eq_true, ← ih]
    constructor
    · intro h
      refine ⟨?_, ?_, by omega⟩
      · have : x.toNat = 0 := by omega
        simpa using (UInt8.toNat_inj.1 (by simpa using this) : x = 0)
      · have : y.toNat = 0 := by omega
        simpa using (UInt8.toNat_inj.1 (by simpa using this) : y = 0)
    · rintro ⟨h1, h2, h3⟩
      have h1 : x = 0 := by simpa using h1
      have h2 : y = 0 := by simpa using h2
      subst h1; subst h2
      rw [h3]; rfl

/-- Sealed bytes are right. -/
theorem tot_sealed (bs : List UInt8) (k : Nat) (hk : k % 2 = 0) (h : k + 2 ≤ bs.length) : tot (sealed bs k) = tot (zeroed bs k) + ck (zeroed bs k) := by
  have hz : (zeroed bs k).length = bs.length := by simp [zeroed]
  obtain ⟨r0, r1⟩ := ck_range (zeroed bs k)
  unfold sealed
  rw [tot_set _ _ _ (by simp [hz]; omega), tot_set _ _ _ (by omega)]
  have w0 : wt k = 256 := by unfold wt; rw [if_pos hk]
  have w1 : wt (k + 1) = 1 := by unfold wt; rw [if_neg (by omega)]
  have z0 : (zeroed bs k)[k]'(by omega) = 0 := by simp [zeroed]
  have z1 : ((zeroed bs k).set k (u8of (ck (zeroed bs k) / 256)))[k + 1]'(by simp [hz]; omega) = 0 := by simp [zeroed]
  rw [w0, w1, z0, z1, u8of_toNat (by omega) (by omega), u8of_toNat (by omega) (by omega)]
  have : ((0 : UInt8).toNat : Int) = 0 := rfl
  rw [this]
  omega
theorem sealed_right (bs : List UInt8) (k : Nat) (hk : k % 2 = 0) (h : k + 2 ≤ bs.length) : tot (sealed bs k) % 65535 = 0 ∧ 0 < tot (sealed bs k) := by
  rw [tot_sealed bs k hk h, ck_tot]
  have hn := tot_nonneg (zeroed bs k)
  unfold oc
  split <;> omega
theorem ck_zero_iff (l : List UInt8) : ck l = 0 ↔ (tot l % 65535 = 0 ∧ 0 < tot l) := by
  rw [ck_tot]
  have hn := tot_nonneg l
  unfold oc
  split <;> omega
theorem sealed_sealed (bs : List UInt8) (k : Nat) : sealed (sealed bs k) k = sealed bs k := by
  have : zeroed (sealed bs k) k = zeroed bs k := by
    unfold sealed zeroed
    apply List.ext_getElem?
    intro i
    simp only [List.getElem?_set, List.length_set]
    split <;> split <;> simp_all
  unfold sealed
  rw [show zeroed (((zeroed bs k).set k (u8of (ck (zeroed bs k) / 256))).set (k + 1) (u8of (ck (zeroed bs k) % 256))) k = zeroed bs k from this]
/-- One bit turned: another sum. -/
theorem flip_wrong (l : List UInt8) (i : Nat) (h : i < l.length) (v : UInt8) (d : Int) (hv : (v.toNat : Int) = l[i].toNat + d ∨ (v.toNat : Int) = l[i].toNat - d) (hd : 1 ≤ d) (hd2 : d ≤ 128) (hr : tot l % 65535 = 0) : ck (l.set i v) ≠ 0 := by
  rw [Ne, ck_zero_iff, tot_set l i v h]
  unfold wt
  split <;> omega
/-- A sum behind a change. -/
theorem patch_right (l : List UInt8) (i : Nat) (h : 2 * i + 1 < l.length) (x : Int) (h0 : 0 ≤ x) (h1 : x ≤ 65535)
    (hn : 0 < tot ((l.set (2 * i) (u8of (x / 256))).set (2 * i + 1) (u8of (x % 256)))) :
    patchI (ck l) (256 * l[2 * i].toNat + l[2 * i + 1].toNat) x = ck ((l.set (2 * i) (u8of (x / 256))).set (2 * i + 1) (u8of (x % 256))) := by
  have ht : tot ((l.set (2 * i) (u8of (x / 256))).set (2 * i + 1) (u8of (x % 256))) = tot l + x - (256 * l[2 * i].toNat + l[2 * i + 1].toNat) := by
    rw [tot_set _ _ _ (by simp; omega), tot_set _ _ _ (by omega)]
    have w0 : wt (2 * i) = 256 := by unfold wt; rw [if_pos (by omega)]
    have w1 : wt (2 * i + 1) = 1 := by unfold wt; rw [if_neg (by omega)]
    rw [w0, w1, u8of_toNat (by omega) (by omega), u8of_toNat (by omega) (by omega)]
    simp only [List.getElem_set_ne (show 2 * i ≠ 2 * i + 1 by omega)]
    omega
  have hx := (l[2 * i]'(by omega)).toNat_lt
  have hy := (l[2 * i + 1]'(by omega)).toNat_lt
  have hnn := tot_nonneg l
  rw [ck_tot, ck_tot, ht]
  rw [ht] at hn
  generalize (l[2 * i]'(by omega)).toNat = p at *
  generalize (l[2 * i + 1]'(by omega)).toNat = q at *
  unfold patchI
  rw [show (65535 : Int) - (65535 - oc (tot l)) = oc (tot l) by omega]
  rw [putI_oc hnn (by omega) (by omega), putI_oc (by omega) h0 h1]
  unfold oc
  split <;> split <;> omega
/-- Pairs turned. -/
def turn2 : List UInt8 → List UInt8
  | x :: y :: l => y :: x :: turn2 l
  | _ => []
theorem tot_turn : ∀ (l : List UInt8), l.length % 2 = 0 → (tot (turn2 l) - 256 * tot l) % 65535 = 0 ∧ (tot (turn2 l) = 0 ↔ tot l = 0)
  | [], _ => by simp [turn2, tot]
  | [x], h => by simp at h
  | x :: y :: l, h => by
    obtain ⟨a, b⟩ := tot_turn l (by simp only [List.length_cons] at h; omega)
    have h1 := tot_nonneg l
    have h2 := tot_nonneg (turn2 l)
    simp only [turn2, tot_cons2]
    omega
theorem ck_turn (l : List UInt8) (h : l.length % 2 = 0) : ck (turn2 l) = (ck l % 256) * 256 + ck l / 256 := by
  obtain ⟨a, b⟩ := tot_turn l h
  have h1 := tot_nonneg l
  have h2 := tot_nonneg (turn2 l)
  rw [ck_tot, ck_tot]
  generalize tot (turn2 l) = t at *
  generalize tot l = s at *
  unfold oc
  split <;> split <;> omega
/-- Pairs in the other order. -/
def back2 : List UInt8 → List UInt8
  | x :: y :: l => back2 l ++ [x, y]
  | _ => []
theorem back2_even : ∀ l, (back2 l).length % 2 = 0
  | [] => rfl
  | [x] => rfl
  | x :: y :: l => by have := back2_even l; simp [back2]; omega
theorem tot_back : ∀ (l : List UInt8), l.length % 2 = 0 → tot (back2 l) = tot l
  | [], _ => rfl
  | [x], h => by simp at h
  | x :: y :: l, h => by
    have := tot_back l (by simp only [List.length_cons] at h; omega)
    simp only [back2]
    rw [tot_append_even _ _ (back2_even l), this, tot_cons2, tot_cons2]
    simp only [tot]
    omega
end Go.Proofs.Ytkggkbcnlpjbjaa
