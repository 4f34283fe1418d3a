/- Chapter 02: the plain law of sendings. No program in sight (but for the elements' cells). -/
import Derived.Test.YtmnadploikcljaaSpCb
set_option linter.unusedVariables false
set_option linter.unusedSimpArgs false
namespace Go.Proofs.Ytmnadploikcljaa
open Go.RowKit

/-- Sendings (tick, size) as cells. -/
def sends (l : List (Int × Int)) : List Value := l.flatMap fun p => [.int .i64 p.1, .int .i64 p.2]
theorem sends_length : ∀ l, (sends l).length = 2 * l.length
  | [] => rfl
  | p :: l => by have := sends_length l; simp [sends] at this ⊢; omega
theorem sends_at0 : ∀ (l : List (Int × Int)) (i : Nat) (h : i < l.length) (h' : i * 2 < (sends l).length), (sends l)[i * 2] = .int .i64 l[i].1
  | p :: l, 0, _, _ => rfl
  | p :: l, i + 1, h, h' => by
    have := sends_at0 l i (by simpa using h) (by rw [sends_length]; simp at h; omega)
    show (Value.int .i64 p.1 :: Value.int .i64 p.2 :: sends l)[(i + 1) * 2] = _
    simp only [show (i + 1) * 2 = i * 2 + 1 + 1 by omega, List.getElem_cons_succ]
    exact this
theorem sends_at1 : ∀ (l : List (Int × Int)) (i : Nat) (h : i < l.length) (h' : i * 2 + 1 < (sends l).length), (sends l)[i * 2 + 1] = .int .i64 l[i].2
  | p :: l, 0, _, _ => rfl
  | p :: l, i + 1, h, h' => by
    have := sends_at1 l i (by simpa using h) (by rw [sends_length]; simp at h; omega)
    show (Value.int .i64 p.1 :: Value.int .i64 p.2 :: sends l)[(i + 1) * 2 + 1] = _
    simp only [show (i + 1) * 2 + 1 = i * 2 + 1 + 1 + 1 by omega, List.getElem_cons_succ]
    exact this
/-- The sizes from k on, below n. -/
def sumF (l : List (Int × Int)) (k n : Nat) : Int := (((l.take n).drop k).map Prod.snd).sum
theorem sumF_self (l : List (Int × Int)) (n : Nat) : sumF l n n = 0 := by
  simp only [sumF]
  rw [List.drop_eq_nil_of_le (by simp; omega)]
  rfl
theorem sumF_step (l : List (Int × Int)) (k n : Nat) (h : k < n) (hn : n ≤ l.length) : sumF l k n = (l[k]'(by omega)).2 + sumF l (k + 1) n := by
  simp only [sumF]
  rw [List.drop_eq_getElem_cons (by simp; omega)]
  simp
def at_ (l : List (Int × Int)) (i : Nat) : Int := (l.getD i (0, 0)).1
def sz_ (l : List (Int × Int)) (i : Nat) : Int := (l.getD i (0, 0)).2
theorem at_eq (l : List (Int × Int)) (i : Nat) (h : i < l.length) : at_ l i = l[i].1 := by simp [at_, h]
theorem sz_eq (l : List (Int × Int)) (i : Nat) (h : i < l.length) : sz_ l i = l[i].2 := by simp [sz_, h]
theorem rdl_cells {S : Nat → Prop} {w : World} {b off : Nat} {l : List (Int × Int)} (h : Rd S w (some ⟨b, off, none⟩) (sends l)) (i : Nat) (hi : i < l.length) :
    w.cell? ⟨b, off + i * 2, none⟩ = some (.int .i64 (at_ l i)) ∧ w.cell? ⟨b, off + i * 2 + 1, none⟩ = some (.int .i64 (sz_ l i)) := by
  have c0 := h.at_ (i * 2) (by rw [sends_length]; omega)
  have c1 := h.at_ (i * 2 + 1) (by rw [sends_length]; omega)
  rw [sends_at0 l i hi, ← at_eq l i hi] at c0
  rw [sends_at1 l i hi, ← sz_eq l i hi, ← Nat.add_assoc] at c1
  exact ⟨c0, c1⟩
/-- Sending i keeps to the spec, with those ahead of it. -/
structure Good (s : Sp) (l : List (Int × Int)) (i : Nat) : Prop where
  tick : 0 ≤ at_ l i ∧ at_ l i ≤ 2147483647
  size : s.least ≤ sz_ l i ∧ sz_ l i ≤ s.most
  order : 0 < i → at_ l (i - 1) ≤ at_ l i
  bytes : ∀ k, k ≤ i → sumF l k (i + 1) ≤ alw s (at_ l i - at_ l k)
theorem good_iff (s : Sp) (l : List (Int × Int)) (i : Nat) : Good s l i ↔ ((0 ≤ at_ l i ∧ at_ l i ≤ 2147483647) ∧ (s.least ≤ sz_ l i ∧ sz_ l i ≤ s.most) ∧ (0 < i → at_ l (i - 1) ≤ at_ l i) ∧ ∀ k, k < i + 1 → sumF l k (i + 1) ≤ alw s (at_ l i - at_ l k)) :=
  ⟨fun ⟨a, b, c, d⟩ => ⟨a, b, c, fun k hk => d k (by omega)⟩, fun ⟨a, b, c, d⟩ => ⟨a, b, c, fun k hk => d k (by omega)⟩⟩
instance (s : Sp) (l : List (Int × Int)) (i : Nat) : Decidable (Good s l i) := decidable_of_iff _ (good_iff s l i).symm
/-- The first one that does not keep. -/
def brkFrom (s : Sp) (l : List (Int × Int)) : Nat → Nat → Nat
  | 0, i => i
  | f + 1, i => if Good s l i then brkFrom s l f (i + 1) else i
def brk (s : Sp) (l : List (Int × Int)) : Nat := brkFrom s l l.length 0
structure Brk (s : Sp) (l : List (Int × Int)) (n : Nat) : Prop where
  le : n ≤ l.length
  good : ∀ i, i < n → Good s l i
  bad : n < l.length → ¬ Good s l n
theorem brkFrom_brk (s : Sp) (l : List (Int × Int)) : ∀ f i, i + f = l.length → (∀ j, j < i → Good s l j) → Brk s l (brkFrom s l f i)
  | 0, i, h, hg => ⟨by simp [brkFrom]; omega, by simpa [brkFrom] using hg, fun h' => by simp [brkFrom] at h'; omega⟩
  | f + 1, i, h, hg => by
    unfold brkFrom
    split
    · rename_i hgi
      refine brkFrom_brk s l f (i + 1) (by omega) (fun j hj => ?_)
      by_cases h2 : j = i
      · subst h2; exact hgi
      · exact hg j (by omega)
    · rename_i hgi
      exact ⟨by omega, hg, fun _ => hgi⟩
theorem brk_brk (s : Sp) (l : List (Int × Int)) : Brk s l (brk s l) := brkFrom_brk s l _ 0 (by omega) (fun j h => absurd h (by omega))
theorem Brk.eq {s : Sp} {l : List (Int × Int)} {n : Nat} (h : Brk s l n) : brk s l = n := by
  have h2 := brk_brk s l
  rcases Nat.lt_trichotomy (brk s l) n with h3 | h3 | h3
  · exact absurd (h.good _ h3) (h2.bad (Nat.lt_of_lt_of_le h3 h.le))
  · exact h3
  · exact absurd (h2.good _ h3) (h.bad (Nat.lt_of_lt_of_le h3 h2.le))
/-- All of them keep. -/
def Keeps (s : Sp) (l : List (Int × Int)) : Prop := ∀ i, i < l.length → Good s l i
instance (s : Sp) (l : List (Int × Int)) : Decidable (Keeps s l) := by unfold Keeps; infer_instance
theorem keeps_brk (s : Sp) (l : List (Int × Int)) : brk s l = l.length ↔ Keeps s l :=
  ⟨fun h i hi => (brk_brk s l).good i (by omega), fun h => Brk.eq ⟨Nat.le_refl _, h, fun h => absurd h (by omega)⟩⟩
/-- Ticks do not fall, where all ahead are good. -/
theorem at_mono {s : Sp} {l : List (Int × Int)} {i : Nat} (h : ∀ j, j < i → Good s l j) (hi : 0 < i → at_ l (i - 1) ≤ at_ l i) : ∀ k, k ≤ i → at_ l k ≤ at_ l i := by
  have key : ∀ d, ∀ k, k + d < i → at_ l k ≤ at_ l (k + d) := by
    intro d
    induction d with
    | zero => intro k _; exact Int.le_refl _
    | succ d ih =>
      intro k hk
      have h1 := ih k (by omega)
      have h2 := (h (k + (d + 1)) hk).order (by omega)
      rw [show k + (d + 1) - 1 = k + d by omega] at h2
      omega
  intro k hk
  by_cases h2 : k = i
  · subst h2; exact Int.le_refl _
  · have h3 := key (i - 1 - k) k (by omega)
    rw [show k + (i - 1 - k) = i - 1 by omega] at h3
    have := hi (by omega)
    omega
end Go.Proofs.Ytmnadploikcljaa
