/- Chapter 02: the plain law of what two send. -/
import Derived.Test.YtedgnmpdmjcadaaSpN
set_option linter.unusedVariables false
set_option linter.unusedSimpArgs false
namespace Go.Proofs.Ytedgnmpdmjcadaa
open Go.RowKit

/-- How many bytes the first n send from one tick to another one. -/
def sentTo (l : List (Int × Int)) (a b : Int) : Nat → Int
  | 0 => 0
  | n + 1 => sentTo l a b n + (if a ≤ at_ l n ∧ at_ l n ≤ b then sz_ l n else 0)
theorem sentTo_row (l : List (Int × Int)) (a b : Int) (hm : ∀ i k, i ≤ k → k < l.length → at_ l i ≤ at_ l k) : ∀ n, n ≤ l.length →
    ∃ k q, k ≤ q ∧ q ≤ n ∧ (∀ i, i < n → ((a ≤ at_ l i ∧ at_ l i ≤ b) ↔ (k ≤ i ∧ i < q))) ∧ sentTo l a b n = sumF l k q
  | 0, _ => ⟨0, 0, Nat.le_refl _, Nat.le_refl _, fun i h => absurd h (by omega), by rw [sumF_self]; rfl⟩
  | n + 1, hn => by
    obtain ⟨k, q, hkq, hq, hi, hs⟩ := sentTo_row l a b hm n (by omega)
    by_cases hr : a ≤ at_ l n ∧ at_ l n ≤ b
    · by_cases he : k = q
      · refine ⟨n, n + 1, by omega, Nat.le_refl _, fun i h => ?_, ?_⟩
        · by_cases e : i = n
          · subst e; exact ⟨fun _ => ⟨Nat.le_refl _, by omega⟩, fun _ => hr⟩
          · rw [hi i (by omega)]; constructor <;> intro h' <;> omega
        · simp only [sentTo, if_pos hr]
          rw [hs, he, sumF_self, sumF_snoc l n n (Nat.le_refl _) (by omega), sumF_self]
      · have hqn : q = n := by
          rcases Nat.lt_or_ge q n with h | h
          · exfalso
            have h1 := (hi k (by omega)).2 ⟨Nat.le_refl _, by omega⟩
            have h2 := mt (hi q h).1 (by omega)
            have h3 := hm k q (by omega) (by omega)
            have h4 := hm q n (by omega) (by omega)
            exact h2 ⟨by omega, by omega⟩
          · omega
        subst hqn
        refine ⟨k, q + 1, by omega, Nat.le_refl _, fun i h => ?_, ?_⟩
        · by_cases e : i = q
          · subst e; exact ⟨fun _ => ⟨by omega, by omega⟩, fun _ => hr⟩
          · rw [hi i (by omega)]; constructor <;> intro h' <;> omega
        · simp only [sentTo, if_pos hr]
          rw [hs, sumF_snoc l k q hkq (by omega)]
    · refine ⟨k, q, hkq, by omega, fun i h => ?_, ?_⟩
      · by_cases e : i = n
        · subst e; exact ⟨fun h' => absurd h' hr, fun h' => absurd h'.2 (by omega)⟩
        · exact hi i (by omega)
      · simp only [sentTo, if_neg hr]
        rw [hs]
        omega
theorem sent_le (s : Sp) (hr : s.Right) (l : List (Int × Int)) (hk : Keeps s l) (a b : Int) (hab : a ≤ b) : sentTo l a b l.length ≤ alw s (b - a) ∧ 0 ≤ sentTo l a b l.length := by
  have hm := fits_mono (s := s) (l := l) (n := l.length) (fun j hj => (hk j hj).fits)
  obtain ⟨k, q, hkq, hq, hi, hs⟩ := sentTo_row l a b hm l.length (Nat.le_refl _)
  have hpos : ∀ d, ∀ k, k + d ≤ l.length → 0 ≤ sumF l k (k + d) := by
    intro d
    induction d with
    | zero => intro k _; rw [Nat.add_zero, sumF_self]; exact Int.le_refl _
    | succ d ih =>
      intro k h
      have := (hk (k + d) (by omega)).size
      have h4 := hr.r4
      rw [show k + (d + 1) = k + d + 1 by omega, sumF_snoc l k (k + d) (by omega) (by omega)]
      have := ih k (by omega)
      omega
  have hp := hpos (q - k) k (by omega)
  rw [show k + (q - k) = q by omega] at hp
  rw [hs]
  refine ⟨?_, hp⟩
  by_cases he : k = q
  · subst he
    rw [sumF_self]
    have h0 := alw_mono hr (t := 0) (u := b - a) (Int.le_refl _) (by omega)
    have h1 := hr.r4
    have h2 := hr.r5
    rw [alw_zero hr] at h0
    omega
  · have h1 := (hi k (by omega)).2 ⟨Nat.le_refl _, by omega⟩
    have h2 := (hi (q - 1) (by omega)).2 ⟨by omega, by omega⟩
    have h3 := (hk (q - 1) (by omega)).bytes k (by omega)
    have h4 := hm k (q - 1) (by omega) (by omega)
    rw [show q - 1 + 1 = q by omega] at h3
    have h5 := alw_mono hr (t := at_ l (q - 1) - at_ l k) (u := b - a) (by omega) (by omega)
    omega
theorem alw_two (a b : Sp) (ha : a.Right) (hb : b.Right) (t : Int) (h0 : 0 ≤ t) : alw a t + alw b t ≤ alw (sm [a, b]) t + (sm [a, b]).most := by
  have e : sm [a, b] = plusS a b := rfl
  rw [e]
  obtain ⟨q1, q2, q3, q4, q5, q6, q7, q8⟩ := ha
  obtain ⟨p1, p2, p3, p4, p5, p6, p7, p8⟩ := hb
  have e1 : (a.peak + b.peak) * t = a.peak * t + b.peak * t := Int.add_mul ..
  have e2 : (a.rate + b.rate) * t = a.rate * t + b.rate * t := Int.add_mul ..
  simp only [alw, plusS]
  rw [e1, e2]
  omega
theorem two_le (a b : Sp) (ha : a.Right) (hb : b.Right) (x y : List (Int × Int)) (hx : Keeps a x) (hy : Keeps b y) (f t : Int) (hft : f ≤ t) :
    sentTo x f t x.length + sentTo y f t y.length ≤ alw (sm [a, b]) (t - f) + (sm [a, b]).most := by
  have h1 := (sent_le a ha x hx f t hft).1
  have h2 := (sent_le b hb y hy f t hft).1
  have h3 := alw_two a b ha hb (t - f) (by omega)
  omega
end Go.Proofs.Ytedgnmpdmjcadaa
