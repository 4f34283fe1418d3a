/- Chapter 13: acts in memory. -/
import Derived.Test.YtmnadploikcljaaShZ
import Derived.Test.YtmnadploikcljaaScp
set_option linter.unusedVariables false
set_option linter.unusedSimpArgs false
namespace Go.Proofs.Ytmnadploikcljaa
open Go.RowKit

theorem acs_length (l : List (Int × Int × Int)) : (l.flatMap acL).length = l.length * 3 := by
  induction l with
  | nil => rfl
  | cons x l ih => simp [List.flatMap_cons, acL, ih]; omega
theorem acs_at : ∀ (l : List (Int × Int × Int)) (k : Nat) (h : k < l.length), (l.flatMap acL)[k * 3]? = some (.int .i64 l[k].1) ∧ (l.flatMap acL)[k * 3 + 1]? = some (.int .i64 l[k].2.1) ∧ (l.flatMap acL)[k * 3 + 2]? = some (.int .i64 l[k].2.2)
  | x :: l, 0, h => ⟨rfl, rfl, rfl⟩
  | x :: l, k + 1, h => by
    have ih := acs_at l k (by simpa using h)
    have e : ∀ j, ((x :: l).flatMap acL)[(k + 1) * 3 + j]? = (l.flatMap acL)[k * 3 + j]? := fun j => by
      rw [List.flatMap_cons, List.getElem?_append_right (by simp [acL]; omega)]
      congr 1
      simp [acL]; omega
    have e0 := e 0
    simp only [Nat.add_zero] at e0
    rw [e0, e 1, e 2]
    simpa using ih
theorem rd_ac {S : Nat → Prop} {w : World} {p off : Nat} {l : List (Int × Int × Int)} (h : Rd S w (some ⟨p, off, none⟩) (l.flatMap acL)) (k : Nat) (hk : k < l.length) :
    w.cell? ⟨p, off + k * 3, none⟩ = some (.int .i64 l[k].1) ∧ w.cell? ⟨p, off + k * 3 + 1, none⟩ = some (.int .i64 l[k].2.1) ∧ w.cell? ⟨p, off + k * 3 + 2, none⟩ = some (.int .i64 l[k].2.2) := by
  obtain ⟨e0, e1, e2⟩ := acs_at l k hk
  have key : ∀ j v, (l.flatMap acL)[j]? = some v → w.cell? ⟨p, off + j, none⟩ = some v := fun j v hj => by
    obtain ⟨hj1, rfl⟩ := List.getElem?_eq_some_iff.1 hj
    exact h.at_ j hj1
  exact ⟨key _ _ e0, key _ _ e1, key _ _ e2⟩
end Go.Proofs.Ytmnadploikcljaa
