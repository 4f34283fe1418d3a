/- Chapter 13: the plain facts of 'known'. -/
import Derived.Test.YtmnadploikcljaaShK
set_option linter.unusedVariables false
set_option linter.unusedSimpArgs false
namespace Go.Proofs.Ytmnadploikcljaa
open Go.RowKit

abbrev kn1 : Sh := { shNew knP 20 with L := [(1, 8)] }
abbrev kn2 : Sh := { shNew knP 20 with L := [(1, 8), (2, 8)] }
theorem kn_put1 : putE (shNew knP 20) 1 8 = 0 ∧ putX (shNew knP 20) 1 8 = kn1 := by
  have h : putE (shNew knP 20) 1 8 = 0 := by decide
  exact ⟨h, by unfold putX; rw [if_pos h]; rfl⟩
theorem kn_put2 : putE kn1 2 8 = 0 ∧ putX kn1 2 8 = kn2 := by
  have h : putE kn1 2 8 = 0 := by decide
  exact ⟨h, by unfold putX; rw [if_pos h]; rfl⟩
theorem kn_put3 : putE kn2 3 5 = 230 ∧ putX kn2 3 5 = kn2 := by
  have h : putE kn2 3 5 = 230 := by decide
  exact ⟨h, by unfold putX; rw [if_neg (by rw [h]; decide)]⟩
theorem kn_may : (kn2 : Sh).B.may 0 := ⟨Int.le_refl _, by decide⟩
/-- Keeps, of one more, by the bucket. -/
theorem keeps_adv {s : Sp} {l : List (Int × Int)} {B : Bk} (h : BkOf s l B) {t z : Int} (hm : B.may t) : Keeps s (l ++ [(t, z)]) ↔ (B.adv t).fits z := (h.take hm z).2
theorem kn_k1 : Keeps knP ([] ++ [(0, 8)]) := (keeps_adv (bkOf_new knP_right) (t := 0) (z := 8) ⟨by decide, by decide⟩).2 (by decide)
def knB : Bk := (bkNew knP).take 0 8
theorem kn_of : BkOf knP [(0, 8)] knB := by
  have := (bkOf_new knP_right).take (t := 0) ⟨by decide, by decide⟩ 8
  have h2 := this.1
  unfold lTake at h2
  rw [if_pos kn_k1] at h2
  exact h2
theorem kn_k2 : ¬ Keeps knP ([(0, 8)] ++ [(0, 8)]) := fun h => absurd ((keeps_adv kn_of (t := 0) (z := 8) ⟨by decide, by decide⟩).1 h) (by decide)
theorem kn_k3 : Keeps knP ([(0, 8)] ++ [(1, 8)]) := (keeps_adv kn_of (t := 1) (z := 8) ⟨by decide, by decide⟩).2 (by decide)
theorem kn_goN : goN knP 0 [] [(1, 8), (2, 8)] = 1 := by
  show (if Keeps knP ([] ++ [(0, 8)]) then (if Keeps knP ([(0, 8)] ++ [(0, 8)]) then _ else 0) + 1 else 0) = 1
  rw [if_pos kn_k1, if_neg kn_k2]
theorem kn_next {B : Bk} (h : BkOf knP [(0, 8)] B) (hn : B.now = 0) : B.whenT 0 8 = 1 := by
  have hm : B.may 0 := ⟨by omega, by decide⟩
  have h1 := (h.when (t := 0) (z := 8) (u := 1) hm (by decide) (by decide)).1 ((keeps_adv h ⟨by omega, by decide⟩).1 kn_k3)
  have h0 : ¬ B.whenT 0 8 ≤ 0 := fun hh => kn_k2 ((keeps_adv h hm).2 ((h.when (t := 0) (z := 8) (u := 0) hm (by decide) (by decide)).2 hh))
  omega
end Go.Proofs.Ytmnadploikcljaa
