/- Chapter 13: acts that came in. -/
import Derived.Test.YtmnadploikcljaaBkO
set_option linter.unusedVariables false
set_option linter.unusedSimpArgs false
namespace Go.Proofs.Ytmnadploikcljaa
open Go.RowKit

/-- An act as cells: its kind, its packet's ID and size. -/
def acL (x : Int × Int × Int) : List Value := [.int .i64 x.1, .int .i64 x.2.1, .int .i64 x.2.2]
theorem ac_of_rows : ∀ rows : List (List Value), (∀ x ∈ rows, FlatC [.i64, .i64, .i64] x) → ∃ l : List (Int × Int × Int), l.length = rows.length ∧ rows.flatten = l.flatMap acL
  | [], _ => ⟨[], rfl, rfl⟩
  | x :: rows, h => by
    obtain ⟨l, h1, h2⟩ := ac_of_rows rows (fun y hy => h y (by simp [hy]))
    obtain ⟨x0, l0, e0, _, h'⟩ := flat_cons (h x (by simp))
    obtain ⟨x1, l1, e1, _, h''⟩ := flat_cons h'
    obtain ⟨x2, l2, e2, _, h3⟩ := flat_cons h''
    have e3 := flat_nil h3
    subst e3 e2 e1
    exact ⟨(x0, x1, x2) :: l, by simp [h1], by rw [List.flatten_cons, h2, e0]; rfl⟩
theorem see_ac {P : Program} {w : World} {t e : TypeId} {v : Value} {r : Reach} {b0 : Nat} (hu : P.underlying t = some (.slice e)) (m : Nat) (hk : flatK P m e = some [.i64, .i64, .i64]) (hb : P.bytesOf e = 24) (hv : Value.okWide P w r b0 t v) (h : SeesV P w t v) :
    ∃ A c, ∃ l : List (Int × Int × Int), v = .slice A l.length c ∧ l.length ≤ c ∧ c ≤ maxLen ∧ l.length * 24 ≤ 140737488351232 ∧ Rd (fun _ => False) w A (l.flatMap acL) := by
  obtain ⟨A, c, rows, rfl, hlc, hcm, hw, hn, hr, hf⟩ := see_flats hu m hk hv h
  obtain ⟨l, h1, h2⟩ := ac_of_rows rows hf
  rw [hb] at hw
  rw [h2] at hr
  exact ⟨A, c, l, by rw [h1], by omega, hcm, by rw [h1]; exact hw, hr⟩
end Go.Proofs.Ytmnadploikcljaa
