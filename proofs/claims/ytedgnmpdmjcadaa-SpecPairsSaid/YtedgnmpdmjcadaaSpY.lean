/- A list of specs that came in. -/
import Derived.Test.YtedgnmpdmjcadaaSpO
import Derived.Test.YtedgnmpdmjcadaaSpI
set_option linter.unusedVariables false
set_option linter.unusedSimpArgs false
namespace Go.Proofs.Ytedgnmpdmjcadaa
open Go.RowKit

theorem sps_of_rows : ∀ rows : List (List Value), (∀ x ∈ rows, FlatC [.i64, .i64, .i64, .i64, .i64] x) → ∃ l : List Sp, l.length = rows.length ∧ rows.flatten = sps l
  | [], _ => ⟨[], rfl, rfl⟩
  | x :: rows, h => by
    obtain ⟨l, h1, h2⟩ := sps_of_rows rows (fun y hy => h y (by simp [hy]))
    obtain ⟨s, e, _⟩ := sp_of_flat (cs := x.toArray) (by simpa using h x (by simp))
    refine ⟨s :: l, by simp [h1], ?_⟩
    rw [List.flatten_cons, h2, sps_cons]
    congr 1
    exact congrArg Array.toList e
theorem see_sps {P : Program} {w : World} {t e : TypeId} {v : Value} {r : Reach} {b0 : Nat} (hu : P.underlying t = some (.slice e)) (m : Nat) (hk : flatK P m e = some [.i64, .i64, .i64, .i64, .i64]) (hb : P.bytesOf e = 40) (hv : Value.okWide P w r b0 t v) (h : SeesV P w t v) :
    ∃ A c, ∃ l : List Sp, v = .slice A l.length c ∧ l.length ≤ c ∧ c ≤ maxLen ∧ l.length * 40 ≤ 140737488351232 ∧ Rd (fun _ => False) w A (sps l) := by
  obtain ⟨A, c, rows, rfl, hlc, hcm, hw, hn, hr, hf⟩ := see_flats hu m hk hv h
  obtain ⟨l, h1, h2⟩ := sps_of_rows rows hf
  rw [hb] at hw
  rw [h2] at hr
  exact ⟨A, c, l, by rw [h1], by omega, hcm, by rw [h1]; exact hw, hr⟩
end Go.Proofs.Ytedgnmpdmjcadaa
