/- Chapter 12: two numbers that came in. -/
import Derived.Test.YtmnadploikcljaaSpO
set_option linter.unusedVariables false
set_option linter.unusedSimpArgs false
namespace Go.Proofs.Ytmnadploikcljaa
open Go.RowKit

theorem two_of_flat {cs : Array Value} (h : FlatC [.i64, .i64] cs.toList) : ∃ z y : Int, cs = #[.int .i64 z, .int .i64 y] ∧ (-9223372036854775808 ≤ z ∧ z ≤ 9223372036854775807) ∧ (-9223372036854775808 ≤ y ∧ y ≤ 9223372036854775807) := by
  obtain ⟨l⟩ := cs
  obtain ⟨x0, l0, e0, h0, h⟩ := flat_cons h
  obtain ⟨x1, l1, e1, h1, h⟩ := flat_cons h
  have e2 := flat_nil h
  subst e2 e1
  have e0' : l = [.int .i64 x0, .int .i64 x1] := e0
  subst e0'
  exact ⟨x0, x1, rfl, wf_i64 h0, wf_i64 h1⟩
end Go.Proofs.Ytmnadploikcljaa
