/- Chapter 05: openers: three numbers, four, a spec. -/
import Derived.Test.YtjldogfpccbkeaaRaO
import Derived.Test.YtjldogfpccbkeaaM5
set_option linter.unusedVariables false
set_option linter.unusedSimpArgs false
namespace Go.Proofs.Ytjldogfpccbkeaa
open Go.RowKit

theorem three_of_flat {cs : Array Value} (h : FlatC [.i64, .i64, .i64] cs.toList) : ∃ x y z : Int, cs = #[.int .i64 x, .int .i64 y, .int .i64 z] ∧ I64r x ∧ I64r y ∧ I64r z := by
  obtain ⟨l⟩ := cs
  obtain ⟨x0, l0, e0, h0, h⟩ := flat_cons h
  obtain ⟨x1, l1, e1, h1, h⟩ := flat_cons h
  obtain ⟨x2, l2, e2, h2, h⟩ := flat_cons h
  have e3 := flat_nil h
  subst e3 e2 e1
  have e0' : l = [.int .i64 x0, .int .i64 x1, .int .i64 x2] := e0
  subst e0'
  exact ⟨x0, x1, x2, rfl, wf_i64 h0, wf_i64 h1, wf_i64 h2⟩
theorem four_of_flat {cs : Array Value} (h : FlatC [.i64, .i64, .i64, .i64] cs.toList) : ∃ x y z u : Int, cs = #[.int .i64 x, .int .i64 y, .int .i64 z, .int .i64 u] ∧ I64r x ∧ I64r y ∧ I64r z ∧ I64r u := by
  obtain ⟨l⟩ := cs
  obtain ⟨x0, l0, e0, h0, h⟩ := flat_cons h
  obtain ⟨x1, l1, e1, h1, h⟩ := flat_cons h
  obtain ⟨x2, l2, e2, h2, h⟩ := flat_cons h
  obtain ⟨x3, l3, e3, h3, h⟩ := flat_cons h
  have e4 := flat_nil h
  subst e4 e3 e2 e1
  have e0' : l = [.int .i64 x0, .int .i64 x1, .int .i64 x2, .int .i64 x3] := e0
  subst e0'
  exact ⟨x0, x1, x2, x3, rfl, wf_i64 h0, wf_i64 h1, wf_i64 h2, wf_i64 h3⟩
theorem spec_of_flat {cs : Array Value} (h : FlatC [.i64, .i64, .i64, .i64, .i64] cs.toList) : ∃ s : Sp, cs = spc s ∧ I64r s.peak ∧ I64r s.rate ∧ I64r s.burst ∧ I64r s.most ∧ I64r s.least := by
  obtain ⟨l⟩ := cs
  obtain ⟨x0, l0, e0, h0, h⟩ := flat_cons h
  obtain ⟨x1, l1, e1, h1, h⟩ := flat_cons h
  obtain ⟨x2, l2, e2, h2, h⟩ := flat_cons h
  obtain ⟨x3, l3, e3, h3, h⟩ := flat_cons h
  obtain ⟨x4, l4, e4, h4, h⟩ := flat_cons h
  have e5 := flat_nil h
  subst e5 e4 e3 e2 e1
  have e0' : l = [.int .i64 x0, .int .i64 x1, .int .i64 x2, .int .i64 x3, .int .i64 x4] := e0
  subst e0'
  exact ⟨⟨x0, x1, x2, x3, x4⟩, rfl, wf_i64 h0, wf_i64 h1, wf_i64 h2, wf_i64 h3, wf_i64 h4⟩
end Go.Proofs.Ytjldogfpccbkeaa
