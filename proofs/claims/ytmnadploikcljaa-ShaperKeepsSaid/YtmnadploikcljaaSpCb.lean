/- Chapter 02 (tspec): Allows, and the document's Right, Allows. -/
import Derived.Test.YtmnadploikcljaaSpB
import Derived.Laws.Rows
set_option linter.unusedVariables false
set_option linter.unusedSimpArgs false
namespace Go.Proofs.Ytmnadploikcljaa
open Go.RowKit

theorem sp_cells {w : World} {b : Nat} {s : Sp} (h : w.heap[b]? = some (.cells (spc s) 23 (0, 0))) :
    w.cell? ⟨b, 0, none⟩ = some (.int .i64 s.peak) ∧ w.cell? ⟨b, 1, none⟩ = some (.int .i64 s.rate) ∧ w.cell? ⟨b, 2, none⟩ = some (.int .i64 s.burst) ∧ w.cell? ⟨b, 3, none⟩ = some (.int .i64 s.most) ∧ w.cell? ⟨b, 4, none⟩ = some (.int .i64 s.least) :=
  ⟨cell_of_blk h 0, cell_of_blk h 1, cell_of_blk h 2, cell_of_blk h 3, cell_of_blk h 4⟩
theorem rright_calls (s : Sp) (w : World) : Calls Try.prog 40 #[spv s] w fun e w' => e = .returned (.bool (decide s.Right)) ∧ Fr0 w w' := by
  have HRI := Lib.hid (s.right_iff)
  go_enter Try.func40, Try.ntmps40
  go_wp2_with fail
  all_goals
    go_ret
    refine ⟨rtb ((?_ : _ = decide _).trans (decide_eq_decide.2 HRI.out.symm)), (Fr.refl _ w).alloc _⟩
    first
      | exact (decide_eq_false (by omega)).symm
      | exact decide_eq_decide.2 (by omega)

theorem rallows_calls (s : Sp) (t : Int) (w : World) (hr : s.Right) (h0 : 0 ≤ t) (h1 : t ≤ 2147483647) :
    Calls Try.prog 32 #[spv s, .int .i64 t] w fun e w' => e = .returned (.int .i64 (alw s t)) ∧ Fr0 w w' := by
  obtain ⟨⟨a1, a2⟩, a3, a4⟩ := alw_prod hr h0 h1
  have HA : Hid (alw s t = min (s.most + s.peak * t) (s.burst + s.rate * t)) := Lib.hid rfl
  obtain ⟨q1, q2, q3, q4, q5, q6, q7, q8⟩ := hr
  have e1 : IntKind.i64.wrap (s.peak * t) = s.peak * t := by rw [IntKind.wrap_i64]; omega
  have e2 : IntKind.i64.wrap (s.rate * t) = s.rate * t := by rw [IntKind.wrap_i64]; omega
  have e3 : IntKind.i64.wrap (s.most + s.peak * t) = s.most + s.peak * t := by rw [IntKind.wrap_i64]; omega
  have e4 : IntKind.i64.wrap (s.burst + s.rate * t) = s.burst + s.rate * t := by rw [IntKind.wrap_i64]; omega
  go_enter Try.func32, Try.ntmps32
  go_wp2_with fail
  go_region
  go_wp2_with fail
  all_goals
    go_ret
    refine ⟨rti ?_, ((Fr.refl _ w).alloc _).drew⟩
    rw [HA.out]
    omega
end Go.Proofs.Ytmnadploikcljaa
