/- Chapter 02 (tspec): Allows, and the document's Right, Allows. -/
import Derived.Test.YtedgnmpdmjcadaaSpB
import Derived.Laws.Rows
set_option linter.unusedVariables false
set_option linter.unusedSimpArgs false
namespace Go.Proofs.Ytedgnmpdmjcadaa
open Go.RowKit

theorem sp_cells {w : World} {b : Nat} {s : Sp} (h : w.heap[b]? = some (.cells (spc s) 23 (0, 0))) :
    w.cell? ⟨b, 0, none⟩ = some (.int .i64 s.peak) ∧ w.cell? ⟨b, 1, none⟩ = some (.int .i64 s.rate) ∧ w.cell? ⟨b, 2, none⟩ = some (.int .i64 s.burst) ∧ w.cell? ⟨b, 3, none⟩ = some (.int .i64 s.most) ∧ w.cell? ⟨b, 4, none⟩ = some (.int .i64 s.least) :=
  ⟨cell_of_blk h 0, cell_of_blk h 1, cell_of_blk h 2, cell_of_blk h 3, cell_of_blk h 4⟩
theorem some_calls (w : World) : Calls Try.prog 27 #[] w fun e w' => e = .returned (spv ⟨10, 2, 20, 8, 1⟩) ∧ Fr0 w w' := by
  go_enter Try.func27, Try.ntmps27
  go_wp2_with fail
  exact bodyPost_ret (v := spv ⟨10, 2, 20, 8, 1⟩) (results_cell_row rfl _ _ w.heap.size _ _ _ _ rfl (heap_alloc_new w (.cells #[.int .i64 10, .int .i64 2, .int .i64 20, .int .i64 8, .int .i64 1] 23)) Try.underlying23 rfl (by kernel_rfl)) rfl ⟨rfl, (Fr.refl _ w).alloc _⟩

theorem rright_calls (s : Sp) (w : World) : Calls Try.prog 13 #[spv s] w fun e w' => e = .returned (.bool (decide s.Right)) ∧ Fr0 w w' := by
  have HRI := Lib.hid (s.right_iff)
  go_enter Try.func13, Try.ntmps13
  go_wp2_with fail
  all_goals
    go_ret
    refine ⟨rtb ((?_ : _ = decide _).trans (decide_eq_decide.2 HRI.out.symm)), (Fr.refl _ w).alloc _⟩
    first
      | exact (decide_eq_false (by omega)).symm
      | exact decide_eq_decide.2 (by omega)

theorem allowsx_calls (s : Sp) (t : Int) (w : World) : Calls Try.prog 17 #[spv s, .int .i64 t] w fun e w' =>
    e = .returned (if s.Right ∧ 0 ≤ t ∧ t ≤ 2147483647 then .tuple #[.int .i64 (alw s t), .int .i64 0] else .tuple #[.int .i64 0, .int .i64 2]) ∧ Fr0 w w' := by
  by_cases hr : s.Right
  · have hc : chk s = 0 := if_pos hr
    have HC := Lib.hid (check_calls s)
    rw [hc] at HC
    by_cases ht : 0 ≤ t ∧ t ≤ 2147483647
    · have HA := Lib.hid (fun w => allows_calls s t w hr ht.1 ht.2)
      have HW := Lib.hid (within_calls t 0 2147483647)
      rw [decide_eq_true ht] at HW
      rw [if_pos ⟨hr, ht⟩]
      have HB := Lib.hid (heap_alloc_new w (.cells (spc s) 23))
      clear hc
      go_enter Try.func17, Try.ntmps17
      go_wp2_with (first
        | (go_at_call 14; refine (HC.out _).mono ?_; rintro e w1 ⟨rfl, hf1⟩; obtain ⟨c0, c1, c2, c3, c4⟩ := sp_cells (hf1.blk HB.out (fun h => h)); have HF1 := Lib.hid (((Fr.refl (fun _ => False) w).alloc _).trans hf1); clear hf1)
        | (go_at_call 28; refine (HW.out _).mono ?_; rintro e w2 ⟨rfl, rfl⟩)
        | (go_at_call 29; refine (HA.out _).mono ?_; rintro e w2 ⟨rfl, hf2⟩))
      go_ret2
      exact ⟨rfl, HF1.out.trans hf2⟩
    · have HW := Lib.hid (within_calls t 0 2147483647)
      rw [decide_eq_false ht] at HW
      rw [if_neg (fun h => ht h.2)]
      go_enter Try.func17, Try.ntmps17
      go_wp2_with (first
        | (go_at_call 14; refine (HC.out _).mono ?_; rintro e w1 ⟨rfl, hf1⟩)
        | (go_at_call 28; refine (HW.out _).mono ?_; rintro e w2 ⟨rfl, rfl⟩))
      go_ret2
      exact ⟨rfl, ((Fr.refl _ w).alloc _).trans hf1⟩
  · have hc : chk s = 2 := if_neg hr
    have HC := Lib.hid (check_calls s)
    rw [hc] at HC
    rw [if_neg (fun h => hr h.1)]
    go_enter Try.func17, Try.ntmps17
    go_wp2_with (first
      | (go_at_call 14; refine (HC.out _).mono ?_; rintro e w1 ⟨rfl, hf1⟩))
    go_ret2
    exact ⟨rfl, ((Fr.refl _ w).alloc _).trans hf1⟩

theorem rallows_calls (s : Sp) (t : Int) (w : World) (hr : s.Right) (h0 : 0 ≤ t) (h1 : t ≤ 2147483647) :
    Calls Try.prog 18 #[spv s, .int .i64 t] w fun e w' => e = .returned (.int .i64 (alw s t)) ∧ Fr0 w w' := by
  obtain ⟨⟨a1, a2⟩, a3, a4⟩ := alw_prod hr h0 h1
  have HA : Hid (alw s t = min (s.most + s.peak * t) (s.burst + s.rate * t)) := Lib.hid rfl
  obtain ⟨q1, q2, q3, q4, q5, q6, q7, q8⟩ := hr
  have e1 : IntKind.i64.wrap (s.peak * t) = s.peak * t := by rw [IntKind.wrap_i64]; omega
  have e2 : IntKind.i64.wrap (s.rate * t) = s.rate * t := by rw [IntKind.wrap_i64]; omega
  have e3 : IntKind.i64.wrap (s.most + s.peak * t) = s.most + s.peak * t := by rw [IntKind.wrap_i64]; omega
  have e4 : IntKind.i64.wrap (s.burst + s.rate * t) = s.burst + s.rate * t := by rw [IntKind.wrap_i64]; omega
  go_enter Try.func18, Try.ntmps18
  go_wp2_with fail
  go_region
  go_wp2_with fail
  all_goals
    go_ret
    refine ⟨rti ?_, ((Fr.refl _ w).alloc _).drew⟩
    rw [HA.out]
    omega
end Go.Proofs.Ytedgnmpdmjcadaa
