/- Chapter 13: the document's New. -/
import Derived.Test.YtmnadploikcljaaShO
import Derived.Deep.AppendLies
set_option linter.unusedVariables false
set_option linter.unusedSimpArgs false
namespace Go.Proofs.Ytmnadploikcljaa
open Go.RowKit

set_option maxHeartbeats 2000000 in
/-- New, by the document. -/
theorem rsnew_calls (s : Sp) (room : Int) (w : World) :
    Calls Try.prog 19 #[spv s, .int .i64 room] w fun e w' => e = .returned (.tuple #[rsv s none 0 0 0 room none 0 0, .bool (decide (s.Right ∧ 0 ≤ room ∧ room ≤ 1000000000))]) ∧ Fr0 w w' := by
  have hmx : Try.prog.follows .mixedOrders = true := by kernel_rfl
  have HS := Lib.hid (blk_alloc (heap_alloc_new w (.cells (spc s) 23)) (.cells rsz 51))
  have HZ := Lib.hid (show ((w.alloc (.cells (spc s) 23)).alloc (.cells rsz 51)).heap[w.heap.size + 1]? = some (.cells rsz 51 (0, 0)) from heap_alloc_nn (by simp))
  have HF := Lib.hid (((Fr.refl (fun _ => False) w).alloc (.cells (spc s) 23)).alloc (.cells rsz 51))
  have HR := Lib.hid (fun w' => rright_calls s w')
  have HD := Lib.hid (show (decide s.Right && (decide (0 ≤ room) && decide (room ≤ 1000000000))) = decide (s.Right ∧ 0 ≤ room ∧ room ≤ 1000000000) by simp)
  go_enter Try.func19, Try.ntmps19
  go_wp2_with fail
  generalize (w.alloc (.cells (spc s) 23)).alloc (.cells rsz 51) = W at *
  have HKC := Lib.hid (fun U (h : Fr (fun k => k = w.heap.size + 1) W U) => sp_cells (h.blk HS.out (fun e => by omega)))
  generalize hd4 : decide (s.Right ∧ 0 ≤ room ∧ room ≤ 1000000000) = d4 at *
  generalize decide s.Right = d1 at *
  generalize hd2 : decide (0 ≤ room) = d2 at *
  generalize hd3 : decide (room ≤ 1000000000) = d3 at *
  obtain ⟨c0, c1, c2, c3, c4⟩ := HKC.out _ (Fr.refl _ W).drew
  have HRS := Lib.hid (fun U (h : Fr0 W U) => (show (∃ x : RsCells U (w.heap.size + 1) ⟨0, 0, 0, 0, 0⟩ none 0 0 0 0 none 0 0, True) ∧ U.heap[w.heap.size + 1]? = some (.cells rsz 51 (0, 0)) from ⟨⟨rs_cells (h.blk HZ.out (fun h => h)), trivial⟩, h.blk HZ.out (fun h => h)⟩))
  have HD2 := HD.out
  clear HD
  cases d1
  · simp only [Bool.false_and] at HD2
    subst HD2
    first | (go_region_law (go_simp; go_at_call 40; (with_reducible refine (HR.out _).mono ?_); rintro e wF ⟨rfl, hfF⟩; have hfn0 : Fr0 W wF := (Fr.refl _ W).drew.trans hfF; obtain ⟨⟨⟨x0, x1, x2, x3, x4, x5, x6, x7, x8⟩, _⟩, hz⟩ := HRS.out _ hfn0; obtain ⟨y0, y1, y2, y3, y4, y5, y6, y7, y8⟩ := rs_free hz; obtain ⟨c0', c1', c2', c3', c4'⟩ := HKC.out _ (Fr0.any hfn0))) | fail
    all_goals
      go_wp2_with fail
      have hX := putRs_blk hz s none 0 0 0 room none 0 0
      have hF2 := putRs_fr (HF.out.trans hfn0) (b := w.heap.size + 1) (fun h => by omega) s none 0 0 0 room none 0 0
      exact bodyPost_ret (results_row_tmp (p := 4) (u := 5) rfl _ _ (w.heap.size + 1) _ _ _ _ rfl hX Try.underlying51 rfl (by kernel_rfl)) rfl ⟨rfl, hF2⟩
  · cases d2
    · simp only [Bool.true_and, Bool.false_and] at HD2
      subst HD2
      first | (go_region_law (go_simp; go_at_call 40; (with_reducible refine (HR.out _).mono ?_); rintro e wF ⟨rfl, hfF⟩; have hfn0 : Fr0 W wF := (Fr.refl _ W).drew.trans hfF; obtain ⟨⟨⟨x0, x1, x2, x3, x4, x5, x6, x7, x8⟩, _⟩, hz⟩ := HRS.out _ hfn0; obtain ⟨y0, y1, y2, y3, y4, y5, y6, y7, y8⟩ := rs_free hz; obtain ⟨c0', c1', c2', c3', c4'⟩ := HKC.out _ (Fr0.any hfn0))) | fail
      all_goals
        go_wp2_with fail
        have hX := putRs_blk hz s none 0 0 0 room none 0 0
        have hF2 := putRs_fr (HF.out.trans hfn0) (b := w.heap.size + 1) (fun h => by omega) s none 0 0 0 room none 0 0
        exact bodyPost_ret (results_row_tmp (p := 4) (u := 5) rfl _ _ (w.heap.size + 1) _ _ _ _ rfl hX Try.underlying51 rfl (by kernel_rfl)) rfl ⟨rfl, hF2⟩
    · simp only [Bool.true_and] at HD2
      subst HD2
      first | (go_region_law (go_simp; go_at_call 40; (with_reducible refine (HR.out _).mono ?_); rintro e wF ⟨rfl, hfF⟩; have hfn0 : Fr0 W wF := (Fr.refl _ W).drew.trans hfF; obtain ⟨⟨⟨x0, x1, x2, x3, x4, x5, x6, x7, x8⟩, _⟩, hz⟩ := HRS.out _ hfn0; obtain ⟨y0, y1, y2, y3, y4, y5, y6, y7, y8⟩ := rs_free hz; obtain ⟨c0', c1', c2', c3', c4'⟩ := HKC.out _ (Fr0.any hfn0))) | fail
      all_goals
        go_wp2_with fail
        have hX := putRs_blk hz s none 0 0 0 room none 0 0
        have hF2 := putRs_fr (HF.out.trans hfn0) (b := w.heap.size + 1) (fun h => by omega) s none 0 0 0 room none 0 0
        exact bodyPost_ret (results_row_tmp (p := 4) (u := 5) rfl _ _ (w.heap.size + 1) _ _ _ _ rfl hX Try.underlying51 rfl (by kernel_rfl)) rfl ⟨rfl, hF2⟩
end Go.Proofs.Ytmnadploikcljaa
