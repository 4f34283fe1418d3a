/- Chapter 05: Bound. -/
import Derived.Test.YtjldogfpccbkeaaBd2
set_option linter.unusedVariables false
set_option linter.unusedSimpArgs false
namespace Go.Proofs.Ytjldogfpccbkeaa
open Go.RowKit
attribute [local go_sem] Oper.semAt_some

abbrev bqs (s : Sp) (r c d : Int) : Rat := bq s.peak s.rate s.burst s.most r c d
theorem bound1_idle (p q : Nat) (w : World) :
    CallsD Try.prog 31 #[.pointer (some ⟨p, 0, none⟩), .pointer (some ⟨q, 0, none⟩)] .returning w fun e u' w' => e = .returned (.tuple #[]) ∧ u' = .returning ∧ w = w' := by
  refine callsD_of_wpS Try.func31 rfl fun c₀ cs hu => ?_
  apply wpS_seq
  apply wpS_region
  simp [wpOpsS, go_sem, recoverD, hu, Try.ntmps31, Exit.thenS]
  refine wpS_of_wp ?_
  change Code.wp _ _ _ { tmps := #[.pointer (some ⟨p, 0, none⟩), .pointer (some ⟨q, 0, none⟩), undef, undef, undef, .nilIface, undef, undef, undef, undef, undef, undef], defers := [] } _
  go_wp2_with fail
  cases c₀
  simp_all [bodyPostS, results, Try.results31]
theorem three_set {w w3 : World} {g h : Nat} {a b e n k e2 : Int} (hf : Fr0 w w3) (hg : w3.heap[g]? = some (.cells (rtc a b) 27 (0, 0))) (hh : w3.heap[h]? = some (.cells #[.int .i64 e] 28 (0, 0)))
    (hgh : g ≠ h) (h1 : w.heap.size ≤ g) (h2 : w.heap.size ≤ h) :
    (((w3.setCell ⟨g, 0, none⟩ (.int .i64 n)).setCell ⟨g, 1, none⟩ (.int .i64 k)).setCell ⟨h, 0, none⟩ (.int .i64 e2)).heap[g]? = some (.cells (rtc n k) 27 (0, 0)) ∧
    (((w3.setCell ⟨g, 0, none⟩ (.int .i64 n)).setCell ⟨g, 1, none⟩ (.int .i64 k)).setCell ⟨h, 0, none⟩ (.int .i64 e2)).cell? ⟨h, 0, none⟩ = some (.int .i64 e2) ∧
    Fr0 w (((w3.setCell ⟨g, 0, none⟩ (.int .i64 n)).setCell ⟨g, 1, none⟩ (.int .i64 k)).setCell ⟨h, 0, none⟩ (.int .i64 e2)) :=
  ⟨blk_setCell_other (two_set hg (.int .i64 n) (.int .i64 k)) (p := ⟨h, 0, none⟩) (by simp <;> omega) _,
   cell_of_blk (blk_setCell (blk_setCell_other (blk_setCell_other hh (p := ⟨g, 0, none⟩) (by simp <;> omega) (.int .i64 n)) (p := ⟨g, 1, none⟩) (by simp <;> omega) (.int .i64 k)) 0 (.int .i64 e2)) 0,
   (two_fr hf (by omega) (.int .i64 n) (.int .i64 k)).setCell (p := ⟨h, 0, none⟩) (fun h' => absurd h' (by simp; omega)) (.int .i64 e2)⟩
set_option maxHeartbeats 2000000 in
theorem bBound_yes (s : Sp) (r c d : Int) (h : MayP s r c d) (w : World) :
    Calls Try.prog 8 #[spv s, .int .i64 r, rtv c d] w fun e w' => e = .returned (.tuple #[rtv (bqs s r c d).num ((bqs s r c d).den : Int), .int .i64 0]) ∧ Fr0 w w' := by
  have hmf : ∀ (fn : Fn) (first cap : Array Value) (w : World), (Instr.makeFunc fn first cap).run Try.prog w = .ok (.func fn first cap) w := fun _ _ _ _ => rfl
  have HM := Lib.hid (fun U => bmay_calls s r c d U)
  rw [decide_eq_true h] at HM
  have HWK := Lib.hid (fun U => bworked_calls s r c d h U)
  have e1 := blk_alloc (blk_alloc (blk_alloc (heap_alloc_new w (.cells (spc s) 23)) (.cells (rtc c d) 25)) (.cells (rtc 0 0) 27)) (.cells #[.int .i64 0] 28)
  have e2 := blk_alloc (blk_alloc (heap_an (w := w.alloc (.cells (spc s) 23)) (k := w.heap.size + 1) (.cells (rtc c d) 25) (by simp)) (.cells (rtc 0 0) 27)) (.cells #[.int .i64 0] 28)
  have e3 := blk_alloc (heap_an (w := (w.alloc (.cells (spc s) 23)).alloc (.cells (rtc c d) 25)) (k := w.heap.size + 1 + 1) (.cells (rtc 0 0) 27) (by simp)) (.cells #[.int .i64 0] 28)
  have e4 := heap_an (w := ((w.alloc (.cells (spc s) 23)).alloc (.cells (rtc c d) 25)).alloc (.cells (rtc 0 0) 27)) (k := w.heap.size + 1 + 1 + 1) (.cells #[.int .i64 0] 28) (by simp)
  have HA := Lib.hid e1
  have HB := Lib.hid e2
  have HX := Lib.hid e3
  have HE := Lib.hid e4
  have HF := Lib.hid (((((Fr.refl (fun _ => False) w).alloc (.cells (spc s) 23)).alloc (.cells (rtc c d) 25)).alloc (.cells (rtc 0 0) 27)).alloc (.cells #[.int .i64 0] 28))
  obtain ⟨s0, s1, s2, s3, s4⟩ := sp_cells e1
  obtain ⟨t0, t1, _, _⟩ := two_facts e2
  clear e1 e2 e3 e4 h
  generalize (bqs s r c d).num = n at *
  generalize ((bqs s r c d).den : Int) = k at *
  go_enter_defers Try.func8, Try.ntmps8
  go_wp2_with (first
    | (go_at_call 30; (with_reducible refine (HM.out _).mono ?_); rintro _ w2 ⟨rfl, hf2⟩; obtain ⟨u0, u1, u2, u3, u4⟩ := sp_cells (hf2.blk HA.out (fun h => h)); obtain ⟨v0, v1, _, _⟩ := two_facts (hf2.blk HB.out (fun h => h)))
    | (go_at_call 32; (with_reducible refine (HWK.out _).mono ?_); rintro _ w3 ⟨rfl, hf3⟩; have hx := (hf2.trans hf3).blk HX.out (fun h => h); have hy := (hf2.trans hf3).blk HE.out (fun h => h); obtain ⟨x0, x1, f0, f1⟩ := two_facts hx; have y0 : w3.cell? ⟨w.heap.size + 1 + 1 + 1, 0, none⟩ = some (.int .i64 0) := cell_of_blk hy 0; have y1 : w3.frozen? ⟨w.heap.size + 1 + 1 + 1, 0, none⟩ = false := free_of_blk hy 0)
    | fail)
  have h3 := Lib.hid (three_set (n := n) (k := k) (e2 := 0) ((HF.out.trans hf2).trans hf3) hx hy (by omega) (by omega) (by omega))
  generalize ((w3.setCell ⟨w.heap.size + 1 + 1, 0, none⟩ (.int .i64 n)).setCell ⟨w.heap.size + 1 + 1, 1, none⟩ (.int .i64 k)).setCell ⟨w.heap.size + 1 + 1 + 1, 0, none⟩ (.int .i64 0) = W3 at *
  refine leaves_cons (f := 31) (args := #[.pointer (some ⟨w.heap.size + 1 + 1, 0, none⟩), .pointer (some ⟨w.heap.size + 1 + 1 + 1, 0, none⟩)]) (by simp) (by simp [go_sem]) ?_
  refine (bound1_idle (w.heap.size + 1 + 1) (w.heap.size + 1 + 1 + 1) _).mono ?_
  rintro e u' w'' ⟨rfl, rfl, rfl⟩
  exact ⟨_, results_row_errno rfl _ _ (w.heap.size + 1 + 1) (w.heap.size + 1 + 1 + 1) _ _ _ _ _ rfl rfl h3.out.1 (loadVar_cell h3.out.2.1) Try.underlying27 rfl (by kernel_rfl), rfl, h3.out.2.2⟩
set_option maxHeartbeats 2000000 in
theorem bBound_no (s : Sp) (r c d : Int) (h : ¬ MayP s r c d) (w : World) :
    Calls Try.prog 8 #[spv s, .int .i64 r, rtv c d] w fun e w' => e = .returned (.tuple #[rtv 0 0, .int .i64 2]) ∧ Fr0 w w' := by
  have hmf : ∀ (fn : Fn) (first cap : Array Value) (w : World), (Instr.makeFunc fn first cap).run Try.prog w = .ok (.func fn first cap) w := fun _ _ _ _ => rfl
  have HM := Lib.hid (fun U => bmay_calls s r c d U)
  rw [decide_eq_false h] at HM
  have e1 := blk_alloc (blk_alloc (blk_alloc (heap_alloc_new w (.cells (spc s) 23)) (.cells (rtc c d) 25)) (.cells (rtc 0 0) 27)) (.cells #[.int .i64 0] 28)
  have e2 := blk_alloc (blk_alloc (heap_an (w := w.alloc (.cells (spc s) 23)) (k := w.heap.size + 1) (.cells (rtc c d) 25) (by simp)) (.cells (rtc 0 0) 27)) (.cells #[.int .i64 0] 28)
  have e3 := blk_alloc (heap_an (w := (w.alloc (.cells (spc s) 23)).alloc (.cells (rtc c d) 25)) (k := w.heap.size + 1 + 1) (.cells (rtc 0 0) 27) (by simp)) (.cells #[.int .i64 0] 28)
  have e4 := heap_an (w := ((w.alloc (.cells (spc s) 23)).alloc (.cells (rtc c d) 25)).alloc (.cells (rtc 0 0) 27)) (k := w.heap.size + 1 + 1 + 1) (.cells #[.int .i64 0] 28) (by simp)
  have HX := Lib.hid e3
  have HE := Lib.hid e4
  have HF := Lib.hid (((((Fr.refl (fun _ => False) w).alloc (.cells (spc s) 23)).alloc (.cells (rtc c d) 25)).alloc (.cells (rtc 0 0) 27)).alloc (.cells #[.int .i64 0] 28))
  obtain ⟨s0, s1, s2, s3, s4⟩ := sp_cells e1
  obtain ⟨t0, t1, _, _⟩ := two_facts e2
  clear e1 e2 e3 e4 h
  go_enter_defers Try.func8, Try.ntmps8
  go_wp2_with (first
    | (go_at_call 30; (with_reducible refine (HM.out _).mono ?_); rintro _ w3 ⟨rfl, hf3⟩; have hx := hf3.blk HX.out (fun h => h); have hy := hf3.blk HE.out (fun h => h); obtain ⟨x0, x1, f0, f1⟩ := two_facts hx; have y0 : w3.cell? ⟨w.heap.size + 1 + 1 + 1, 0, none⟩ = some (.int .i64 0) := cell_of_blk hy 0; have y1 : w3.frozen? ⟨w.heap.size + 1 + 1 + 1, 0, none⟩ = false := free_of_blk hy 0)
    | fail)
  have h3 := Lib.hid (three_set (n := 0) (k := 0) (e2 := 2) (HF.out.trans hf3) hx hy (by omega) (by omega) (by omega))
  generalize ((w3.setCell ⟨w.heap.size + 1 + 1, 0, none⟩ (.int .i64 0)).setCell ⟨w.heap.size + 1 + 1, 1, none⟩ (.int .i64 0)).setCell ⟨w.heap.size + 1 + 1 + 1, 0, none⟩ (.int .i64 2) = W3 at *
  exact ⟨_, results_row_errno rfl _ _ (w.heap.size + 1 + 1) (w.heap.size + 1 + 1 + 1) _ _ _ _ _ rfl rfl h3.out.1 (loadVar_cell h3.out.2.1) Try.underlying27 rfl (by kernel_rfl), rfl, h3.out.2.2⟩
end Go.Proofs.Ytjldogfpccbkeaa
