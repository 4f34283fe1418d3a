/- Chapter 13: the document's Put. Written by tools/genrsput.py. -/
import Derived.Test.YtmnadploikcljaaShO
import Derived.Test.YtmnadploikcljaaShD
import Derived.Deep.AppendLies
set_option linter.unusedVariables false
set_option linter.unusedSimpArgs false
namespace Go.Proofs.Ytmnadploikcljaa
open Go.RowKit
attribute [local go_sem] Oper.semAt_some

/-- What the document's Put answers. -/
def Rs.putE (g : Rs) (id z : Int) : Int := if ¬ (0 ≤ id ∧ id ≤ 4611686018427387904) then 2 else if ¬ (g.s.least ≤ z ∧ z ≤ g.s.most) then 220 else if g.room < bytesW g.L + z then 230 else 0
/-- What it makes. -/
def Rs.put (g : Rs) (id z : Int) : Rs := if g.putE id z = 0 then { g with L := g.L ++ [(id, z)] } else g
set_option maxHeartbeats 1000000 in
theorem rsput_id1 (s : Sp) (A : Option Addr) (n c : Nat) (now room : Int) (A2 : Option Addr) (c2 : Nat) (L : List (Int × Int)) (id z : Int) (w : World) (h1 : id < 0) :
    Calls Try.prog 37 #[rsv s A n c now room A2 L.length c2, .agg #[.int .i64 id, .int .i64 z]] w fun e w' => e = .returned (.tuple #[rsv s A n c now room A2 L.length c2, .int .i64 2]) ∧ Fr0 w w' := by
  have h1d := decide_eq_true h1
  have HB0 := Lib.hid (blk_alloc (blk_alloc (heap_alloc_new w (.cells (rsc s A n c now room A2 L.length c2) 51)) (.cells #[.int .i64 id, .int .i64 z] 33)) (.cells rsz 51))
  have HB1 := Lib.hid (show (((w.alloc (.cells (rsc s A n c now room A2 L.length c2) 51)).alloc (.cells #[.int .i64 id, .int .i64 z] 33)).alloc (.cells rsz 51)).heap[w.heap.size + 1]? = some (.cells #[.int .i64 id, .int .i64 z] 33 (0, 0)) from blk_alloc (heap_alloc_nn (by simp)) _)
  have HB2 := Lib.hid (show (((w.alloc (.cells (rsc s A n c now room A2 L.length c2) 51)).alloc (.cells #[.int .i64 id, .int .i64 z] 33)).alloc (.cells rsz 51)).heap[w.heap.size + 2]? = some (.cells rsz 51 (0, 0)) from heap_alloc_nn (by simp))
  have HF := Lib.hid ((((Fr.refl (fun _ => False) w).alloc (.cells (rsc s A n c now room A2 L.length c2) 51)).alloc (.cells #[.int .i64 id, .int .i64 z] 33)).alloc (.cells rsz 51))
  obtain ⟨c0, c1, c2_, c3, c4, c5, c6, c7, c8⟩ := rs_cells HB0.out
  obtain ⟨x0, x1, x2, x3, x4, x5, x6, x7, x8⟩ := rs_cells HB2.out
  obtain ⟨y0, y1, y2, y3, y4, y5, y6, y7, y8⟩ := rs_free HB2.out
  have p0 := cell_of_blk HB1.out 0
  have p1 := cell_of_blk HB1.out 1
  simp only [List.getElem?_toArray, List.getElem?_cons_zero, List.getElem?_cons_succ] at p0 p1
  go_enter Try.func37, Try.ntmps37
  go_upto_region 2 with fail
  generalize ((w.alloc (.cells (rsc s A n c now room A2 L.length c2) 51)).alloc (.cells #[.int .i64 id, .int .i64 z] 33)).alloc (.cells rsz 51) = W at *
  go_wp2_with fail
  exact bodyPost_ret (results_row_tmp (p := 4) (u := 5) rfl _ _ (w.heap.size + 2) _ _ _ _ rfl (putRs_blk HB2.out s A n c now room A2 L.length c2) Try.underlying51 rfl (by kernel_rfl)) rfl ⟨rfl, putRs_fr HF.out (b := w.heap.size + 2) (fun h => by omega) s A n c now room A2 L.length c2⟩
set_option maxHeartbeats 1000000 in
theorem rsput_id2 (s : Sp) (A : Option Addr) (n c : Nat) (now room : Int) (A2 : Option Addr) (c2 : Nat) (L : List (Int × Int)) (id z : Int) (w : World) (h1 : ¬ id < 0) (h2 : 4611686018427387904 < id) :
    Calls Try.prog 37 #[rsv s A n c now room A2 L.length c2, .agg #[.int .i64 id, .int .i64 z]] w fun e w' => e = .returned (.tuple #[rsv s A n c now room A2 L.length c2, .int .i64 2]) ∧ Fr0 w w' := by
  have h1d := decide_eq_false h1
  have h2d := decide_eq_true h2
  have HB0 := Lib.hid (blk_alloc (blk_alloc (heap_alloc_new w (.cells (rsc s A n c now room A2 L.length c2) 51)) (.cells #[.int .i64 id, .int .i64 z] 33)) (.cells rsz 51))
  have HB1 := Lib.hid (show (((w.alloc (.cells (rsc s A n c now room A2 L.length c2) 51)).alloc (.cells #[.int .i64 id, .int .i64 z] 33)).alloc (.cells rsz 51)).heap[w.heap.size + 1]? = some (.cells #[.int .i64 id, .int .i64 z] 33 (0, 0)) from blk_alloc (heap_alloc_nn (by simp)) _)
  have HB2 := Lib.hid (show (((w.alloc (.cells (rsc s A n c now room A2 L.length c2) 51)).alloc (.cells #[.int .i64 id, .int .i64 z] 33)).alloc (.cells rsz 51)).heap[w.heap.size + 2]? = some (.cells rsz 51 (0, 0)) from heap_alloc_nn (by simp))
  have HF := Lib.hid ((((Fr.refl (fun _ => False) w).alloc (.cells (rsc s A n c now room A2 L.length c2) 51)).alloc (.cells #[.int .i64 id, .int .i64 z] 33)).alloc (.cells rsz 51))
  obtain ⟨c0, c1, c2_, c3, c4, c5, c6, c7, c8⟩ := rs_cells HB0.out
  obtain ⟨x0, x1, x2, x3, x4, x5, x6, x7, x8⟩ := rs_cells HB2.out
  obtain ⟨y0, y1, y2, y3, y4, y5, y6, y7, y8⟩ := rs_free HB2.out
  have p0 := cell_of_blk HB1.out 0
  have p1 := cell_of_blk HB1.out 1
  simp only [List.getElem?_toArray, List.getElem?_cons_zero, List.getElem?_cons_succ] at p0 p1
  go_enter Try.func37, Try.ntmps37
  go_upto_region 2 with fail
  generalize ((w.alloc (.cells (rsc s A n c now room A2 L.length c2) 51)).alloc (.cells #[.int .i64 id, .int .i64 z] 33)).alloc (.cells rsz 51) = W at *
  go_wp2_with fail
  exact bodyPost_ret (results_row_tmp (p := 4) (u := 5) rfl _ _ (w.heap.size + 2) _ _ _ _ rfl (putRs_blk HB2.out s A n c now room A2 L.length c2) Try.underlying51 rfl (by kernel_rfl)) rfl ⟨rfl, putRs_fr HF.out (b := w.heap.size + 2) (fun h => by omega) s A n c now room A2 L.length c2⟩
set_option maxHeartbeats 1000000 in
theorem rsput_sz1 (s : Sp) (A : Option Addr) (n c : Nat) (now room : Int) (A2 : Option Addr) (c2 : Nat) (L : List (Int × Int)) (id z : Int) (w : World) (h1 : ¬ id < 0) (h2 : ¬ 4611686018427387904 < id) (h3 : z < s.least) :
    Calls Try.prog 37 #[rsv s A n c now room A2 L.length c2, .agg #[.int .i64 id, .int .i64 z]] w fun e w' => e = .returned (.tuple #[rsv s A n c now room A2 L.length c2, .int .i64 220]) ∧ Fr0 w w' := by
  have h1d := decide_eq_false h1
  have h2d := decide_eq_false h2
  have h3d := decide_eq_true h3
  have HB0 := Lib.hid (blk_alloc (blk_alloc (heap_alloc_new w (.cells (rsc s A n c now room A2 L.length c2) 51)) (.cells #[.int .i64 id, .int .i64 z] 33)) (.cells rsz 51))
  have HB1 := Lib.hid (show (((w.alloc (.cells (rsc s A n c now room A2 L.length c2) 51)).alloc (.cells #[.int .i64 id, .int .i64 z] 33)).alloc (.cells rsz 51)).heap[w.heap.size + 1]? = some (.cells #[.int .i64 id, .int .i64 z] 33 (0, 0)) from blk_alloc (heap_alloc_nn (by simp)) _)
  have HB2 := Lib.hid (show (((w.alloc (.cells (rsc s A n c now room A2 L.length c2) 51)).alloc (.cells #[.int .i64 id, .int .i64 z] 33)).alloc (.cells rsz 51)).heap[w.heap.size + 2]? = some (.cells rsz 51 (0, 0)) from heap_alloc_nn (by simp))
  have HF := Lib.hid ((((Fr.refl (fun _ => False) w).alloc (.cells (rsc s A n c now room A2 L.length c2) 51)).alloc (.cells #[.int .i64 id, .int .i64 z] 33)).alloc (.cells rsz 51))
  obtain ⟨c0, c1, c2_, c3, c4, c5, c6, c7, c8⟩ := rs_cells HB0.out
  obtain ⟨x0, x1, x2, x3, x4, x5, x6, x7, x8⟩ := rs_cells HB2.out
  obtain ⟨y0, y1, y2, y3, y4, y5, y6, y7, y8⟩ := rs_free HB2.out
  have p0 := cell_of_blk HB1.out 0
  have p1 := cell_of_blk HB1.out 1
  simp only [List.getElem?_toArray, List.getElem?_cons_zero, List.getElem?_cons_succ] at p0 p1
  go_enter Try.func37, Try.ntmps37
  go_upto_region 4 with fail
  generalize ((w.alloc (.cells (rsc s A n c now room A2 L.length c2) 51)).alloc (.cells #[.int .i64 id, .int .i64 z] 33)).alloc (.cells rsz 51) = W at *
  go_wp2_with fail
  exact bodyPost_ret (results_row_tmp (p := 4) (u := 5) rfl _ _ (w.heap.size + 2) _ _ _ _ rfl (putRs_blk HB2.out s A n c now room A2 L.length c2) Try.underlying51 rfl (by kernel_rfl)) rfl ⟨rfl, putRs_fr HF.out (b := w.heap.size + 2) (fun h => by omega) s A n c now room A2 L.length c2⟩
set_option maxHeartbeats 1000000 in
theorem rsput_sz2 (s : Sp) (A : Option Addr) (n c : Nat) (now room : Int) (A2 : Option Addr) (c2 : Nat) (L : List (Int × Int)) (id z : Int) (w : World) (h1 : ¬ id < 0) (h2 : ¬ 4611686018427387904 < id) (h3 : ¬ z < s.least) (h4 : s.most < z) :
    Calls Try.prog 37 #[rsv s A n c now room A2 L.length c2, .agg #[.int .i64 id, .int .i64 z]] w fun e w' => e = .returned (.tuple #[rsv s A n c now room A2 L.length c2, .int .i64 220]) ∧ Fr0 w w' := by
  have h1d := decide_eq_false h1
  have h2d := decide_eq_false h2
  have h3d := decide_eq_false h3
  have h4d := decide_eq_true h4
  have HB0 := Lib.hid (blk_alloc (blk_alloc (heap_alloc_new w (.cells (rsc s A n c now room A2 L.length c2) 51)) (.cells #[.int .i64 id, .int .i64 z] 33)) (.cells rsz 51))
  have HB1 := Lib.hid (show (((w.alloc (.cells (rsc s A n c now room A2 L.length c2) 51)).alloc (.cells #[.int .i64 id, .int .i64 z] 33)).alloc (.cells rsz 51)).heap[w.heap.size + 1]? = some (.cells #[.int .i64 id, .int .i64 z] 33 (0, 0)) from blk_alloc (heap_alloc_nn (by simp)) _)
  have HB2 := Lib.hid (show (((w.alloc (.cells (rsc s A n c now room A2 L.length c2) 51)).alloc (.cells #[.int .i64 id, .int .i64 z] 33)).alloc (.cells rsz 51)).heap[w.heap.size + 2]? = some (.cells rsz 51 (0, 0)) from heap_alloc_nn (by simp))
  have HF := Lib.hid ((((Fr.refl (fun _ => False) w).alloc (.cells (rsc s A n c now room A2 L.length c2) 51)).alloc (.cells #[.int .i64 id, .int .i64 z] 33)).alloc (.cells rsz 51))
  obtain ⟨c0, c1, c2_, c3, c4, c5, c6, c7, c8⟩ := rs_cells HB0.out
  obtain ⟨x0, x1, x2, x3, x4, x5, x6, x7, x8⟩ := rs_cells HB2.out
  obtain ⟨y0, y1, y2, y3, y4, y5, y6, y7, y8⟩ := rs_free HB2.out
  have p0 := cell_of_blk HB1.out 0
  have p1 := cell_of_blk HB1.out 1
  simp only [List.getElem?_toArray, List.getElem?_cons_zero, List.getElem?_cons_succ] at p0 p1
  go_enter Try.func37, Try.ntmps37
  go_upto_region 4 with fail
  generalize ((w.alloc (.cells (rsc s A n c now room A2 L.length c2) 51)).alloc (.cells #[.int .i64 id, .int .i64 z] 33)).alloc (.cells rsz 51) = W at *
  go_wp2_with fail
  exact bodyPost_ret (results_row_tmp (p := 4) (u := 5) rfl _ _ (w.heap.size + 2) _ _ _ _ rfl (putRs_blk HB2.out s A n c now room A2 L.length c2) Try.underlying51 rfl (by kernel_rfl)) rfl ⟨rfl, putRs_fr HF.out (b := w.heap.size + 2) (fun h => by omega) s A n c now room A2 L.length c2⟩
set_option maxHeartbeats 1000000 in
theorem rsput_room (s : Sp) (A : Option Addr) (n c : Nat) (now room : Int) (A2 : Option Addr) (c2 : Nat) (L : List (Int × Int)) (id z : Int) (w : World) (hR : Rd (fun _ => False) w A2 (sends L)) (hs : Siz L) (hl : L.length ≤ 1000000) (hz : 0 ≤ z ∧ z ≤ 2000) (h1 : ¬ id < 0) (h2 : ¬ 4611686018427387904 < id) (h3 : ¬ z < s.least) (h4 : ¬ s.most < z) (h5 : room < bytesW L + z) :
    Calls Try.prog 37 #[rsv s A n c now room A2 L.length c2, .agg #[.int .i64 id, .int .i64 z]] w fun e w' => e = .returned (.tuple #[rsv s A n c now room A2 L.length c2, .int .i64 230]) ∧ Fr0 w w' := by
  have h1d := decide_eq_false h1
  have h2d := decide_eq_false h2
  have h3d := decide_eq_false h3
  have h4d := decide_eq_false h4
  have hmx : Try.prog.follows .mixedOrders = true := by kernel_rfl
  have HBY := Lib.hid (fun w' (h : Fr0 w w') => rsbytes_calls s A n c now room A2 c2 L w' (hR.kept h) hs (by omega))
  have hrg := hs.range
  have HW := Lib.hid (show IntKind.i64.wrap (bytesW L + z) = bytesW L + z by rw [IntKind.wrap_i64]; omega)
  have HR := Lib.hid hR
  have HSL := Lib.hid (sends_len2 L)
  clear hR hs hrg
  have h5d := decide_eq_true h5
  have HB0 := Lib.hid (blk_alloc (blk_alloc (heap_alloc_new w (.cells (rsc s A n c now room A2 L.length c2) 51)) (.cells #[.int .i64 id, .int .i64 z] 33)) (.cells rsz 51))
  have HB1 := Lib.hid (show (((w.alloc (.cells (rsc s A n c now room A2 L.length c2) 51)).alloc (.cells #[.int .i64 id, .int .i64 z] 33)).alloc (.cells rsz 51)).heap[w.heap.size + 1]? = some (.cells #[.int .i64 id, .int .i64 z] 33 (0, 0)) from blk_alloc (heap_alloc_nn (by simp)) _)
  have HB2 := Lib.hid (show (((w.alloc (.cells (rsc s A n c now room A2 L.length c2) 51)).alloc (.cells #[.int .i64 id, .int .i64 z] 33)).alloc (.cells rsz 51)).heap[w.heap.size + 2]? = some (.cells rsz 51 (0, 0)) from heap_alloc_nn (by simp))
  have HF := Lib.hid ((((Fr.refl (fun _ => False) w).alloc (.cells (rsc s A n c now room A2 L.length c2) 51)).alloc (.cells #[.int .i64 id, .int .i64 z] 33)).alloc (.cells rsz 51))
  obtain ⟨c0, c1, c2_, c3, c4, c5, c6, c7, c8⟩ := rs_cells HB0.out
  obtain ⟨x0, x1, x2, x3, x4, x5, x6, x7, x8⟩ := rs_cells HB2.out
  obtain ⟨y0, y1, y2, y3, y4, y5, y6, y7, y8⟩ := rs_free HB2.out
  have p0 := cell_of_blk HB1.out 0
  have p1 := cell_of_blk HB1.out 1
  simp only [List.getElem?_toArray, List.getElem?_cons_zero, List.getElem?_cons_succ] at p0 p1
  go_enter Try.func37, Try.ntmps37
  generalize bytesW L = bl at *
  have hw := HW.out
  go_wp2_with fail
  generalize ((w.alloc (.cells (rsc s A n c now room A2 L.length c2) 51)).alloc (.cells #[.int .i64 id, .int .i64 z] 33)).alloc (.cells rsz 51) = W at *
  have q0 := cg_cell (W := W) c0
  have q1 := cg_cell (W := W) c1
  have q2 := cg_cell (W := W) c2_
  have q3 := cg_cell (W := W) c3
  have q4 := cg_cell (W := W) c4
  have q5 := cg_cell (W := W) c5
  have q6 := cg_cell (W := W) c6
  have q7 := cg_cell (W := W) c7
  have q8 := cg_cell (W := W) c8
  have q9 := cg_cell (W := W) p1
  refine wp_region_cg hmx (by kernel_rfl) ?_
  repeat (first
    | go_big_quiet_step (fail)
    | go_big_quiet_step (first | (go_at_call 41; exact quiet_cg (HBY.out _ (HF.out.trans (Wx.fr _))))))
  refine wpQuiet_nil ?_
  intro w6 hf6
  clear q0 q1 q2 q3 q4 q5 q6 q7 q8 q9 c0 c1 c2_ c3 c4 c5 c6 c7 c8 x0 x1 x2 x3 x4 x5 x6 x7 x8 y0 y1 y2 y3 y4 y5 y6 y7 y8 p0 p1
  obtain ⟨c0, c1, c2_, c3, c4, c5, c6, c7, c8⟩ := rs_cells (hf6.blk HB0.out (fun h => h))
  have HX := Lib.hid (hf6.blk HB2.out (fun h => h))
  obtain ⟨x0, x1, x2, x3, x4, x5, x6, x7, x8⟩ := rs_cells HX.out
  obtain ⟨y0, y1, y2, y3, y4, y5, y6, y7, y8⟩ := rs_free HX.out
  go_wp2_with fail
  exact bodyPost_ret (results_row_tmp (p := 4) (u := 5) rfl _ _ (w.heap.size + 2) _ _ _ _ rfl (putRs_blk HX.out s A n c now room A2 L.length c2) Try.underlying51 rfl (by kernel_rfl)) rfl ⟨rfl, putRs_fr (HF.out.trans hf6) (b := w.heap.size + 2) (fun h => by omega) s A n c now room A2 L.length c2⟩
/-- What Put answers where there is room. -/
def RsPutPost (s : Sp) (A : Option Addr) (n c : Nat) (now room : Int) (L : List (Int × Int)) (id z : Int) (w : World) (e : Ending) (w' : World) : Prop :=
  (∃ A' c', e = .returned (.tuple #[rsv s A n c now room A' (L.length + 1) c', .int .i64 0]) ∧ L.length + 1 ≤ c' ∧ c' ≤ maxLen ∧ (A' = none → False) ∧ ∀ S, (∀ k, w.heap.size ≤ k → ¬ S k) → Rd S w' A' (sends (L ++ [(id, z)]))) ∧ Fr0 w w'
set_option maxHeartbeats 4000000 in
theorem rsput_ok (s : Sp) (A : Option Addr) (n c : Nat) (now room : Int) (A2 : Option Addr) (c2 : Nat) (L : List (Int × Int)) (id z : Int) (w : World) (hR : Rd (fun _ => False) w A2 (sends L)) (hs : Siz L) (hl : L.length ≤ 1000000) (hz : 0 ≤ z ∧ z ≤ 2000) (h1 : ¬ id < 0) (h2 : ¬ 4611686018427387904 < id) (h3 : ¬ z < s.least) (h4 : ¬ s.most < z) (hA : A2 = none → L.length = 0) (h5 : ¬ room < bytesW L + z) :
    Calls Try.prog 37 #[rsv s A n c now room A2 L.length c2, .agg #[.int .i64 id, .int .i64 z]] w (RsPutPost s A n c now room L id z w) := by
  have h1d := decide_eq_false h1
  have h2d := decide_eq_false h2
  have h3d := decide_eq_false h3
  have h4d := decide_eq_false h4
  have hmx : Try.prog.follows .mixedOrders = true := by kernel_rfl
  have HBY := Lib.hid (fun w' (h : Fr0 w w') => rsbytes_calls s A n c now room A2 c2 L w' (hR.kept h) hs (by omega))
  have hrg := hs.range
  have HW := Lib.hid (show IntKind.i64.wrap (bytesW L + z) = bytesW L + z by rw [IntKind.wrap_i64]; omega)
  have HR := Lib.hid hR
  have HSL := Lib.hid (sends_len2 L)
  clear hR hs hrg
  have h5d := decide_eq_false h5
  have HA := Lib.hid hA
  clear hA
  have HB0 := Lib.hid (blk_alloc (blk_alloc (heap_alloc_new w (.cells (rsc s A n c now room A2 L.length c2) 51)) (.cells #[.int .i64 id, .int .i64 z] 33)) (.cells rsz 51))
  have HB1 := Lib.hid (show (((w.alloc (.cells (rsc s A n c now room A2 L.length c2) 51)).alloc (.cells #[.int .i64 id, .int .i64 z] 33)).alloc (.cells rsz 51)).heap[w.heap.size + 1]? = some (.cells #[.int .i64 id, .int .i64 z] 33 (0, 0)) from blk_alloc (heap_alloc_nn (by simp)) _)
  have HB2 := Lib.hid (show (((w.alloc (.cells (rsc s A n c now room A2 L.length c2) 51)).alloc (.cells #[.int .i64 id, .int .i64 z] 33)).alloc (.cells rsz 51)).heap[w.heap.size + 2]? = some (.cells rsz 51 (0, 0)) from heap_alloc_nn (by simp))
  have HF := Lib.hid ((((Fr.refl (fun _ => False) w).alloc (.cells (rsc s A n c now room A2 L.length c2) 51)).alloc (.cells #[.int .i64 id, .int .i64 z] 33)).alloc (.cells rsz 51))
  obtain ⟨c0, c1, c2_, c3, c4, c5, c6, c7, c8⟩ := rs_cells HB0.out
  obtain ⟨x0, x1, x2, x3, x4, x5, x6, x7, x8⟩ := rs_cells HB2.out
  obtain ⟨y0, y1, y2, y3, y4, y5, y6, y7, y8⟩ := rs_free HB2.out
  have p0 := cell_of_blk HB1.out 0
  have p1 := cell_of_blk HB1.out 1
  simp only [List.getElem?_toArray, List.getElem?_cons_zero, List.getElem?_cons_succ] at p0 p1
  go_enter Try.func37, Try.ntmps37
  generalize bytesW L = bl at *
  have hw := HW.out
  go_wp2_with fail
  generalize ((w.alloc (.cells (rsc s A n c now room A2 L.length c2) 51)).alloc (.cells #[.int .i64 id, .int .i64 z] 33)).alloc (.cells rsz 51) = W at *
  have q0 := cg_cell (W := W) c0
  have q1 := cg_cell (W := W) c1
  have q2 := cg_cell (W := W) c2_
  have q3 := cg_cell (W := W) c3
  have q4 := cg_cell (W := W) c4
  have q5 := cg_cell (W := W) c5
  have q6 := cg_cell (W := W) c6
  have q7 := cg_cell (W := W) c7
  have q8 := cg_cell (W := W) c8
  have q9 := cg_cell (W := W) p1
  refine wp_region_cg hmx (by kernel_rfl) ?_
  repeat (first
    | go_big_quiet_step (fail)
    | go_big_quiet_step (first | (go_at_call 41; exact quiet_cg (HBY.out _ (HF.out.trans (Wx.fr _))))))
  refine wpQuiet_nil ?_
  intro w6 hf6
  clear q0 q1 q2 q3 q4 q5 q6 q7 q8 q9 c0 c1 c2_ c3 c4 c5 c6 c7 c8 x0 x1 x2 x3 x4 x5 x6 x7 x8 y0 y1 y2 y3 y4 y5 y6 y7 y8 p0 p1
  have HKZ := Lib.hid (fun U (h : Fr0 w6 U) => (show U.cell? ⟨w.heap.size + 1, 0, none⟩ = some (.int .i64 id) ∧ U.cell? ⟨w.heap.size + 1, 1, none⟩ = some (.int .i64 z) from ⟨cell_of_blk ((hf6.trans h).blk HB1.out (fun h => h)) 0, cell_of_blk ((hf6.trans h).blk HB1.out (fun h => h)) 1⟩))
  have HKC := Lib.hid (fun U (h : Fr0 w6 U) => (show U.cell? ⟨w.heap.size, 8, none⟩ = some (.slice A2 L.length c2) ∧ U.frozen? ⟨w.heap.size, 8, none⟩ = false from ⟨(rs_cells ((hf6.trans h).blk HB0.out (fun h => h))).x8, (rs_free ((hf6.trans h).blk HB0.out (fun h => h))).2.2.2.2.2.2.2.2⟩))
  have HX6 := Lib.hid (hf6.blk HB2.out (fun h => h))
  have HF6 := Lib.hid (HF.out.trans hf6)
  have HC6 := Lib.hid (hf6.blk HB0.out (fun h => h))
  have HS6 := Lib.hid (show w.heap.size + 3 ≤ w6.heap.size from by have := lt_of_block HX6.out; omega)
  clear hf6
  go_wp2_with fail
  have hd0 : Fr0 w6 w6.drew := (Fr.refl _ w6).drew
  have hda : ∀ o, Fr0 w6 (w6.alloc o).drew := fun o => ((Fr.refl _ w6).alloc o).drew
  obtain ⟨p0, p1⟩ := HKZ.out _ hd0
  obtain ⟨c8, _⟩ := HKC.out _ hd0
  have c8a : ∀ o, (w6.alloc o).cell? ⟨w.heap.size, 8, none⟩ = some (.slice A2 L.length c2) := fun o => (HKC.out _ (hda o)).1
  have HRD := Lib.hid (HR.out.kept (HF6.out.trans hd0))
  have HRA := Lib.hid (fun o => HR.out.kept (HF6.out.trans (hda o)))
  go_region_law (first
    | (refine step_app rfl (.const (.slice none 0 0)) (.tmp 42) _ rfl Try.underlying30 wt_elem (base := w6.heap.size) (.slice none 0 0) 0 [] rfl (own_nil _ _ _ _) (fun _ => False) A2 L.length c2 (sends L) rfl (by first | exact HRD.out | exact HRA.out _) HSL.out (sends_one' _) (by simp only [maxLen]; omega) (by omega) (by first | exact hd0.size | exact (hda _).size) HA.out ?_; intro v1 w3 hown1 hg1 hat1; have hfn3 := Fr.grown (Fr.refl (fun _ => False) _) hg1 (by simp [Value.ownBlock]); have hfr3 : Fr0 w6 w3 := (by first | exact hd0.trans hfn3 | exact (hda _).trans hfn3); obtain ⟨p0', p1'⟩ := HKZ.out _ hfr3)
    | (refine step_app rfl (.tmp 43) (.tmp 45) _ rfl Try.underlying30 wt_elem (base := w6.heap.size) v1 (0 + L.length) ([] ++ sends L) rfl (by first | exact hown1 | exact own_kept0 hown1 ((Fr.refl _ w3).alloc _)) (fun _ => False) _ 1 1 (sends [(id, z)]) rfl (by first | exact rd_wt1 _ w3 (id, z) _ (fun h => h) | exact Rd.kept (Rd.kept (rd_wt1 _ w6 (id, z) _ (fun h => h)) (Fr.refl _ _).drew) hfn3) rfl (sends_one' _) (by simp only [maxLen]; omega) (by omega) (by have := hfr3.size; first | exact this | (simp; omega)) (by simp) ?_; intro v2 w4 hown2 hg2 hat2; rw [Nat.zero_add, List.nil_append, ← sends_append] at hown2; obtain ⟨A3, c3, rfl, hlc2, hcm2⟩ := own_form hown2; have hAN2 : A3 = none → L.length + 1 = 0 := (fun e => by obtain ⟨g, cap, e2, _⟩ := hown2.form (by simp); subst e; cases e2); have hfr4 : Fr0 w6 w4 := Fr.grown (by first | exact hfr3.alloc _ | exact hfr3) hg2 (fun g hg e => by have := (own_blk hown1 e).1; omega); obtain ⟨x8', y8'⟩ := HKC.out _ hfr4))
  all_goals
    have hrd := own_rd (fun k => k < w6.heap.size) hown2 (fun k h1 _ h2 => by omega)
    have HC7 := Lib.hid (blk_setCell (hfr4.blk HC6.out (fun h => h)) 8 (.slice A3 (L.length + 1) c3))
    have HX7 := Lib.hid (blk_setCell_other (hfr4.blk HX6.out (fun h => h)) (p := ⟨w.heap.size, 8, none⟩) (by simp) (.slice A3 (L.length + 1) c3))
    have HF7 := Lib.hid ((HF6.out.trans hfr4).setCell (p := ⟨w.heap.size, 8, none⟩) (fun h => absurd h (Nat.lt_irrefl _)) (.slice A3 (L.length + 1) c3))
    have HRD7 := Lib.hid (hrd.kept ((Fr.refl (fun k => k < w6.heap.size) w4).setCell (p := ⟨w.heap.size, 8, none⟩) (fun _ => by have := HS6.out; show w.heap.size < w6.heap.size; omega) (.slice A3 (L.length + 1) c3)))
    generalize w4.setCell ⟨w.heap.size, 8, none⟩ (.slice A3 (L.length + 1) c3) = w7 at *
    clear hrd hown2 hg2 hat2 hfr4 hfr3 hfn3 hown1 hg1 hat1 x8' y8' p0 p1 p0' p1' c8 c8a hd0 hda
    obtain ⟨x0, x1, x2, x3, x4, x5, x6, x7, x8⟩ := rs_cells HX7.out
    obtain ⟨y0, y1, y2, y3, y4, y5, y6, y7, y8⟩ := rs_free HX7.out
    obtain ⟨c0, c1, c2_, c3_, c4, c5, c6, c7, c8⟩ := rs_cells (show w7.heap[w.heap.size]? = some (.cells (rsc s A n c now room A3 (L.length + 1) c3) 51 (0, 0)) from HC7.out)
    go_wp2_with fail
    refine bodyPost_ret (results_row_tmp (p := 4) (u := 5) rfl _ _ (w.heap.size + 2) _ _ _ _ rfl (putRs_blk HX7.out s A n c now room A3 (L.length + 1) c3) Try.underlying51 rfl (by kernel_rfl)) rfl ⟨⟨A3, c3, rfl, hlc2, hcm2, fun e => absurd (hAN2 e) (by simp), fun S hS => ?_⟩, putRs_fr HF7.out (b := w.heap.size + 2) (fun h => by omega) s A n c now room A3 (L.length + 1) c3⟩
    have hs6 := HS6.out
    have h1 := HRD7.out.kept (putRs_fr (S := fun k => k < w6.heap.size) (Fr.refl _ w7) (b := w.heap.size + 2) (fun _ => by show w.heap.size + 2 < w6.heap.size; omega) s A n c now room A3 (L.length + 1) c3)
    rcases h1 with h1 | ⟨g, off, h1, h2, h3⟩
    · exact .inl h1
    · exact .inr ⟨g, off, h1, hS g (by have h2' : ¬ g < w6.heap.size := h2; omega), h3⟩
end Go.Proofs.Ytmnadploikcljaa
