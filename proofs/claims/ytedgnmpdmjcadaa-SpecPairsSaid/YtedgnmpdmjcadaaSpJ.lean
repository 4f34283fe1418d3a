/- Chapter 02: what is folded. -/
import Derived.Test.YtedgnmpdmjcadaaSpI
set_option linter.unusedVariables false
set_option linter.unusedSimpArgs false
namespace Go.Proofs.Ytedgnmpdmjcadaa
open Go.RowKit

def joinS (a b : Sp) : Sp := ⟨max a.peak b.peak, max a.rate b.rate, max a.burst b.burst, max a.most b.most, min a.least b.least⟩
def plusS (a b : Sp) : Sp := ⟨a.peak + b.peak, a.rate + b.rate, a.burst + b.burst, max a.most b.most, min a.least b.least⟩

theorem heap_alloc_new3 (w : World) (o o' o'' : Obj) : (((w.alloc o).alloc o').alloc o'').heap[w.heap.size + 1 + 1]? = some o'' := by
  have h := heap_alloc_new ((w.alloc o).alloc o') o''
  rwa [show ((w.alloc o).alloc o').heap.size = w.heap.size + 1 + 1 by simp] at h
theorem ret_sp {x0 x1 x2 x3 x4 y0 y1 y2 y3 y4 : Int} (h0 : x0 = y0) (h1 : x1 = y1) (h2 : x2 = y2) (h3 : x3 = y3) (h4 : x4 = y4) :
    Ending.returned (.agg #[.int .i64 x0, .int .i64 x1, .int .i64 x2, .int .i64 x3, .int .i64 x4]) = .returned (.agg #[.int .i64 y0, .int .i64 y1, .int .i64 y2, .int .i64 y3, .int .i64 y4]) := by rw [h0, h1, h2, h3, h4]

theorem joint1_calls (a b : Sp) (w : World) : Calls Try.prog 36 #[spv a, spv b] w fun e w' => e = .returned (spv (joinS a b)) ∧ Fr0 w w' := by
  go_enter Try.func36, Try.ntmps36
  go_wp2_with fail
  all_goals
    exact bodyPost_ret (results_cell_row rfl _ _ (w.heap.size + 1 + 1) _ _ _ _ rfl (heap_alloc_new3 w _ _ _) Try.underlying23 rfl (by kernel_rfl)) rfl
      ⟨ret_sp (show _ = max a.peak b.peak by omega) (show _ = max a.rate b.rate by omega) (show _ = max a.burst b.burst by omega) (show _ = max a.most b.most by omega) (show _ = min a.least b.least by omega), (((Fr.refl _ w).alloc _).alloc _).alloc _⟩

/-- Numbers of specs that are added: small. -/
def Small (k : Nat) (s : Sp) : Prop := (0 ≤ s.peak ∧ s.peak ≤ 1000000 * k) ∧ (0 ≤ s.rate ∧ s.rate ≤ 1000000 * k) ∧ (0 ≤ s.burst ∧ s.burst ≤ 10000000 * k)
theorem sum1_calls (a b : Sp) (k : Nat) (w : World) (ha : Small k a) (hb : b.Right) (hk : k ≤ 1000000) : Calls Try.prog 35 #[spv a, spv b] w fun e w' => e = .returned (spv (plusS a b)) ∧ Fr0 w w' := by
  obtain ⟨⟨a1, a2⟩, ⟨a3, a4⟩, a5, a6⟩ := ha
  obtain ⟨q1, q2, q3, q4, q5, q6, q7, q8⟩ := hb
  go_enter Try.func35, Try.ntmps35
  go_wp2_with fail
  all_goals
    exact bodyPost_ret (results_cell_row rfl _ _ (w.heap.size + 1 + 1) _ _ _ _ rfl (heap_alloc_new3 w _ _ _) Try.underlying23 rfl (by kernel_rfl)) rfl
      ⟨ret_sp (show _ = a.peak + b.peak by omega) (show _ = a.rate + b.rate by omega) (show _ = a.burst + b.burst by omega) (show _ = max a.most b.most by omega) (show _ = min a.least b.least by omega), (((Fr.refl _ w).alloc _).alloc _).alloc _⟩
theorem small_one {b : Sp} (h : b.Right) : Small 1 b := by
  obtain ⟨q1, q2, q3, q4, q5, q6, q7, q8⟩ := h
  unfold Small
  omega
theorem small_plus {k : Nat} {a b : Sp} (ha : Small k a) (hb : b.Right) : Small (k + 1) (plusS a b) := by
  obtain ⟨⟨a1, a2⟩, ⟨a3, a4⟩, a5, a6⟩ := ha
  obtain ⟨q1, q2, q3, q4, q5, q6, q7, q8⟩ := hb
  simp only [Small, plusS]
  omega

def AnyS (k : Nat) (s : Sp) : Prop := 0 ≤ k
theorem any_one {b : Sp} (h : b.Right) : AnyS 1 b := Nat.zero_le _
theorem any_join {k : Nat} {a b : Sp} (ha : AnyS k a) (hb : b.Right) : AnyS (k + 1) (joinS a b) := Nat.zero_le _
theorem sp_free {w : World} {b : Nat} {s : Sp} (h : w.heap[b]? = some (.cells (spc s) 23 (0, 0))) :
    w.frozen? ⟨b, 0, none⟩ = false ∧ w.frozen? ⟨b, 1, none⟩ = false ∧ w.frozen? ⟨b, 2, none⟩ = false ∧ w.frozen? ⟨b, 3, none⟩ = false ∧ w.frozen? ⟨b, 4, none⟩ = false :=
  ⟨free_of_blk h 0, free_of_blk h 1, free_of_blk h 2, free_of_blk h 3, free_of_blk h 4⟩
/-- A spec stored over another one. -/
def putS (w : World) (b : Nat) (s : Sp) : World := ((((w.setCell ⟨b, 0, none⟩ (.int .i64 s.peak)).setCell ⟨b, 1, none⟩ (.int .i64 s.rate)).setCell ⟨b, 2, none⟩ (.int .i64 s.burst)).setCell ⟨b, 3, none⟩ (.int .i64 s.most)).setCell ⟨b, 4, none⟩ (.int .i64 s.least)
theorem putS_blk {w : World} {b : Nat} {s : Sp} (h : w.heap[b]? = some (.cells (spc s) 23 (0, 0))) (s' : Sp) : (putS w b s').heap[b]? = some (.cells (spc s') 23 (0, 0)) := by
  have := blk_setCell (blk_setCell (blk_setCell (blk_setCell (blk_setCell h 0 (.int .i64 s'.peak)) 1 (.int .i64 s'.rate)) 2 (.int .i64 s'.burst)) 3 (.int .i64 s'.most)) 4 (.int .i64 s'.least)
  exact this
theorem putS_other {w : World} {b x : Nat} {o : Obj} (h : w.heap[x]? = some o) (hne : b ≠ x) (s' : Sp) : (putS w b s').heap[x]? = some o :=
  blk_setCell_other (blk_setCell_other (blk_setCell_other (blk_setCell_other (blk_setCell_other h (p := ⟨b, 0, none⟩) hne _) (p := ⟨b, 1, none⟩) hne _) (p := ⟨b, 2, none⟩) hne _) (p := ⟨b, 3, none⟩) hne _) (p := ⟨b, 4, none⟩) hne _
theorem putS_fr {S : Nat → Prop} {a w : World} (h : Fr S a w) {b : Nat} (hb : b < a.heap.size → S b) (s' : Sp) : Fr S a (putS w b s') :=
  ((((h.setCell (p := ⟨b, 0, none⟩) hb _).setCell (p := ⟨b, 1, none⟩) hb _).setCell (p := ⟨b, 2, none⟩) hb _).setCell (p := ⟨b, 3, none⟩) hb _).setCell (p := ⟨b, 4, none⟩) hb _

set_option maxHeartbeats 1000000 in
theorem joined_specs (A : Option Addr) (c : Nat) (s : Sp) (l : List Sp) (w : World) (hR : Rd (fun _ => False) w A (sps (s :: l))) (hl : l.length + 1 ≤ 1000000) (hc : l.length + 1 ≤ c) (ha : AllR (s :: l)) :
    Calls Try.prog 34 #[.slice A (l.length + 1) c, .func (.func 36) #[] #[]] w fun e w' => e = .returned (spv (l.foldl joinS s)) ∧ Fr0 w w' := by
  obtain ⟨b, off, rfl⟩ := hR.some_ (by rw [sps_length]; simp)
  have hf1 := (Fr.refl (fun _ => False) w).alloc (.cells (spc ⟨0, 0, 0, 0, 0⟩) 23)
  have h0 := rds_cells (hR.kept hf1) 0 (by simp)
  obtain ⟨c0, c1, c2, c3, c4⟩ := h0
  have hR2 : Rd (fun _ => False) w (some ⟨b, off + 5, none⟩) (sps l) := by
    refine .inr ⟨b, off + 5, rfl, fun h => h, fun i hi => ?_⟩
    have hlt : 5 + i < (sps (s :: l)).length := by rw [sps_length] at *; simp; omega
    have := hR.at_ (5 + i) hlt
    rw [← Nat.add_assoc] at this
    rw [this]
    simp only [sps_cons]
    rw [List.getElem_append_right (by simp)]
    simp
  have HA := Lib.hid ha
  have HJ1 := Lib.hid (any_one (ha s (by simp)))
  have HY := Lib.hid (blk_alloc (heap_alloc_new w (.cells (spc ⟨0, 0, 0, 0, 0⟩) 23)) (.cells (spc s) 23))
  have HX := Lib.hid (heap_alloc_new2 w (.cells (spc ⟨0, 0, 0, 0, 0⟩) 23) (.cells (spc s) 23))
  have HF0 := Lib.hid (hf1.alloc (.cells (spc s) 23))
  simp only [Nat.zero_mul, Nat.add_zero, List.getElem_cons_zero] at c0 c1 c2 c3 c4
  clear ha hf1
  have hcase : (c = 1 ∧ Hid (Rd (fun _ => False) w (some ⟨b, off, none⟩) (sps l))) ∨ (1 < c ∧ Hid (Rd (fun _ => False) w (some ⟨b, off + 5, none⟩) (sps l))) := by
    by_cases h : c = 1
    · have hl0 : l = [] := List.length_eq_zero_iff.1 (by omega)
      subst hl0
      exact .inl ⟨h, Rd.nil _ _ _⟩
    · exact .inr ⟨by omega, hR2⟩
  clear hR hR2
  rcases hcase with ⟨hc1, HR⟩ | ⟨hc1, HR⟩
  · go_enter Try.func34, Try.ntmps34
    go_wp2_with fail
    clear c0 c1 c2 c3 c4
    generalize (w.alloc (.cells #[.int .i64 0, .int .i64 0, .int .i64 0, .int .i64 0, .int .i64 0] 23)).alloc (.cells #[.int .i64 s.peak, .int .i64 s.rate, .int .i64 s.burst, .int .i64 s.most, .int .i64 s.least] 23) = w1 at *
    obtain ⟨x, hx⟩ : ∃ x, x = w.heap.size + 1 := ⟨_, rfl⟩
    obtain ⟨y, hy⟩ : ∃ y, y = w.heap.size := ⟨_, rfl⟩
    rw [← hx, ← hy]
    rw [← hx] at HX
    rw [← hy] at HY
    have HXY := Lib.hid (show x ≠ y ∧ w.heap.size ≤ x ∧ w.heap.size ≤ y by omega)
    clear hx hy
    go_loopw [7, 14] (fun _ cnt wr => ∃ i : Nat, i ≤ l.length ∧ cnt = .int .i64 (i : Int) ∧ Hid (wr.heap[x]? = some (.cells (spc ((l.take i).foldl joinS s)) 23 (0, 0))) ∧ Hid (wr.heap[y]? = some (.cells (spc ⟨0, 0, 0, 0, 0⟩) 23 (0, 0))) ∧ Hid (AnyS (i + 1) ((l.take i).foldl joinS s)) ∧ Hid (Fr0 w wr)) (fun _ cnt _ => l.length - (intOf cnt).toNat)
    case atStart => exact ⟨0, by omega, rfl, HX.out, HY.out, HJ1.out, HF0.out⟩
    case round =>
      obtain ⟨i, hi, rfl, HX2, HY2, HJ2, HF⟩ := hrel
      obtain ⟨e0, e1, e2, e3, e4⟩ := sp_cells HX2.out
      obtain ⟨f0, f1, f2, f3, f4⟩ := sp_free HX2.out
      by_cases hlt0 : i < l.length ∧ c ≠ 1
      · exact absurd hc1 hlt0.2
      · have hil : i = l.length := by omega
        clear hlt0
        have HTL : Hid (l.take i = l) := Lib.hid (by rw [hil, List.take_length])
        rw [HTL.out] at HX2 e0 e1 e2 e3 e4
        have hd : decide ((i : Int) < (l.length : Int)) = false := decide_eq_false (by omega)
        obtain ⟨g0, g1, g2, g3, g4⟩ := sp_cells HY2.out
        obtain ⟨k0, k1, k2, k3, k4⟩ := sp_free HY2.out
        generalize hres : l.foldl joinS s = res at *
        have HRES := Lib.hid hres
        clear hres
        go_wp2_with fail
        refine bodyPost_ret (results_cell_row rfl _ _ y _ _ _ _ rfl (putS_blk HY2.out res) Try.underlying23 rfl (by kernel_rfl)) rfl ⟨?_, putS_fr HF.out (fun h => by have := HXY.out.2.2; omega) res⟩
        rw [HRES.out]
  · go_enter Try.func34, Try.ntmps34
    go_wp2_with fail
    clear c0 c1 c2 c3 c4
    generalize (w.alloc (.cells #[.int .i64 0, .int .i64 0, .int .i64 0, .int .i64 0, .int .i64 0] 23)).alloc (.cells #[.int .i64 s.peak, .int .i64 s.rate, .int .i64 s.burst, .int .i64 s.most, .int .i64 s.least] 23) = w1 at *
    obtain ⟨x, hx⟩ : ∃ x, x = w.heap.size + 1 := ⟨_, rfl⟩
    obtain ⟨y, hy⟩ : ∃ y, y = w.heap.size := ⟨_, rfl⟩
    rw [← hx, ← hy]
    rw [← hx] at HX
    rw [← hy] at HY
    have HXY := Lib.hid (show x ≠ y ∧ w.heap.size ≤ x ∧ w.heap.size ≤ y by omega)
    clear hx hy
    go_loopw [7, 14] (fun _ cnt wr => ∃ i : Nat, i ≤ l.length ∧ cnt = .int .i64 (i : Int) ∧ Hid (wr.heap[x]? = some (.cells (spc ((l.take i).foldl joinS s)) 23 (0, 0))) ∧ Hid (wr.heap[y]? = some (.cells (spc ⟨0, 0, 0, 0, 0⟩) 23 (0, 0))) ∧ Hid (AnyS (i + 1) ((l.take i).foldl joinS s)) ∧ Hid (Fr0 w wr)) (fun _ cnt _ => l.length - (intOf cnt).toNat)
    case atStart => exact ⟨0, by omega, rfl, HX.out, HY.out, HJ1.out, HF0.out⟩
    case round =>
      obtain ⟨i, hi, rfl, HX2, HY2, HJ2, HF⟩ := hrel
      obtain ⟨e0, e1, e2, e3, e4⟩ := sp_cells HX2.out
      obtain ⟨f0, f1, f2, f3, f4⟩ := sp_free HX2.out
      by_cases hlt0 : i < l.length ∧ c ≠ 1
      · obtain ⟨hlt, hc2⟩ := hlt0
        obtain ⟨c0, c1, c2, c3, c4⟩ := rds_cells (HR.out.kept HF.out) i hlt
        have HRI := Lib.hid (HA.out l[i] (by simp))
        have HTK : Hid (((l.take (i + 1)).foldl joinS s) = joinS ((l.take i).foldl joinS s) l[i]) := Lib.hid (by rw [List.take_succ_eq_append_getElem hlt, List.foldl_append]; rfl)
        generalize (l.take i).foldl joinS s = acc at *
        generalize l[i] = it at *
        have HJN := Lib.hid (any_join HJ2.out HRI.out)
        have HCALL := Lib.hid (fun w => joint1_calls acc it w)
        clear e0 e1 e2 e3 e4 f0 f1 f2 f3 f4
        obtain ⟨e0, e1, e2, e3, e4⟩ := sp_cells (blk_alloc HX2.out (.cells (spc it) 23))
        go_wp2_with (go_at_call 36; refine (HCALL.out _).mono ?_; rintro e w3 ⟨rfl, hf3⟩; have HF3 := Lib.hid (((Fr.refl (fun _ => False) wr).alloc _).trans hf3); clear hf3; obtain ⟨g0, g1, g2, g3, g4⟩ := sp_cells (HF3.out.blk HX2.out (fun h => h)); obtain ⟨k0, k1, k2, k3, k4⟩ := sp_free (HF3.out.blk HX2.out (fun h => h)))
        go_roundw
        case rel => exact ⟨i + 1, by omega, by go_num, by rw [HTK.out]; exact putS_blk (HF3.out.blk HX2.out (fun h => h)) _, putS_other (HF3.out.blk HY2.out (fun h => h)) HXY.out.1 _, by rw [HTK.out]; exact HJN.out, putS_fr (HF.out.trans HF3.out) (fun h => by have := HXY.out.2.1; omega) _⟩
        case measure => simp [intOf]; omega
      · have hil : i = l.length := by omega
        clear hlt0
        have HTL : Hid (l.take i = l) := Lib.hid (by rw [hil, List.take_length])
        rw [HTL.out] at HX2 e0 e1 e2 e3 e4
        have hd : decide ((i : Int) < (l.length : Int)) = false := decide_eq_false (by omega)
        obtain ⟨g0, g1, g2, g3, g4⟩ := sp_cells HY2.out
        obtain ⟨k0, k1, k2, k3, k4⟩ := sp_free HY2.out
        generalize hres : l.foldl joinS s = res at *
        have HRES := Lib.hid hres
        clear hres
        go_wp2_with fail
        refine bodyPost_ret (results_cell_row rfl _ _ y _ _ _ _ rfl (putS_blk HY2.out res) Try.underlying23 rfl (by kernel_rfl)) rfl ⟨?_, putS_fr HF.out (fun h => by have := HXY.out.2.2; omega) res⟩
        rw [HRES.out]
set_option maxHeartbeats 1000000 in
theorem summed_specs (A : Option Addr) (c : Nat) (s : Sp) (l : List Sp) (w : World) (hR : Rd (fun _ => False) w A (sps (s :: l))) (hl : l.length + 1 ≤ 1000000) (hc : l.length + 1 ≤ c) (ha : AllR (s :: l)) :
    Calls Try.prog 34 #[.slice A (l.length + 1) c, .func (.func 35) #[] #[]] w fun e w' => e = .returned (spv (l.foldl plusS s)) ∧ Fr0 w w' := by
  obtain ⟨b, off, rfl⟩ := hR.some_ (by rw [sps_length]; simp)
  have hf1 := (Fr.refl (fun _ => False) w).alloc (.cells (spc ⟨0, 0, 0, 0, 0⟩) 23)
  have h0 := rds_cells (hR.kept hf1) 0 (by simp)
  obtain ⟨c0, c1, c2, c3, c4⟩ := h0
  have hR2 : Rd (fun _ => False) w (some ⟨b, off + 5, none⟩) (sps l) := by
    refine .inr ⟨b, off + 5, rfl, fun h => h, fun i hi => ?_⟩
    have hlt : 5 + i < (sps (s :: l)).length := by rw [sps_length] at *; simp; omega
    have := hR.at_ (5 + i) hlt
    rw [← Nat.add_assoc] at this
    rw [this]
    simp only [sps_cons]
    rw [List.getElem_append_right (by simp)]
    simp
  have HA := Lib.hid ha
  have HJ1 := Lib.hid (small_one (ha s (by simp)))
  have HY := Lib.hid (blk_alloc (heap_alloc_new w (.cells (spc ⟨0, 0, 0, 0, 0⟩) 23)) (.cells (spc s) 23))
  have HX := Lib.hid (heap_alloc_new2 w (.cells (spc ⟨0, 0, 0, 0, 0⟩) 23) (.cells (spc s) 23))
  have HF0 := Lib.hid (hf1.alloc (.cells (spc s) 23))
  simp only [Nat.zero_mul, Nat.add_zero, List.getElem_cons_zero] at c0 c1 c2 c3 c4
  clear ha hf1
  have hcase : (c = 1 ∧ Hid (Rd (fun _ => False) w (some ⟨b, off, none⟩) (sps l))) ∨ (1 < c ∧ Hid (Rd (fun _ => False) w (some ⟨b, off + 5, none⟩) (sps l))) := by
    by_cases h : c = 1
    · have hl0 : l = [] := List.length_eq_zero_iff.1 (by omega)
      subst hl0
      exact .inl ⟨h, Rd.nil _ _ _⟩
    · exact .inr ⟨by omega, hR2⟩
  clear hR hR2
  rcases hcase with ⟨hc1, HR⟩ | ⟨hc1, HR⟩
  · go_enter Try.func34, Try.ntmps34
    go_wp2_with fail
    clear c0 c1 c2 c3 c4
    generalize (w.alloc (.cells #[.int .i64 0, .int .i64 0, .int .i64 0, .int .i64 0, .int .i64 0] 23)).alloc (.cells #[.int .i64 s.peak, .int .i64 s.rate, .int .i64 s.burst, .int .i64 s.most, .int .i64 s.least] 23) = w1 at *
    obtain ⟨x, hx⟩ : ∃ x, x = w.heap.size + 1 := ⟨_, rfl⟩
    obtain ⟨y, hy⟩ : ∃ y, y = w.heap.size := ⟨_, rfl⟩
    rw [← hx, ← hy]
    rw [← hx] at HX
    rw [← hy] at HY
    have HXY := Lib.hid (show x ≠ y ∧ w.heap.size ≤ x ∧ w.heap.size ≤ y by omega)
    clear hx hy
    go_loopw [7, 14] (fun _ cnt wr => ∃ i : Nat, i ≤ l.length ∧ cnt = .int .i64 (i : Int) ∧ Hid (wr.heap[x]? = some (.cells (spc ((l.take i).foldl plusS s)) 23 (0, 0))) ∧ Hid (wr.heap[y]? = some (.cells (spc ⟨0, 0, 0, 0, 0⟩) 23 (0, 0))) ∧ Hid (Small (i + 1) ((l.take i).foldl plusS s)) ∧ Hid (Fr0 w wr)) (fun _ cnt _ => l.length - (intOf cnt).toNat)
    case atStart => exact ⟨0, by omega, rfl, HX.out, HY.out, HJ1.out, HF0.out⟩
    case round =>
      obtain ⟨i, hi, rfl, HX2, HY2, HJ2, HF⟩ := hrel
      obtain ⟨e0, e1, e2, e3, e4⟩ := sp_cells HX2.out
      obtain ⟨f0, f1, f2, f3, f4⟩ := sp_free HX2.out
      by_cases hlt0 : i < l.length ∧ c ≠ 1
      · exact absurd hc1 hlt0.2
      · have hil : i = l.length := by omega
        clear hlt0
        have HTL : Hid (l.take i = l) := Lib.hid (by rw [hil, List.take_length])
        rw [HTL.out] at HX2 e0 e1 e2 e3 e4
        have hd : decide ((i : Int) < (l.length : Int)) = false := decide_eq_false (by omega)
        obtain ⟨g0, g1, g2, g3, g4⟩ := sp_cells HY2.out
        obtain ⟨k0, k1, k2, k3, k4⟩ := sp_free HY2.out
        generalize hres : l.foldl plusS s = res at *
        have HRES := Lib.hid hres
        clear hres
        go_wp2_with fail
        refine bodyPost_ret (results_cell_row rfl _ _ y _ _ _ _ rfl (putS_blk HY2.out res) Try.underlying23 rfl (by kernel_rfl)) rfl ⟨?_, putS_fr HF.out (fun h => by have := HXY.out.2.2; omega) res⟩
        rw [HRES.out]
  · go_enter Try.func34, Try.ntmps34
    go_wp2_with fail
    clear c0 c1 c2 c3 c4
    generalize (w.alloc (.cells #[.int .i64 0, .int .i64 0, .int .i64 0, .int .i64 0, .int .i64 0] 23)).alloc (.cells #[.int .i64 s.peak, .int .i64 s.rate, .int .i64 s.burst, .int .i64 s.most, .int .i64 s.least] 23) = w1 at *
    obtain ⟨x, hx⟩ : ∃ x, x = w.heap.size + 1 := ⟨_, rfl⟩
    obtain ⟨y, hy⟩ : ∃ y, y = w.heap.size := ⟨_, rfl⟩
    rw [← hx, ← hy]
    rw [← hx] at HX
    rw [← hy] at HY
    have HXY := Lib.hid (show x ≠ y ∧ w.heap.size ≤ x ∧ w.heap.size ≤ y by omega)
    clear hx hy
    go_loopw [7, 14] (fun _ cnt wr => ∃ i : Nat, i ≤ l.length ∧ cnt = .int .i64 (i : Int) ∧ Hid (wr.heap[x]? = some (.cells (spc ((l.take i).foldl plusS s)) 23 (0, 0))) ∧ Hid (wr.heap[y]? = some (.cells (spc ⟨0, 0, 0, 0, 0⟩) 23 (0, 0))) ∧ Hid (Small (i + 1) ((l.take i).foldl plusS s)) ∧ Hid (Fr0 w wr)) (fun _ cnt _ => l.length - (intOf cnt).toNat)
    case atStart => exact ⟨0, by omega, rfl, HX.out, HY.out, HJ1.out, HF0.out⟩
    case round =>
      obtain ⟨i, hi, rfl, HX2, HY2, HJ2, HF⟩ := hrel
      obtain ⟨e0, e1, e2, e3, e4⟩ := sp_cells HX2.out
      obtain ⟨f0, f1, f2, f3, f4⟩ := sp_free HX2.out
      by_cases hlt0 : i < l.length ∧ c ≠ 1
      · obtain ⟨hlt, hc2⟩ := hlt0
        obtain ⟨c0, c1, c2, c3, c4⟩ := rds_cells (HR.out.kept HF.out) i hlt
        have HRI := Lib.hid (HA.out l[i] (by simp))
        have HTK : Hid (((l.take (i + 1)).foldl plusS s) = plusS ((l.take i).foldl plusS s) l[i]) := Lib.hid (by rw [List.take_succ_eq_append_getElem hlt, List.foldl_append]; rfl)
        generalize (l.take i).foldl plusS s = acc at *
        generalize l[i] = it at *
        have HJN := Lib.hid (small_plus HJ2.out HRI.out)
        have HCALL := Lib.hid (fun w => sum1_calls acc it (i + 1) w HJ2.out HRI.out (by omega))
        clear e0 e1 e2 e3 e4 f0 f1 f2 f3 f4
        obtain ⟨e0, e1, e2, e3, e4⟩ := sp_cells (blk_alloc HX2.out (.cells (spc it) 23))
        go_wp2_with (go_at_call 35; refine (HCALL.out _).mono ?_; rintro e w3 ⟨rfl, hf3⟩; have HF3 := Lib.hid (((Fr.refl (fun _ => False) wr).alloc _).trans hf3); clear hf3; obtain ⟨g0, g1, g2, g3, g4⟩ := sp_cells (HF3.out.blk HX2.out (fun h => h)); obtain ⟨k0, k1, k2, k3, k4⟩ := sp_free (HF3.out.blk HX2.out (fun h => h)))
        go_roundw
        case rel => exact ⟨i + 1, by omega, by go_num, by rw [HTK.out]; exact putS_blk (HF3.out.blk HX2.out (fun h => h)) _, putS_other (HF3.out.blk HY2.out (fun h => h)) HXY.out.1 _, by rw [HTK.out]; exact HJN.out, putS_fr (HF.out.trans HF3.out) (fun h => by have := HXY.out.2.1; omega) _⟩
        case measure => simp [intOf]; omega
      · have hil : i = l.length := by omega
        clear hlt0
        have HTL : Hid (l.take i = l) := Lib.hid (by rw [hil, List.take_length])
        rw [HTL.out] at HX2 e0 e1 e2 e3 e4
        have hd : decide ((i : Int) < (l.length : Int)) = false := decide_eq_false (by omega)
        obtain ⟨g0, g1, g2, g3, g4⟩ := sp_cells HY2.out
        obtain ⟨k0, k1, k2, k3, k4⟩ := sp_free HY2.out
        generalize hres : l.foldl plusS s = res at *
        have HRES := Lib.hid hres
        clear hres
        go_wp2_with fail
        refine bodyPost_ret (results_cell_row rfl _ _ y _ _ _ _ rfl (putS_blk HY2.out res) Try.underlying23 rfl (by kernel_rfl)) rfl ⟨?_, putS_fr HF.out (fun h => by have := HXY.out.2.2; omega) res⟩
        rw [HRES.out]
end Go.Proofs.Ytedgnmpdmjcadaa
