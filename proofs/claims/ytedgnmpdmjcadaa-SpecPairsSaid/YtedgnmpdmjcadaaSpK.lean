/- Chapter 02: Joint and Sum. -/
import Derived.Test.YtedgnmpdmjcadaaSpJ
import Derived.Laws.ResultCell
set_option linter.unusedVariables false
set_option linter.unusedSimpArgs false
namespace Go.Proofs.Ytedgnmpdmjcadaa
open Go.RowKit

theorem results_row_tmp {P : Program} {fn : Func} {p u : Tmp} {ty : TypeId} (h : fn.results = #[.cell p ty, .tmp u]) (tmps : Array Value) (w : World) (g : Nat) (t : TypeId) (cs : Array Value) (fr : Nat × Nat) (d : TypeDesc)
    (hp : tmps.getD p undef = .pointer (some ⟨g, 0, none⟩)) (hg : w.heap[g]? = some (.cells cs t fr))
    (hu : P.underlying ty = some d) (hd : (match d with | .struct _ | .array _ _ => true | _ => false) = true) (hi : (P.info? ty).map (·.size) = some cs.size) :
    (results fn tmps).run P w = .ok (.tuple #[.agg cs, tmps.getD u undef]) w := by
  rw [results_cell_tmp h, hp]
  simp [asAddr, Result.andThen, run_loadVar_row w g t ty cs fr d hg hu hd hi]
abbrev noS : Sp := ⟨0, 0, 0, 0, 0⟩
def jn : List Sp → Sp
  | [] => noS
  | s :: l => l.foldl joinS s
def sm : List Sp → Sp
  | [] => noS
  | s :: l => l.foldl plusS s

theorem joint_calls (A : Option Addr) (c : Nat) (l : List Sp) (w : World) (hR : Rd (fun _ => False) w A (sps l)) (hl : l.length ≤ 1000000) (hc : l.length ≤ c) :
    Calls Try.prog 22 #[.slice A l.length c] w fun e w' => e = .returned (if l ≠ [] ∧ AllR l then .tuple #[spv (jn l), .int .i64 0] else .tuple #[spv noS, .int .i64 2]) ∧ Fr0 w w' := by
  have hf0 := (Fr.refl (fun _ => False) w).alloc (.cells (spc noS) 23)
  have HRR := Lib.hid (right_calls A c l _ (hR.kept hf0) (by omega))
  have HY := Lib.hid (heap_alloc_new w (.cells (spc noS) 23))
  have HF0 := Lib.hid hf0
  by_cases hok : l ≠ [] ∧ AllR l
  · rw [if_pos hok]
    rw [decide_eq_true hok] at HRR
    cases l with
    | nil => exact absurd rfl hok.1
    | cons s l =>
      have HJ := Lib.hid (fun (w' : World) (h : Fr0 w w') => joined_specs A c s l w' (hR.kept h) (by simpa using hl) (by simpa using hc) hok.2)
      have HJN : Hid (jn (s :: l) = l.foldl joinS s) := Lib.hid rfl
      clear hf0 hR
      generalize l.foldl joinS s = res at *
      simp only [List.length_cons] at *
      go_enter Try.func22, Try.ntmps22
      go_wp2_with (first
        | (go_at_call 33; refine HRR.out.mono ?_; rintro e w1 ⟨rfl, hf1⟩; have HF1 := Lib.hid (HF0.out.trans hf1); have HY1 := Lib.hid (hf1.blk HY.out (fun h => h)); clear hf1)
        | (go_at_call 34; refine (HJ.out _ HF1.out).mono ?_; rintro e w2 ⟨rfl, hf2⟩; have HF2 := Lib.hid (HF1.out.trans hf2); have HY2 := Lib.hid (hf2.blk HY1.out (fun h => h)); obtain ⟨g0, g1, g2, g3, g4⟩ := sp_cells HY2.out; obtain ⟨k0, k1, k2, k3, k4⟩ := sp_free HY2.out; clear hf2))
      refine bodyPost_ret (results_row_tmp rfl _ _ w.heap.size _ _ _ _ rfl (putS_blk HY2.out res) Try.underlying23 rfl (by kernel_rfl)) rfl ⟨?_, putS_fr HF2.out (fun h => absurd h (Nat.lt_irrefl _)) res⟩
      rw [HJN.out]
      rfl
  · rw [if_neg hok]
    rw [decide_eq_false hok] at HRR
    clear hf0 hR
    go_enter Try.func22, Try.ntmps22
    go_wp2_with (first
      | (go_at_call 33; refine HRR.out.mono ?_; rintro e w1 ⟨rfl, hf1⟩; have HF1 := Lib.hid (HF0.out.trans hf1); have HY1 := Lib.hid (hf1.blk HY.out (fun h => h)); obtain ⟨g0, g1, g2, g3, g4⟩ := sp_cells HY1.out; obtain ⟨k0, k1, k2, k3, k4⟩ := sp_free HY1.out; clear hf1))
    exact bodyPost_ret (results_row_tmp rfl _ _ w.heap.size _ _ _ _ rfl (putS_blk HY1.out noS) Try.underlying23 rfl (by kernel_rfl)) rfl ⟨rfl, putS_fr HF1.out (fun h => absurd h (Nat.lt_irrefl _)) noS⟩

theorem sum_calls (A : Option Addr) (c : Nat) (l : List Sp) (w : World) (hR : Rd (fun _ => False) w A (sps l)) (hl : l.length ≤ 1000000) (hc : l.length ≤ c) :
    Calls Try.prog 19 #[.slice A l.length c] w fun e w' => e = .returned (if l ≠ [] ∧ AllR l then (if (sm l).Right then .tuple #[spv (sm l), .int .i64 0] else .tuple #[spv noS, .int .i64 3]) else .tuple #[spv noS, .int .i64 2]) ∧ Fr0 w w' := by
  have hf0 := (Fr.refl (fun _ => False) w).alloc (.cells (spc noS) 23)
  have HRR := Lib.hid (right_calls A c l _ (hR.kept hf0) (by omega))
  have HY := Lib.hid (heap_alloc_new w (.cells (spc noS) 23))
  have HF0 := Lib.hid hf0
  by_cases hok : l ≠ [] ∧ AllR l
  · rw [if_pos hok]
    rw [decide_eq_true hok] at HRR
    cases l with
    | nil => exact absurd rfl hok.1
    | cons s l =>
      have HJ := Lib.hid (fun (w' : World) (h : Fr0 w w') => summed_specs A c s l w' (hR.kept h) (by simpa using hl) (by simpa using hc) hok.2)
      have hsm : sm (s :: l) = l.foldl plusS s := rfl
      rw [hsm]
      clear hf0 hR hsm
      generalize l.foldl plusS s = res at *
      simp only [List.length_cons] at *
      have HCH := Lib.hid (check_calls res)
      by_cases hr : res.Right
      · rw [if_pos hr]
        rw [show chk res = 0 from if_pos hr] at HCH
        go_enter Try.func19, Try.ntmps19
        go_wp2_with (first
          | (go_at_call 33; refine HRR.out.mono ?_; rintro e w1 ⟨rfl, hf1⟩; have HF1 := Lib.hid (HF0.out.trans hf1); have HY1 := Lib.hid (hf1.blk HY.out (fun h => h)); clear hf1)
          | (go_at_call 34; refine (HJ.out _ HF1.out).mono ?_; rintro e w2 ⟨rfl, hf2⟩; have HF2 := Lib.hid ((HF1.out.trans hf2).alloc (.cells (spc res) 23)); have HY2 := Lib.hid (blk_alloc (hf2.blk HY1.out (fun h => h)) (.cells (spc res) 23)); have HZ2 := Lib.hid (heap_alloc_new w2 (.cells (spc res) 23)); clear hf2)
          | (go_at_call 14; refine (HCH.out _).mono ?_; rintro e w3 ⟨rfl, hf3⟩; have HF3 := Lib.hid (HF2.out.trans hf3); have HY3 := Lib.hid (hf3.blk HY2.out (fun h => h)); have HZ3 := Lib.hid (hf3.blk HZ2.out (fun h => h)); obtain ⟨g0, g1, g2, g3, g4⟩ := sp_cells HY3.out; obtain ⟨k0, k1, k2, k3, k4⟩ := sp_free HY3.out; obtain ⟨z0, z1, z2, z3, z4⟩ := sp_cells HZ3.out; clear hf3))
        exact bodyPost_ret (results_row_tmp rfl _ _ w.heap.size _ _ _ _ rfl (putS_blk HY3.out res) Try.underlying23 rfl (by kernel_rfl)) rfl ⟨rfl, putS_fr HF3.out (fun h => absurd h (Nat.lt_irrefl _)) res⟩
      · rw [if_neg hr]
        rw [show chk res = 2 from if_neg hr] at HCH
        go_enter Try.func19, Try.ntmps19
        go_wp2_with (first
          | (go_at_call 33; refine HRR.out.mono ?_; rintro e w1 ⟨rfl, hf1⟩; have HF1 := Lib.hid (HF0.out.trans hf1); have HY1 := Lib.hid (hf1.blk HY.out (fun h => h)); clear hf1)
          | (go_at_call 34; refine (HJ.out _ HF1.out).mono ?_; rintro e w2 ⟨rfl, hf2⟩; have HF2 := Lib.hid ((HF1.out.trans hf2).alloc (.cells (spc res) 23)); have HY2 := Lib.hid (blk_alloc (hf2.blk HY1.out (fun h => h)) (.cells (spc res) 23)); have HZ2 := Lib.hid (heap_alloc_new w2 (.cells (spc res) 23)); clear hf2)
          | (go_at_call 14; refine (HCH.out _).mono ?_; rintro e w3 ⟨rfl, hf3⟩; have HF3 := Lib.hid (HF2.out.trans hf3); have HY3 := Lib.hid (hf3.blk HY2.out (fun h => h)); have HZ3 := Lib.hid (hf3.blk HZ2.out (fun h => h)); obtain ⟨g0, g1, g2, g3, g4⟩ := sp_cells HY3.out; obtain ⟨k0, k1, k2, k3, k4⟩ := sp_free HY3.out; obtain ⟨z0, z1, z2, z3, z4⟩ := sp_cells HZ3.out; clear hf3))
        exact bodyPost_ret (results_row_tmp rfl _ _ w.heap.size _ _ _ _ rfl (putS_blk HY3.out noS) Try.underlying23 rfl (by kernel_rfl)) rfl ⟨rfl, putS_fr HF3.out (fun h => absurd h (Nat.lt_irrefl _)) noS⟩
  · rw [if_neg hok]
    rw [decide_eq_false hok] at HRR
    clear hf0 hR
    go_enter Try.func19, Try.ntmps19
    go_wp2_with (first
      | (go_at_call 33; refine HRR.out.mono ?_; rintro e w1 ⟨rfl, hf1⟩; have HF1 := Lib.hid (HF0.out.trans hf1); have HY1 := Lib.hid (hf1.blk HY.out (fun h => h)); obtain ⟨g0, g1, g2, g3, g4⟩ := sp_cells HY1.out; obtain ⟨k0, k1, k2, k3, k4⟩ := sp_free HY1.out; clear hf1))
    exact bodyPost_ret (results_row_tmp rfl _ _ w.heap.size _ _ _ _ rfl (putS_blk HY1.out noS) Try.underlying23 rfl (by kernel_rfl)) rfl ⟨rfl, putS_fr HF1.out (fun h => absurd h (Nat.lt_irrefl _)) noS⟩
end Go.Proofs.Ytedgnmpdmjcadaa
