/- Chapter 01: try. -/
import Derived.Test.YtdakeenjeieekaaRaI
set_option linter.unusedVariables false
set_option linter.unusedSimpArgs false
namespace Go.Proofs.Ytdakeenjeieekaa
open Go.RowKit
attribute [local go_sem] Oper.semAt_some

/-- A function's value over what it captured. -/
abbrev clv (K : FuncId) (cap : Array Value) : Value := .func (.func K) #[] cap
theorem loadVar_cell {a : Addr} {k : Int} {w : World} (hc : w.cell? a = some (.int .i64 k)) : (loadVar 24 a).run Try.prog w = .ok (.int .i64 k) w := by
  simp [loadVar, run_underlying Try.underlying24, go_sem, hc]
theorem results_row_errno {P : Program} {fn : Func} {p q : Tmp} {ty tq : TypeId} (h : fn.results = #[.cell p ty, .cell q tq]) (tmps : Array Value) (w : World) (g g2 : Nat) (t : TypeId) (cs : Array Value) (fr : Nat × Nat) (d : TypeDesc) (v : Value)
    (hp : tmps.getD p undef = .pointer (some ⟨g, 0, none⟩)) (hq : tmps.getD q undef = .pointer (some ⟨g2, 0, none⟩)) (hg : w.heap[g]? = some (.cells cs t fr)) (h2 : (loadVar tq ⟨g2, 0, none⟩).run P w = .ok v w)
    (hu : P.underlying ty = some d) (hd : (match d with | .struct _ | .array _ _ => true | _ => false) = true) (hi : (P.info? ty).map (·.size) = some cs.size) :
    (results fn tmps).run P w = .ok (.tuple #[.agg cs, v]) w := by
  have h1 := run_loadVar_row (P := P) w g t ty cs fr d hg hu hd hi
  simp only [Array.getD_eq_getD_getElem?] at hp hq
  simp only [results, h]
  simp [Sem.run_bind, Result.andThen, hp, hq, asAddr, h1, h2]
set_option maxHeartbeats 2000000 in
/-- What the work hands back, and no error. -/
theorem rtry_yes (K : FuncId) (cap : Array Value) (n d : Int) (w : World) (HE : ∀ (args : Array Value) (U : World), (callFunc K args).run Try.prog U = .ok (.enter K args) U) (HW : ∀ U, Fr0 w U → Calls Try.prog K cap U fun e w' => e = .returned (rtv n d) ∧ Fr0 U w') :
    Calls Try.prog 34 #[clv K cap] w fun e w' => e = .returned (.tuple #[(rtv n d), .int .i64 0]) ∧ Fr0 w w' := by
  have hmf : ∀ (fn : Fn) (first cap : Array Value) (w : World), (Instr.makeFunc fn first cap).run Try.prog w = .ok (.func fn first cap) w := fun _ _ _ _ => rfl
  have HF := Lib.hid (((Fr.refl (fun _ => False) w).alloc (.cells (rtc 0 0) 23)).alloc (.cells #[.int .i64 0] 24))
  have HA := Lib.hid (blk_alloc (heap_alloc_new w (.cells (rtc 0 0) 23)) (.cells #[.int .i64 0] 24))
  have HB := Lib.hid (heap_an (w := w.alloc (.cells (rtc 0 0) 23)) (k := w.heap.size + 1) (.cells #[.int .i64 0] 24) (by simp))
  have HW' := Lib.hid HW
  clear HW
  go_enter_defers Try.func34, Try.ntmps34
  go_wp2_with (first | (go_at_fn K; (with_reducible refine (HW'.out _ HF.out).mono ?_); rintro _ w2 ⟨rfl, hf2⟩; have hb := hf2.blk HA.out (fun h => h); have hq := hf2.blk HB.out (fun h => h); have q0 : w2.cell? ⟨w.heap.size + 1, 0, none⟩ = some (.int .i64 0) := cell_of_blk hq 0; have q1 : w2.frozen? ⟨w.heap.size + 1, 0, none⟩ = false := free_of_blk hq 0; obtain ⟨c0, c1, f0, f1⟩ := two_facts hb) | fail)
  have hBQ : Hid ((((((w2.setCell ⟨w.heap.size, 0, none⟩ (.int .i64 n)).setCell ⟨w.heap.size, 1, none⟩ (.int .i64 d)).setCell ⟨w.heap.size + 1, 0, none⟩ (.int .i64 0)).heap[w.heap.size]? = some (.cells (rtc n d) 23 (0, 0))) ∧ (((w2.setCell ⟨w.heap.size, 0, none⟩ (.int .i64 n)).setCell ⟨w.heap.size, 1, none⟩ (.int .i64 d)).setCell ⟨w.heap.size + 1, 0, none⟩ (.int .i64 0)).cell? ⟨w.heap.size + 1, 0, none⟩ = some (.int .i64 0)) ∧ Fr0 w (((w2.setCell ⟨w.heap.size, 0, none⟩ (.int .i64 n)).setCell ⟨w.heap.size, 1, none⟩ (.int .i64 d)).setCell ⟨w.heap.size + 1, 0, none⟩ (.int .i64 0))) := ⟨⟨blk_setCell_other (two_set hb (.int .i64 n) (.int .i64 d)) (p := ⟨w.heap.size + 1, 0, none⟩) (by simp) _, cell_of_blk (blk_setCell (blk_setCell_other (blk_setCell_other hq (p := ⟨w.heap.size, 0, none⟩) (by simp) (.int .i64 n)) (p := ⟨w.heap.size, 1, none⟩) (by simp) (.int .i64 d)) 0 (.int .i64 0)) 0⟩,
    (two_fr ((HF.out).trans hf2) (by simp) (.int .i64 n) (.int .i64 d)).setCell (p := ⟨w.heap.size + 1, 0, none⟩) (fun h => absurd h (by simp)) (.int .i64 0)⟩
  generalize ((w2.setCell ⟨w.heap.size, 0, none⟩ (.int .i64 n)).setCell ⟨w.heap.size, 1, none⟩ (.int .i64 d)).setCell ⟨w.heap.size + 1, 0, none⟩ (.int .i64 0) = W3 at *
  refine leaves_cons (f := 62) (args := #[.pointer (some ⟨w.heap.size, 0, none⟩), .pointer (some ⟨w.heap.size + 1, 0, none⟩)]) (by simp) (by simp [go_sem]) ?_
  refine (rtryc_idle w.heap.size (w.heap.size + 1) _).mono ?_
  rintro e u' w'' ⟨rfl, rfl, rfl⟩
  exact ⟨_, results_row_errno rfl _ _ w.heap.size (w.heap.size + 1) _ _ _ _ _ rfl rfl hBQ.out.1.1 (loadVar_cell hBQ.out.1.2) Try.underlying23 rfl (by kernel_rfl), rfl, hBQ.out.2⟩
set_option maxHeartbeats 2000000 in
/-- Where the work gives up: nothing, and why. -/
theorem rtry_no (K : FuncId) (cap : Array Value) (k : Int) (w : World) (HE : ∀ (args : Array Value) (U : World), (callFunc K args).run Try.prog U = .ok (.enter K args) U) (HW : ∀ U, Fr0 w U → Calls Try.prog K cap U fun e w' => e = .panicked [stopE k] ∧ Fr0 U w') :
    Calls Try.prog 34 #[clv K cap] w fun e w' => e = .returned (.tuple #[(rtv 0 0), .int .i64 k]) ∧ Fr0 w w' := by
  have hmf : ∀ (fn : Fn) (first cap : Array Value) (w : World), (Instr.makeFunc fn first cap).run Try.prog w = .ok (.func fn first cap) w := fun _ _ _ _ => rfl
  have HF := Lib.hid (((Fr.refl (fun _ => False) w).alloc (.cells (rtc 0 0) 23)).alloc (.cells #[.int .i64 0] 24))
  have HA := Lib.hid (blk_alloc (heap_alloc_new w (.cells (rtc 0 0) 23)) (.cells #[.int .i64 0] 24))
  have HB := Lib.hid (heap_an (w := w.alloc (.cells (rtc 0 0) 23)) (k := w.heap.size + 1) (.cells #[.int .i64 0] 24) (by simp))
  have HW' := Lib.hid HW
  clear HW
  go_enter_defers Try.func34, Try.ntmps34
  go_wp2_with (first | (go_at_fn K; (with_reducible refine (HW'.out _ HF.out).mono ?_); rintro _ w2 ⟨rfl, hf2⟩; have hb := hf2.blk HA.out (fun h => h); have hq := hf2.blk HB.out (fun h => h)) | fail)
  refine leaves_cons (f := 62) (args := #[.pointer (some ⟨w.heap.size, 0, none⟩), .pointer (some ⟨w.heap.size + 1, 0, none⟩)]) (by simp) (by simp [go_sem]) ?_
  refine (rtryc_stop w.heap.size (w.heap.size + 1) k [] w2 _ _ _ (by simp) hb hq).mono ?_
  rintro e u' w'' ⟨rfl, rfl, hp3, hq3, hf3⟩
  exact ⟨_, results_row_errno rfl _ _ w.heap.size (w.heap.size + 1) _ _ _ _ _ rfl rfl hp3 (loadVar_cell (cell_of_blk hq3 0)) Try.underlying23 rfl (by kernel_rfl), rfl, Fr.then (HF.out.trans hf2) hf3 (fun i hi h => by rcases h with h | h <;> omega)⟩
end Go.Proofs.Ytdakeenjeieekaa
