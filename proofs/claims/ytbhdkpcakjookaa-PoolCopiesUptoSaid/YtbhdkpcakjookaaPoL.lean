/- Chapter 24: the document's Put: what it refuses. -/
import Derived.Test.YtbhdkpcakjookaaPoI
set_option linter.unusedVariables false
set_option linter.unusedSimpArgs false
namespace Go.Proofs.Ytbhdkpcakjookaa
open Go.RowKit
attribute [local go_sem] Oper.semAt_some

theorem results_row_tmp2 {P : Program} {fn : Func} {p u v : Tmp} {ty : TypeId} (h : fn.results = #[.cell p ty, .tmp u, .tmp v]) (tmps : Array Value) (w : World) (g : Nat) (t : TypeId) (cs : Array Value) (fr : Nat × Nat) (d : TypeDesc)
    (hp : tmps.getD p undef = .pointer (some ⟨g, 0, none⟩)) (hg : w.heap[g]? = some (.cells cs t fr))
    (hu : P.underlying ty = some d) (hd : (match d with | .struct _ | .array _ _ => true | _ => false) = true) (hi : (P.info? ty).map (·.size) = some cs.size) :
    (results fn tmps).run P w = .ok (.tuple #[.agg cs, tmps.getD u undef, tmps.getD v undef]) w := by
  have hp' : tmps[p]?.getD undef = .pointer (some ⟨g, 0, none⟩) := by simpa using hp
  simp [results, h, hp', asAddr, run_loadVar_row w g t ty cs fr d hg hu hd hi, Sem.run_bind, Result.andThen]
/-- A document's pool, by value: the same cells. -/
abbrev pov (most last : Int) (A : Option Addr) (n c : Nat) : Value := .agg #[.int .i64 most, .int .i64 last, .slice A n c]
/-- The two blocks that the document's calls lay first. -/
theorem rp_blks (w : World) (most last : Int) (A : Option Addr) (n c : Nat) :
    ((w.alloc (.cells (poc most last A n c) 45)).alloc (.cells (poc 0 0 none 0 0) 45)).heap[w.heap.size]? = some (.cells (poc most last A n c) 45 (0, 0)) ∧
    ((w.alloc (.cells (poc most last A n c) 45)).alloc (.cells (poc 0 0 none 0 0) 45)).heap[w.heap.size + 1]? = some (.cells (poc 0 0 none 0 0) 45 (0, 0)) :=
  ⟨blk_alloc (heap_alloc_new _ _) _, heap_alloc_nn (by simp)⟩
theorem po_cells2 {w : World} {b : Nat} {most last : Int} {A : Option Addr} {n c : Nat} {t : TypeId} (h : w.heap[b]? = some (.cells (poc most last A n c) t (0, 0))) :
    (w.cell? ⟨b, 0, none⟩ = some (.int .i64 most) ∧ w.cell? ⟨b, 1, none⟩ = some (.int .i64 last) ∧ w.cell? ⟨b, 2, none⟩ = some (.slice A n c)) ∧ w.frozen? ⟨b, 0, none⟩ = false ∧ w.frozen? ⟨b, 1, none⟩ = false ∧ w.frozen? ⟨b, 2, none⟩ = false :=
  ⟨⟨cell_of_blk h 0, cell_of_blk h 1, cell_of_blk h 2⟩, free_of_blk h 0, free_of_blk h 1, free_of_blk h 2⟩
def RputNo (most last : Int) (A : Option Addr) (n c : Nat) (err : Int) (w : World) (e : Ending) (w' : World) : Prop := e = .returned (.tuple #[pov most last A n c, .int .i64 0, .int .i64 err]) ∧ Fr0 w w'
theorem rput_arg (most last : Int) (A0 : Option Addr) (n0 c0 : Nat) (link now : Int) (A : Option Addr) (n c : Nat) (w : World) (ha : ¬ (0 ≤ link ∧ link ≤ 47 ∧ 0 ≤ now ∧ now ≤ 2147483647)) :
    Calls Try.prog 33 #[pov most last A0 n0 c0, .int .i64 link, .int .i64 now, .slice A n c] w (RputNo most last A0 n0 c0 2 w) := by
  have hc : link < 0 ∨ (¬ link < 0 ∧ 47 < link) ∨ (¬ link < 0 ∧ ¬ 47 < link ∧ now < 0) ∨ (¬ link < 0 ∧ ¬ 47 < link ∧ ¬ now < 0 ∧ 2147483647 < now) := by omega
  clear ha
  rcases hc with h1 | ⟨h1, h2⟩ | ⟨h1, h2, h3⟩ | ⟨h1, h2, h3, h4⟩
  all_goals
    go_enter Try.func33, Try.ntmps33
    go_wp2_with fail
    exact bodyPost_ret (results_row_tmp2 rfl _ _ (w.heap.size + 1) _ _ _ _ rfl (heap_alloc_nn (by simp)) Try.underlying45 rfl (by kernel_rfl)) rfl ⟨rfl, ((Fr.refl _ w).alloc _).alloc _⟩
theorem rput_long (most last : Int) (A0 : Option Addr) (n0 c0 : Nat) (link now : Int) (A : Option Addr) (n c : Nat) (w : World) (ha : 0 ≤ link ∧ link ≤ 47 ∧ 0 ≤ now ∧ now ≤ 2147483647) (hn : 4096 < n) :
    Calls Try.prog 33 #[pov most last A0 n0 c0, .int .i64 link, .int .i64 now, .slice A n c] w (RputNo most last A0 n0 c0 3 w) := by
  have h1 : ¬ link < 0 := by omega
  have h2 : ¬ 47 < link := by omega
  have h3 : ¬ now < 0 := by omega
  have h4 : ¬ 2147483647 < now := by omega
  have h5 : (4096 : Int) < (n : Int) := by omega
  clear ha
  go_enter Try.func33, Try.ntmps33
  go_wp2_with fail
  exact bodyPost_ret (results_row_tmp2 rfl _ _ (w.heap.size + 1) _ _ _ _ rfl (heap_alloc_nn (by simp)) Try.underlying45 rfl (by kernel_rfl)) rfl ⟨rfl, ((Fr.refl _ w).alloc _).alloc _⟩
theorem rput_crowd (most last : Int) (A0 : Option Addr) (n0 c0 : Nat) (link now : Int) (A : Option Addr) (n c : Nat) (w : World) (ha : 0 ≤ link ∧ link ≤ 47 ∧ 0 ≤ now ∧ now ≤ 2147483647) (hn : n ≤ 4096) (hc : most ≤ n0) :
    Calls Try.prog 33 #[pov most last A0 n0 c0, .int .i64 link, .int .i64 now, .slice A n c] w (RputNo most last A0 n0 c0 300 w) := by
  have h1 : ¬ link < 0 := by omega
  have h2 : ¬ 47 < link := by omega
  have h3 : ¬ now < 0 := by omega
  have h4 : ¬ 2147483647 < now := by omega
  have h5 : ¬ (4096 : Int) < (n : Int) := by omega
  clear ha hn
  go_enter Try.func33, Try.ntmps33
  go_wp2_with fail
  exact bodyPost_ret (results_row_tmp2 rfl _ _ (w.heap.size + 1) _ _ _ _ rfl (heap_alloc_nn (by simp)) Try.underlying45 rfl (by kernel_rfl)) rfl ⟨rfl, ((Fr.refl _ w).alloc _).alloc _⟩
end Go.Proofs.Ytbhdkpcakjookaa
