/- Chapter 15: lay. -/
import Derived.Test.YtfiiikgjgcnjgaaFfF
set_option linter.unusedVariables false
set_option linter.unusedSimpArgs false
namespace Go.Proofs.Ytfiiikgjgcnjgaa
open Go.RowKit

/-- A line that was laid anew: so many places. -/
def Ln.laid (X : Ln) (L : List Pk) (n : Nat) : Ln := ⟨X.lp, X.lb, X.room, L ++ List.replicate (n - L.length) pk0, 0, L.length⟩
theorem pks_rep0 (n : Nat) : pks (List.replicate n pk0) = List.replicate (n * 3) (.int .i64 0) := by
  induction n with
  | zero => rfl
  | succ n ih =>
    have e : pks (List.replicate (n + 1) pk0) = .int .i64 0 :: .int .i64 0 :: .int .i64 0 :: pks (List.replicate n pk0) := rfl
    rw [e, ih, show (n + 1) * 3 = n * 3 + 1 + 1 + 1 by omega]
    simp only [List.replicate_succ]
theorem pks_rep (n : Nat) : (madeCells (Value.agg #[.int .i64 0, .int .i64 0, .int .i64 0]).cells (n * 3)).toList = pks (List.replicate n pk0) := by
  rw [pks_rep0]
  refine List.ext_getElem (by simp [madeCells]) fun i h1 h2 => ?_
  simp only [madeCells, Value.cells, Array.toList_map, Array.toList_range, List.getElem_map, List.getElem_range, List.getElem_replicate]
  have h3 : i % (#[Value.int .i64 0, .int .i64 0, .int .i64 0] : Array Value).size = 0 ∨ i % (#[Value.int .i64 0, .int .i64 0, .int .i64 0] : Array Value).size = 1 ∨ i % (#[Value.int .i64 0, .int .i64 0, .int .i64 0] : Array Value).size = 2 := by
    have : i % 3 < 3 := Nat.mod_lt _ (by decide)
    show i % 3 = 0 ∨ i % 3 = 1 ∨ i % 3 = 2
    omega
  rcases h3 with h | h | h <;> rw [h] <;> rfl
theorem own_row2 {w : World} {base : Nat} {e : TypeId} {size g n : Nat} {xs : List Value} (h : w.ownsRow base e size (.slice (some ⟨g, 0, none⟩) n n) n xs) : ∃ sp, w.heap[g]? = some (.cells (xs ++ sp).toArray e (0, 0)) := (own_row h).2
theorem pks_drop (n : Nat) (L : List Pk) (h : L.length ≤ n) (sp : List Value) : pks L ++ (pks (List.replicate n pk0) ++ sp).drop (pks L).length = pks (L ++ List.replicate (n - L.length) pk0) ++ sp := by
  have e : List.replicate n pk0 = List.replicate L.length pk0 ++ List.replicate (n - L.length) pk0 := by rw [List.replicate_append_replicate]; congr 1; omega
  have hl : (pks L).length = (pks (List.replicate L.length pk0)).length := by rw [pks_length, pks_length, List.length_replicate]
  rw [e, pks_append, hl, List.append_assoc, List.drop_left, pks_append, List.append_assoc]
theorem laid_is (b g c h : Nat) (X : Ln) (L : List Pk) (n : Nat) (w : World) (sp : List Value) (t : TypeId) (hb : w.heap[b]? = some (.cells ((lnc X g c).setIfInBounds 3 (.slice (some ⟨h, 0, none⟩) n n)) 58 (0, 0)))
    (hg : w.heap[h]? = some (.cells (pks L ++ (pks (List.replicate n pk0) ++ sp).drop (pks L).length).toArray t (0, 0))) (hne : h ≠ b) (h1 : 1 ≤ n) (hn : L.length ≤ n) (hm : n ≤ 1000000) :
    IsLn ((w.setCell ⟨b, 4, none⟩ (.int .i64 0)).setCell ⟨b, 5, none⟩ (.int .i64 L.length)) b h (X.laid L n) := by
  have hl : (X.laid L n).ring.length = n := by simp [Ln.laid]; omega
  rw [pks_drop n L hn sp] at hg
  refine ⟨⟨n, by omega, by simp only [maxLen]; omega, ?_⟩, ⟨t, sp, blk_setCell_other (blk_setCell_other hg hne.symm _) hne.symm _⟩, hne, ⟨by omega, by rw [hl]; exact hn, by rw [hl]; show 0 < n; omega⟩, by omega⟩
  have := blk_setCell (blk_setCell hb 4 (.int .i64 0)) 5 (.int .i64 L.length)
  rw [this]
  show some (Obj.cells #[.int .i64 X.lp, .int .i64 X.lb, .int .i64 X.room, .slice (some ⟨h, 0, none⟩) n n, .int .i64 0, .int .i64 L.length, .bool true] 58 (0, 0)) = _
  have e : lnc (X.laid L n) h n = #[.int .i64 X.lp, .int .i64 X.lb, .int .i64 X.room, .slice (some ⟨h, 0, none⟩) (X.laid L n).ring.length n, .int .i64 0, .int .i64 L.length, .bool true] := rfl
  rw [e, hl]
theorem flay_calls (b g c : Nat) (X : Ln) (A : Option Addr) (cA : Nat) (L : List Pk) (n : Nat) (w : World) (hb : w.heap[b]? = some (.cells (lnc X g c) 58 (0, 0))) (hR : Rd (· = b) w A (pks L)) (h1 : 1 ≤ n) (hn : L.length ≤ n) (hm : n ≤ 1000000) :
    Calls Try.prog 29 #[.pointer (some ⟨b, 0, none⟩), .slice A L.length cA, .int .i64 n] w fun e w' => e = .returned (.tuple #[]) ∧ IsLn w' b w.heap.size (X.laid L n) ∧ Fr (· = b) w w' := by
  obtain ⟨i, z, hi, hz, hsz, hby, hzs⟩ : ∃ i z, Try.prog.info? 34 = some i ∧ i.zero = some z ∧ i.size = 3 ∧ i.bytes = 24 ∧ z = .agg #[.int .i64 0, .int .i64 0, .int .i64 0] := ⟨_, _, rfl, rfl, rfl, rfl, rfl⟩
  obtain ⟨w2, hrun, hown, hgr⟩ := run_make_full (P := Try.prog) w w.heap.size 28 34 i z 3 Try.underlying28 hi hz hsz .i64 .i64 n (by rw [hby]; omega) (by simp only [maxLen]; omega) (Nat.le_refl _)
  rw [hzs, pks_rep] at hown
  obtain ⟨_, sp, hrow⟩ := own_row hown
  have hf2 : Fr0 w w2 := (Fr.refl _ w).grown hgr (by simp)
  have hb2 := hf2.blk hb (fun h => h)
  have hne : w.heap.size ≠ b := by have := lt_of_block hb; omega
  have fr3 : w2.frozen? ⟨b, 3, none⟩ = false := free_of_blk hb2 3
  have hb3 := blk_setCell hb2 3 (.slice (some ⟨w.heap.size, 0, none⟩) n n)
  have hrow3 := blk_setCell_other hrow (p := ⟨b, 3, none⟩) hne.symm (.slice (some ⟨w.heap.size, 0, none⟩) n n)
  have hR3 : Rd (· = b) (w2.setCell ⟨b, 3, none⟩ (.slice (some ⟨w.heap.size, 0, none⟩) n n)) A (pks L) := (hR.kept (Fr0.any hf2)).kept ((Fr.refl (· = b) w2).setCell (fun _ => rfl) _)
  have hf3 : Fr (· = b) w (w2.setCell ⟨b, 3, none⟩ (.slice (some ⟨w.heap.size, 0, none⟩) n n)) := Fr.setCell (S := (· = b)) (p := ⟨b, 3, none⟩) (Fr0.any hf2) (fun _ => rfl) _
  have HB3 := Lib.hid hb3
  have HROW := Lib.hid hrow3
  have HR3 := Lib.hid hR3
  have HF3 := Lib.hid hf3
  have c33 := cell_of_blk hb3 3
  have c0 : w2.cell? ⟨b, 3, none⟩ = _ := cell_of_blk hb2 3
  clear hown hgr hi hz hsz hby hzs hrow hb hb2 hb3 hrow3 hR3 hf3 hR hf2
  rcases (show n = 1 ∨ 2 ≤ n by omega) with h2 | h2
  · subst h2
    have hrun' : (Instr.makeSlice 28 (.int .i64 1) (.int .i64 1)).run Try.prog w = .ok (.slice (some ⟨w.heap.size, 0, none⟩) 1 1) w2 := hrun
    clear hrun
    go_enter Try.func29, Try.ntmps29
    go_wp2_with (refine wpList_copyRd rfl (.tmp 15) (.tmp 16) _ _ rfl (· = b) 34 3 Try.underlying28 rfl (by decide) w.heap.size 1 1 A L.length cA rfl rfl _ _ HROW.out (pks L) (pks_length L) hn HR3.out (by simp [pks_length]; omega) (pks_one L) ?_; intro w5 hg5 hf5; have hb5 := hf5.blk HB3.out hne.symm; have hc4 : w5.cell? ⟨b, 4, none⟩ = some (.int .i64 X.first) := cell_of_blk hb5 4; have hc5 : w5.cell? ⟨b, 5, none⟩ = some (.int .i64 X.many) := cell_of_blk hb5 5; have hf4 : w5.frozen? ⟨b, 4, none⟩ = false := free_of_blk hb5 4; have hf5' : w5.frozen? ⟨b, 5, none⟩ = false := free_of_blk hb5 5; have HLD := Lib.hid (laid_is b g c w.heap.size X L _ w5 sp _ hb5 hg5 hne h1 hn hm); have HFR := Lib.hid ((HF3.out.then hf5 (fun i hi e => by subst e; omega)).setCell (p := ⟨b, 4, none⟩) (fun _ => rfl) (.int .i64 0)); have HFS := Lib.hid (HFR.out.setCell (p := ⟨b, 5, none⟩) (fun _ => rfl) (.int .i64 L.length)); clear hb5 hg5 hf5)
    go_end0
    exact ⟨rfl, HLD.out, HFS.out⟩
  · have hrun' : (Instr.makeSlice 28 (.int .i64 n) (.int .i64 n)).run Try.prog w = .ok (.slice (some ⟨w.heap.size, 0, none⟩) n n) w2 := hrun
    clear hrun
    go_enter Try.func29, Try.ntmps29
    go_wp2_with (refine wpList_copyRd rfl (.tmp 15) (.tmp 16) _ _ rfl (· = b) 34 3 Try.underlying28 rfl (by decide) w.heap.size n n A L.length cA rfl rfl _ _ HROW.out (pks L) (pks_length L) hn HR3.out (by simp [pks_length]; omega) (pks_one L) ?_; intro w5 hg5 hf5; have hb5 := hf5.blk HB3.out hne.symm; have hc4 : w5.cell? ⟨b, 4, none⟩ = some (.int .i64 X.first) := cell_of_blk hb5 4; have hc5 : w5.cell? ⟨b, 5, none⟩ = some (.int .i64 X.many) := cell_of_blk hb5 5; have hf4 : w5.frozen? ⟨b, 4, none⟩ = false := free_of_blk hb5 4; have hf5' : w5.frozen? ⟨b, 5, none⟩ = false := free_of_blk hb5 5; have HLD := Lib.hid (laid_is b g c w.heap.size X L _ w5 sp _ hb5 hg5 hne h1 hn hm); have HFR := Lib.hid ((HF3.out.then hf5 (fun i hi e => by subst e; omega)).setCell (p := ⟨b, 4, none⟩) (fun _ => rfl) (.int .i64 0)); have HFS := Lib.hid (HFR.out.setCell (p := ⟨b, 5, none⟩) (fun _ => rfl) (.int .i64 L.length)); clear hb5 hg5 hf5)
    go_end0
    exact ⟨rfl, HLD.out, HFS.out⟩
theorem flay_calls' (b g c : Nat) (X : Ln) (A : Option Addr) (cA : Nat) (L : List Pk) (n : Nat) (ni : Int) (hni : ni = n) (w : World) (hb : w.heap[b]? = some (.cells (lnc X g c) 58 (0, 0))) (hR : Rd (· = b) w A (pks L)) (h1 : 1 ≤ n) (hn : L.length ≤ n) (hm : n ≤ 1000000) :
    Calls Try.prog 29 #[.pointer (some ⟨b, 0, none⟩), .slice A L.length cA, .int .i64 ni] w fun e w' => e = .returned (.tuple #[]) ∧ IsLn w' b w.heap.size (X.laid L n) ∧ Fr (· = b) w w' := by
  subst hni
  exact flay_calls b g c X A cA L n w hb hR h1 hn hm
end Go.Proofs.Ytfiiikgjgcnjgaa
