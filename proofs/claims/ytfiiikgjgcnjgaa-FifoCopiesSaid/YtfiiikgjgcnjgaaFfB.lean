/- Chapter 15: a line as it lies in memory; the small functions. -/
import Derived.Test.YtfiiikgjgcnjgaaFfA
import Derived.Test.YtfiiikgjgcnjgaaRegC
import Derived.Test.YtfiiikgjgcnjgaaProg
import Derived.Test.YtfiiikgjgcnjgaaRegB
import Derived.Laws.Rows
import Derived.Deep.RegionHeld3
import Derived.BigRegion
import Derived.Deep.DeepCutAuto
set_option linter.unusedVariables false
set_option linter.unusedSimpArgs false
namespace Go.Proofs.Ytfiiikgjgcnjgaa
open Go.RowKit

theorem rtb {a b : Bool} (h : a = b) : Ending.returned (.bool a) = Ending.returned (.bool b) := by rw [h]
abbrev lnc (X : Ln) (g c : Nat) : Array Value := #[.int .i64 X.lp, .int .i64 X.lb, .int .i64 X.room, .slice (some ⟨g, 0, none⟩) X.ring.length c, .int .i64 X.first, .int .i64 X.many, .bool true]
/-- A line at block b, its ring at block g. -/
structure IsLn (w : World) (b g : Nat) (X : Ln) : Prop where
  blk : ∃ c, X.ring.length ≤ c ∧ c ≤ maxLen ∧ w.heap[b]? = some (.cells (lnc X g c) 58 (0, 0))
  row : ∃ t sp, w.heap[g]? = some (.cells (pks X.ring ++ sp).toArray t (0, 0))
  ne : g ≠ b
  ok : X.Ok
  max : X.ring.length ≤ 1000000
theorem IsLn.kept {w w' : World} {b g : Nat} {X : Ln} {S : Nat → Prop} (h : IsLn w b g X) (hf : Fr S w w') (hb : ¬ S b) (hg : ¬ S g) : IsLn w' b g X := by
  obtain ⟨⟨c, h1, h2, h3⟩, ⟨t, sp, h4⟩, h5, h6, h7⟩ := h
  exact ⟨⟨c, h1, h2, hf.blk h3 hb⟩, ⟨t, sp, hf.blk h4 hg⟩, h5, h6, h7⟩
theorem IsLn.kept0 {w w' : World} {b g : Nat} {X : Ln} (h : IsLn w b g X) (hf : Fr0 w w') : IsLn w' b g X := h.kept hf (fun h => h) (fun h => h)
structure LnCells (w : World) (b g c : Nat) (X : Ln) : Prop where
  c0 : w.cell? ⟨b, 0, none⟩ = some (.int .i64 X.lp)
  c1 : w.cell? ⟨b, 1, none⟩ = some (.int .i64 X.lb)
  c2 : w.cell? ⟨b, 2, none⟩ = some (.int .i64 X.room)
  c3 : w.cell? ⟨b, 3, none⟩ = some (.slice (some ⟨g, 0, none⟩) X.ring.length c)
  c4 : w.cell? ⟨b, 4, none⟩ = some (.int .i64 X.first)
  c5 : w.cell? ⟨b, 5, none⟩ = some (.int .i64 X.many)
  c6 : w.cell? ⟨b, 6, none⟩ = some (.bool true)
theorem ln_cells {w : World} {b g c : Nat} {X : Ln} (h : w.heap[b]? = some (.cells (lnc X g c) 58 (0, 0))) : LnCells w b g c X :=
  ⟨cell_of_blk h 0, cell_of_blk h 1, cell_of_blk h 2, cell_of_blk h 3, cell_of_blk h 4, cell_of_blk h 5, cell_of_blk h 6⟩
theorem fnone_calls (b g : Nat) (X : Ln) (w : World) (h : IsLn w b g X) : Calls Try.prog 28 #[.pointer (some ⟨b, 0, none⟩)] w fun e w' => e = .returned (.bool false) ∧ w = w' := by
  obtain ⟨c, _, _, hb⟩ := h.blk
  have c6 := (ln_cells hb).c6
  clear hb h
  go_enter Try.func28, Try.ntmps28
  go_wp2_with fail
  go_ret
  exact ⟨rfl, rfl⟩
/-- A line that is not there. -/
def NoLn (w : World) (v : Value) : Prop := v = .pointer none ∨ ∃ b, v = .pointer (some ⟨b, 0, none⟩) ∧ w.cell? ⟨b, 6, none⟩ = some (.bool false)
theorem NoLn.kept {w w' : World} {v : Value} (h : NoLn w v) (hf : Fr0 w w') : NoLn w' v := by
  rcases h with h | ⟨b, h1, h2⟩
  · exact .inl h
  · exact .inr ⟨b, h1, hf.cell h2 (fun h => h)⟩
theorem fnone_no (v : Value) (w : World) (h : NoLn w v) : Calls Try.prog 28 #[v] w fun e w' => e = .returned (.bool true) ∧ w = w' := by
  rcases h with rfl | ⟨b, rfl, c6⟩
  · go_enter Try.func28, Try.ntmps28
    go_wp2_with fail
    go_ret
    exact ⟨rfl, rfl⟩
  · go_enter Try.func28, Try.ntmps28
    go_wp2_with fail
    go_ret
    exact ⟨rfl, rfl⟩
theorem fwithin_calls (n lo hi : Int) (w : World) : Calls Try.prog 23 #[.int .i64 n, .int .i64 lo, .int .i64 hi] w fun e w' => e = .returned (.bool (decide (lo ≤ n ∧ n ≤ hi))) ∧ w = w' := by
  by_cases h1 : lo ≤ n
  · go_enter Try.func23, Try.ntmps23
    go_wp2_with fail
    go_ret
    simp [h1]
  · go_enter Try.func23, Try.ntmps23
    go_wp2_with fail
    go_ret
    exact ⟨rtb (by have : ¬ lo ≤ n := by omega
                   simp [this]), rfl⟩
theorem fat_calls (b g : Nat) (X : Ln) (n : Nat) (w : World) (h : IsLn w b g X) (hn : n ≤ 1000000) : Calls Try.prog 31 #[.pointer (some ⟨b, 0, none⟩), .int .i64 n] w fun e w' => e = .returned (.int .i64 ((X.first + n) % X.ring.length : Nat)) ∧ Fr0 w w' := by
  obtain ⟨c, _, _, hb⟩ := h.blk
  obtain ⟨_, _, _, c3, c4, _, _⟩ := ln_cells hb
  have hl := h.ok.len
  have hf := h.ok.first
  have hm := h.max
  have hmod : (((X.first + n) % X.ring.length : Nat) : Int) = ((X.first : Int) + n) % (X.ring.length : Int) := by simp
  have HM := Lib.hid hmod
  clear hb h hmod
  generalize X.ring.length = len at *
  generalize X.first = fst at *
  go_enter Try.func31, Try.ntmps31
  go_wp2_with fail
  go_quiet (fail)
  go_wp2_with fail
  go_ret
  rw [HM.out]
  exact ⟨rfl, (Fr.refl _ w).drewN nq⟩
/-- What was lost. -/
theorem flost_calls (b g : Nat) (X : Ln) (w : World) (h : IsLn w b g X) : Calls Try.prog 17 #[.pointer (some ⟨b, 0, none⟩)] w fun e w' => e = .returned (.tuple #[.int .i64 X.lp, .int .i64 X.lb]) ∧ Fr0 w w' := by
  obtain ⟨c, _, _, hb⟩ := h.blk
  obtain ⟨c0, c1, _, _, _, _, _⟩ := ln_cells hb
  have HN := Lib.hid (fnone_calls b g X w h)
  clear hb h
  go_enter Try.func17, Try.ntmps17
  go_wp2_with (go_at_call 28; refine HN.out.mono ?_; rintro e w' ⟨rfl, rfl⟩)
  go_quiet (fail)
  go_wp2_with fail
  go_ret2
  exact ⟨rfl, (Fr.refl _ w).drewN nq⟩
theorem flost_no (v : Value) (w : World) (h : NoLn w v) : Calls Try.prog 17 #[v] w fun e w' => e = .returned (.tuple #[.int .i64 0, .int .i64 0]) ∧ w = w' := by
  have HN := Lib.hid (fnone_no v w h)
  clear h
  go_enter Try.func17, Try.ntmps17
  go_wp2_with (go_at_call 28; refine HN.out.mono ?_; rintro e w' ⟨rfl, rfl⟩)
  go_ret2
  exact ⟨rfl, rfl⟩
theorem row_cells {w : World} {g : Nat} {l : List Pk} {t : TypeId} {sp : List Value} (h : w.heap[g]? = some (.cells (pks l ++ sp).toArray t (0, 0))) (i : Nat) (hi : i < l.length) :
    w.cell? ⟨g, i * 3, none⟩ = some (.int .i64 (l.getD i pk0).id) ∧ w.cell? ⟨g, i * 3 + 1, none⟩ = some (.int .i64 (l.getD i pk0).flow) ∧ w.cell? ⟨g, i * 3 + 2, none⟩ = some (.int .i64 (l.getD i pk0).size) := by
  obtain ⟨e0, e1, e2⟩ := pks_at l i hi
  have hl := pks_length l
  have hg : l.getD i pk0 = l[i] := by simp [hi]
  rw [hg]
  have key : ∀ j v, (pks l)[j]? = some v → w.cell? ⟨g, j, none⟩ = some v := fun j v hj => by
    rw [cell_of_blk h j]
    have hlt : j < (pks l).length := (List.getElem?_eq_some_iff.1 hj).1
    simp [List.getElem?_append_left hlt, hj]
  exact ⟨key _ _ e0, key _ _ e1, key _ _ e2⟩
theorem results_row_tmp {P : Program} {fn : Func} {p u : Tmp} {ty : TypeId} (h : fn.results = #[.cell p ty, .tmp u]) (tmps : Array Value) (w : World) (g : Nat) (t : TypeId) (cs : Array Value) (fr : Nat × Nat) (d : TypeDesc)
    (hp : tmps.getD p undef = .pointer (some ⟨g, 0, none⟩)) (hg : w.heap[g]? = some (.cells cs t fr))
    (hu : P.underlying ty = some d) (hd : (match d with | .struct _ | .array _ _ => true | _ => false) = true) (hi : (P.info? ty).map (·.size) = some cs.size) :
    (results fn tmps).run P w = .ok (.tuple #[.agg cs, tmps.getD u undef]) w := by
  rw [results_cell_tmp h, hp]
  simp [asAddr, Result.andThen, run_loadVar_row w g t ty cs fr d hg hu hd hi]
/-- A packet stored over another one. -/
def putP (w : World) (b : Nat) (p : Pk) : World := ((w.setCell ⟨b, 0, none⟩ (.int .i64 p.id)).setCell ⟨b, 1, none⟩ (.int .i64 p.flow)).setCell ⟨b, 2, none⟩ (.int .i64 p.size)
theorem putP_blk {w : World} {b : Nat} {q : Pk} (h : w.heap[b]? = some (.cells (pkc q).toArray 34 (0, 0))) (p : Pk) : (putP w b p).heap[b]? = some (.cells (pkc p).toArray 34 (0, 0)) := by
  have := blk_setCell (blk_setCell (blk_setCell h 0 (.int .i64 p.id)) 1 (.int .i64 p.flow)) 2 (.int .i64 p.size)
  exact this
theorem putP_fr {S : Nat → Prop} {a w : World} (h : Fr S a w) {b : Nat} (hb : b < a.heap.size → S b) (p : Pk) : Fr S a (putP w b p) :=
  ((h.setCell (p := ⟨b, 0, none⟩) hb _).setCell (p := ⟨b, 1, none⟩) hb _).setCell (p := ⟨b, 2, none⟩) hb _
theorem pk_cells {w : World} {b : Nat} {p : Pk} (h : w.heap[b]? = some (.cells (pkc p).toArray 34 (0, 0))) :
    (w.cell? ⟨b, 0, none⟩ = some (.int .i64 p.id) ∧ w.cell? ⟨b, 1, none⟩ = some (.int .i64 p.flow) ∧ w.cell? ⟨b, 2, none⟩ = some (.int .i64 p.size)) ∧ w.frozen? ⟨b, 0, none⟩ = false ∧ w.frozen? ⟨b, 1, none⟩ = false ∧ w.frozen? ⟨b, 2, none⟩ = false :=
  ⟨⟨cell_of_blk h 0, cell_of_blk h 1, cell_of_blk h 2⟩, free_of_blk h 0, free_of_blk h 1, free_of_blk h 2⟩
theorem ffirst_calls (b g : Nat) (X : Ln) (w : World) (h : IsLn w b g X) (hm : 0 < X.many) : Calls Try.prog 21 #[.pointer (some ⟨b, 0, none⟩)] w fun e w' => e = .returned (.tuple #[pkv (X.pk 0), .bool true]) ∧ Fr0 w w' := by
  have hf := (Fr.refl (fun _ => False) w).alloc (.cells (pkc pk0).toArray 34)
  have hk := h.kept0 hf
  obtain ⟨c, _, _, hb⟩ := hk.blk
  obtain ⟨t, sp, hr⟩ := hk.row
  obtain ⟨c0, c1, c2, c3, c4, c5, c6⟩ := ln_cells hb
  have h1 := hk.ok.first
  have h2 := hk.max
  obtain ⟨d0, d1, d2⟩ := row_cells hr X.first h1
  have hp : X.pk 0 = X.ring.getD X.first pk0 := by unfold Ln.pk; rw [Nat.add_zero, Nat.mod_eq_of_lt h1]
  have HP := Lib.hid hp
  have HN := Lib.hid (fnone_calls b g X _ hk)
  have HF := Lib.hid hf
  have HZ := Lib.hid (heap_alloc_new w (.cells (pkc pk0).toArray 34))
  clear hb h hf hk hr hp
  generalize X.ring.getD X.first pk0 = p at *
  go_enter Try.func21, Try.ntmps21
  go_wp2_with (go_at_call 28; refine HN.out.mono ?_; rintro e w' ⟨rfl, rfl⟩)
  obtain ⟨⟨z0, z1, z2⟩, f0, f1, f2⟩ := pk_cells HZ.out
  go_region
  all_goals
    go_wp2_with fail
    exact bodyPost_ret (results_row_tmp rfl _ _ w.heap.size _ _ _ _ rfl (heap_alloc_new w (.cells (pkc p).toArray 34)) Try.underlying34 rfl (by kernel_rfl)) rfl ⟨by rw [HP.out]; rfl, ((Fr.refl _ w).alloc _).drew⟩
theorem ffirst_no (b g : Nat) (X : Ln) (w : World) (h : IsLn w b g X) (hm : X.many = 0) : Calls Try.prog 21 #[.pointer (some ⟨b, 0, none⟩)] w fun e w' => e = .returned (.tuple #[pkv pk0, .bool false]) ∧ Fr0 w w' := by
  have hf := (Fr.refl (fun _ => False) w).alloc (.cells (pkc pk0).toArray 34)
  have hk := h.kept0 hf
  obtain ⟨c, _, _, hb⟩ := hk.blk
  obtain ⟨c0, c1, c2, c3, c4, c5, c6⟩ := ln_cells hb
  rw [hm] at c5
  have HN := Lib.hid (fnone_calls b g X _ hk)
  have HZ := Lib.hid (heap_alloc_new w (.cells (pkc pk0).toArray 34))
  obtain ⟨⟨z0, z1, z2⟩, f0, f1, f2⟩ := pk_cells HZ.out
  clear hb h hf hk hm
  go_enter Try.func21, Try.ntmps21
  go_wp2_with (go_at_call 28; refine HN.out.mono ?_; rintro e w' ⟨rfl, rfl⟩)
  exact bodyPost_ret (results_row_tmp rfl _ _ w.heap.size _ _ _ _ rfl (heap_alloc_new w (.cells (pkc pk0).toArray 34)) Try.underlying34 rfl (by kernel_rfl)) rfl ⟨rfl, (Fr.refl _ w).alloc _⟩
theorem ffirst_nil (v : Value) (w : World) (h : NoLn w v) : Calls Try.prog 21 #[v] w fun e w' => e = .returned (.tuple #[pkv pk0, .bool false]) ∧ Fr0 w w' := by
  have hf := (Fr.refl (fun _ => False) w).alloc (.cells (pkc pk0).toArray 34)
  have HN := Lib.hid (fnone_no v _ (h.kept hf))
  have HZ := Lib.hid (heap_alloc_new w (.cells (pkc pk0).toArray 34))
  obtain ⟨⟨z0, z1, z2⟩, f0, f1, f2⟩ := pk_cells HZ.out
  clear h hf
  go_enter Try.func21, Try.ntmps21
  go_wp2_with (go_at_call 28; refine HN.out.mono ?_; rintro e w' ⟨rfl, rfl⟩)
  exact bodyPost_ret (results_row_tmp rfl _ _ w.heap.size _ _ _ _ rfl (heap_alloc_new w (.cells (pkc pk0).toArray 34)) Try.underlying34 rfl (by kernel_rfl)) rfl ⟨rfl, (Fr.refl _ w).alloc _⟩
end Go.Proofs.Ytfiiikgjgcnjgaa
