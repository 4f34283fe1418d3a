/- Chapter 15: does. -/
import Derived.Test.YtfiiikgjgcnjgaaFfS
set_option linter.unusedVariables false
set_option linter.unusedSimpArgs false
namespace Go.Proofs.Ytfiiikgjgcnjgaa
open Go.RowKit

abbrev actc (k : Int) (p : Pk) : Array Value := #[.int .i64 k, .int .i64 p.id, .int .i64 p.flow, .int .i64 p.size]
abbrev actv (k : Int) (p : Pk) : Value := .agg #[.int .i64 k, .int .i64 p.id, .int .i64 p.flow, .int .i64 p.size]
def Fs.act (s : Fs) (k : Int) (p : Pk) : Fs := if k = 1 then (s.put p).1 else if k = 2 then s.take.1 else if k = 3 then (s.drop p.flow).1 else s
theorem Fs.Ok.act {s : Fs} {K : Nat} (h : s.Ok K) (k : Int) (p : Pk) : (s.act k p).Ok (K + 1) := by
  unfold Fs.act
  split
  · exact h.put p
  · split
    · exact (h.take).mono (by omega)
    · split
      · exact (h.drop _).mono (by omega)
      · exact h.mono (by omega)
/-- A line and the document's. -/
structure Two (w : World) (b g : Nat) (v : Value) (s : Fs) (K : Nat) : Prop where
  ln : LnAt w b g s K
  rl : IsRl w (fun k => k = b ∨ k = g) v s
  ok : s.Ok K
def DoesPost (w : World) (b g : Nat) (s : Fs) (K : Nat) (e : Ending) (w' : World) : Prop :=
  (∃ v g', e = .returned (.tuple #[v, .bool true]) ∧ Two w' b g' v s K ∧ (g' = g ∨ w.heap.size ≤ g')) ∧ Fr (fun k => k = b ∨ k = g) w w'
theorem act_cells {w : World} {q : Nat} {k : Int} {p : Pk} (h : w.heap[q]? = some (.cells (actc k p) 36 (0, 0))) :
    w.cell? ⟨q, 0, none⟩ = some (.int .i64 k) ∧ w.cell? ⟨q, 1, none⟩ = some (.int .i64 p.id) ∧ w.cell? ⟨q, 2, none⟩ = some (.int .i64 p.flow) ∧ w.cell? ⟨q, 3, none⟩ = some (.int .i64 p.size) :=
  ⟨cell_of_blk h 0, cell_of_blk h 1, cell_of_blk h 2, cell_of_blk h 3⟩
/-- The three blocks that does lays first. -/
structure DoesB (w W : World) (r : Array Value) (k : Int) (p : Pk) : Prop where
  b0 : W.heap[w.heap.size]? = some (.cells r 30 (0, 0))
  b1 : W.heap[w.heap.size + 1]? = some (.cells (actc k p) 36 (0, 0))
  b2 : W.heap[w.heap.size + 2]? = some (.cells rlz 30 (0, 0))
  sz : W.heap.size = w.heap.size + 3
  fr : Fr0 w W
theorem doesW_b (w : World) (r : Array Value) (k : Int) (p : Pk) : DoesB w (((w.alloc (.cells r 30)).alloc (.cells (actc k p) 36)).alloc (.cells rlz 30)) r k p :=
  ⟨blk_alloc (blk_alloc (heap_alloc_new _ _) _) _, blk_alloc (heap_alloc_nn (by simp)) _, heap_alloc_nn (by simp), by simp, (((Fr.refl _ w).alloc _).alloc _).alloc _⟩
theorem DoesB.kept {w W W' : World} {r : Array Value} {k : Int} {p : Pk} (h : DoesB w W r k p) (hf : Fr0 W W') : W'.heap[w.heap.size]? = some (.cells r 30 (0, 0)) ∧ W'.heap[w.heap.size + 1]? = some (.cells (actc k p) 36 (0, 0)) ∧ W'.heap[w.heap.size + 2]? = some (.cells rlz 30 (0, 0)) :=
  ⟨hf.blk h.b0 (fun h => h), hf.blk h.b1 (fun h => h), hf.blk h.b2 (fun h => h)⟩
/-- The line's blocks and the three that does lays. -/
def DoesS (b g n : Nat) (k : Nat) : Prop := (k = b ∨ k = g) ∨ (n ≤ k ∧ k < n + 3)
theorem doesS_low (b g n : Nat) : ∀ k, k < n → DoesS b g n k → k = b ∨ k = g := fun k hk h => by rcases h with h | h <;> omega
theorem doesS_high {b g n m : Nat} (hb : b < n) (hg : g < n) (hm : n + 3 ≤ m) : ∀ k, m ≤ k → ¬ DoesS b g n k := fun k hk h => by rcases h with (h | h) | h <;> omega
/-- What is behind the call and the store of the result. -/
theorem does_end {w W wF : World} {b g g' : Nat} {A : Option Addr} {c : Nat} {s' : Fs} {K : Nat} (hb : b < w.heap.size) (hg : g < w.heap.size) (hgb : g ≠ b) (hW : w.heap.size + 3 ≤ W.heap.size) (hF : Fr0 w W)
    (hrl : IsRl W (DoesS b g w.heap.size) (rlv s'.room A s'.l.length c s'.lp s'.lb) s') (hln : LnAt wF b g' s' K) (hg' : g' = g ∨ W.heap.size ≤ g') (hfF : Fr (fun k => k = b ∨ k = g) W wF) (ho : s'.Ok K) :
    DoesPost w b g s' K (.returned (.tuple #[rlv s'.room A s'.l.length c s'.lp s'.lb, .bool true])) (putRl wF (w.heap.size + 2) s'.room A s'.l.length c s'.lp s'.lb) := by
  have h1 : IsRl W (fun k => DoesS b g w.heap.size k ∨ W.heap.size ≤ k) (rlv s'.room A s'.l.length c s'.lp s'.lb) s' := hrl.mono (fun k hk e => by
    rcases e with e | e
    · exact e
    · omega)
  have h2 := h1.kept (hfF.mono (fun k _ e => .inl (.inl e)))
  have hfP : Fr (fun k => k = w.heap.size + 2) wF (putRl wF (w.heap.size + 2) s'.room A s'.l.length c s'.lp s'.lb) := putRl_fr (S := fun k => k = w.heap.size + 2) (k := w.heap.size + 2) (Fr.refl _ wF) (fun _ => rfl) _ _ _ _ _ _
  have h3 := h2.kept (hfP.mono (fun k _ e => .inl (.inr (by omega))))
  refine ⟨⟨_, g', rfl, ⟨hln.kept hfP (fun e => by omega) (fun e => by omega), h3.mono (fun k hk e => ?_), ho⟩, ?_⟩, ?_⟩
  · rcases e with rfl | rfl
    · exact .inl (.inl (.inl rfl))
    · rcases hg' with rfl | hg'
      · exact .inl (.inl (.inr rfl))
      · exact .inr hg'
  · rcases hg' with e | e
    · exact .inl e
    · exact .inr (by omega)
  · exact (((Fr0.any hF).trans hfF).then hfP (fun i hi e => by omega))
/-- What is behind the call, the document's, and the store of the result. -/
theorem does_end2 {w W w3 w6 : World} {b g g' : Nat} {A : Option Addr} {c : Nat} {s' : Fs} {K : Nat} (hb : b < w.heap.size) (hg : g < w.heap.size) (hgb : g ≠ b) (hW : W.heap.size = w.heap.size + 3) (hF : Fr0 w W) (hfF : Fr (fun k => k = b ∨ k = g) W w3) (hg' : g' = g ∨ W.heap.size ≤ g')
    (hs3 : w.heap.size + 3 ≤ w3.heap.size) (hf6 : Fr0 w3 w6) (hln : LnAt w6 b g' s' K) (hrl : IsRl w6 (fun k => DoesS b g w.heap.size k ∨ w.heap.size + 3 ≤ k) (rlv s'.room A s'.l.length c s'.lp s'.lb) s') (ho : s'.Ok K) :
    DoesPost w b g s' K (.returned (.tuple #[rlv s'.room A s'.l.length c s'.lp s'.lb, .bool true])) (putRl w6 (w.heap.size + 2) s'.room A s'.l.length c s'.lp s'.lb) := by
  have hfP : Fr (fun k => k = w.heap.size + 2) w6 (putRl w6 (w.heap.size + 2) s'.room A s'.l.length c s'.lp s'.lb) := putRl_fr (S := fun k => k = w.heap.size + 2) (k := w.heap.size + 2) (Fr.refl _ w6) (fun _ => rfl) _ _ _ _ _ _
  have h3 := hrl.kept (hfP.mono (fun k _ e => .inl (.inr (by omega))))
  refine ⟨⟨_, g', rfl, ⟨hln.kept hfP (fun e => by omega) (fun e => by omega), h3.mono (fun k hk e => ?_), ho⟩, ?_⟩, ?_⟩
  · rcases e with rfl | rfl
    · exact .inl (.inl (.inl rfl))
    · rcases hg' with rfl | hg'
      · exact .inl (.inl (.inr rfl))
      · exact .inr (by omega)
  · rcases hg' with e | e
    · exact .inl e
    · exact .inr (by omega)
  · exact (((Fr0.any hF).trans hfF).trans (Fr0.any hf6)).then hfP (fun i hi e => by omega)
set_option maxRecDepth 100000 in
set_option maxHeartbeats 2000000 in
theorem does_put (b g : Nat) (v : Value) (s : Fs) (K : Nat) (p : Pk) (w : World) (h : Two w b g v s K) (hK : K ≤ 400000) :
    Calls Try.prog 10 #[.pointer (some ⟨b, 0, none⟩), v, actv 1 p] w (DoesPost w b g (s.put p).1 (K + 1)) := by
  have hlt := h.ln.lt
  have HLT := Lib.hid hlt
  obtain ⟨A, c, rfl, hrest⟩ := h.rl.ex
  clear hrest
  have HB := Lib.hid (doesW_b w (rlc s.room A s.l.length c s.lp s.lb) 1 p)
  have HRP := Lib.hid (fun w' (hf : Fr0 w w') (hz : w.heap.size + 3 ≤ w'.heap.size) => rput_any (DoesS b g w.heap.size) _ s K p w' ((h.rl.mono (doesS_low b g w.heap.size)).kept (Fr0.any hf)) h.ok hK (doesS_high hlt.1 hlt.2.1 hz))
  have HFP := Lib.hid (fun w' (hf : Fr0 w w') => fput_any b g s K p w' (h.ln.kept0 hf) h.ok hK)
  have HOK := Lib.hid (h.ok.put p)
  obtain ⟨⟨c0, c1, c2, c3⟩, _⟩ := rl_cells HB.out.b0
  obtain ⟨a0, a1, a2, a3⟩ := act_cells HB.out.b1
  clear h hlt
  generalize hsp : s.put p = sp at *
  obtain ⟨s', no⟩ := sp
  clear hsp
  dsimp only at HOK
  go_enter Try.func10, Try.ntmps10
  go_wp2_with fail
  refine (HRP.out _ HB.out.fr (by simp)).mono ?_
  rintro e w3 ⟨⟨u, rfl, hrl⟩, hf3⟩
  obtain ⟨A', c', rfl, hrest⟩ := hrl.ex
  clear hrest
  obtain ⟨k0, k1, k2⟩ := HB.out.kept hf3
  have HF4 := Lib.hid ((HB.out.fr.trans hf3).alloc (.cells (rlc s'.room A' s'.l.length c' s'.lp s'.lb) 30))
  have HA4 := Lib.hid (blk_alloc k1 (.cells (rlc s'.room A' s'.l.length c' s'.lp s'.lb) 30))
  have HX4 := Lib.hid (blk_alloc k2 (.cells (rlc s'.room A' s'.l.length c' s'.lp s'.lb) 30))
  have HN4 := Lib.hid (heap_alloc_new w3 (.cells (rlc s'.room A' s'.l.length c' s'.lp s'.lb) 30))
  have HRL4 := Lib.hid (hrl.kept (Fr0.any ((Fr.refl _ w3).alloc (.cells (rlc s'.room A' s'.l.length c' s'.lp s'.lb) 30))))
  have HQ := Lib.hid (show w.heap.size + 3 ≤ w3.heap.size from by have := hf3.size; simp at this; omega)
  clear hrl hf3 HB HRP k0 k1 k2 c0 c1 c2 c3 a0 a1 a2 a3
  go_wp2_with fail
  have HSW := Lib.hid (show w3.heap.size < (w3.alloc (.cells (rlc s'.room A' s'.l.length c' s'.lp s'.lb) 30)).heap.size from by simp)
  generalize w3.heap.size = q at *
  generalize w3.alloc (.cells (rlc s'.room A' s'.l.length c' s'.lp s'.lb) 30) = W at *
  have HKC := Lib.hid (fun U (h : Fr (fun k => (k = b ∨ k = g) ∨ k = w.heap.size + 2) W U) => (show (U.cell? ⟨q, 0, none⟩ = some (.int .i64 s'.room) ∧ U.cell? ⟨q, 1, none⟩ = some (.slice A' s'.l.length c') ∧ U.cell? ⟨q, 2, none⟩ = some (.int .i64 s'.lp) ∧ U.cell? ⟨q, 3, none⟩ = some (.int .i64 s'.lb)) ∧ (U.cell? ⟨w.heap.size + 1, 0, none⟩ = some (.int .i64 1) ∧ U.cell? ⟨w.heap.size + 1, 1, none⟩ = some (.int .i64 p.id) ∧ U.cell? ⟨w.heap.size + 1, 2, none⟩ = some (.int .i64 p.flow) ∧ U.cell? ⟨w.heap.size + 1, 3, none⟩ = some (.int .i64 p.size)) from
      ⟨(rl_cells (h.blk HN4.out (fun e => by have := HLT.out; have := HQ.out; omega))).1, act_cells (h.blk HA4.out (fun e => by have := HLT.out; omega))⟩))
  go_region_held3 (fun U => (U.cell? ⟨q, 0, none⟩ = some (.int .i64 s'.room) ∧ U.cell? ⟨q, 1, none⟩ = some (.slice A' s'.l.length c') ∧ U.cell? ⟨q, 2, none⟩ = some (.int .i64 s'.lp) ∧ U.cell? ⟨q, 3, none⟩ = some (.int .i64 s'.lb)) ∧ (U.cell? ⟨w.heap.size + 1, 0, none⟩ = some (.int .i64 1) ∧ U.cell? ⟨w.heap.size + 1, 1, none⟩ = some (.int .i64 p.id) ∧ U.cell? ⟨w.heap.size + 1, 2, none⟩ = some (.int .i64 p.flow) ∧ U.cell? ⟨w.heap.size + 1, 3, none⟩ = some (.int .i64 p.size)))
    (exact HKC.out _ (by first | exact putRl_fr (hfn.mono (fun _ _ h => .inl h)) (k := w.heap.size + 2) (fun _ => .inr rfl) _ _ _ _ _ _ | exact hfn.mono (fun _ _ h => .inl h) | exact (Fr.refl _ W).drew))
    ((go_at_call 12; (with_reducible refine (HFP.out _ HF4.out.drew).mono ?_); rintro e wF ⟨rfl, ⟨g', hln, hg'⟩, hfF⟩; have hfn : Fr (fun k => k = b ∨ k = g) W wF := (Fr.refl _ W).drew.trans hfF; obtain ⟨⟨x0, x1, x2, x3⟩, y0, y1, y2, y3⟩ := rl_cells (hfn.blk HX4.out (fun e => by have := HLT.out; omega))))
  have HEND := Lib.hid (does_end (A := A') (c := c') HLT.out.1 HLT.out.2.1 HLT.out.2.2 (by have := HQ.out; have := HSW.out; omega) HF4.out HRL4.out hln hg' hfn HOK.out)
  have HX5 := Lib.hid (putRl_blk (hfn.blk HX4.out (fun e => by have := HLT.out; omega)) s'.room A' s'.l.length c' s'.lp s'.lb)
  clear hln hg' hfn hfF x0 x1 x2 x3 y0 y1 y2 y3
  go_wp2_with fail
  exact bodyPost_ret (results_row_tmp (p := 6) (u := 7) rfl _ _ (w.heap.size + 2) _ _ _ _ rfl HX5.out Try.underlying30 rfl (by kernel_rfl)) rfl HEND.out
set_option maxRecDepth 100000 in
set_option maxHeartbeats 2000000 in
theorem does_drop (b g : Nat) (v : Value) (s : Fs) (K : Nat) (p : Pk) (w : World) (h : Two w b g v s K) (hK : K ≤ 400000) :
    Calls Try.prog 10 #[.pointer (some ⟨b, 0, none⟩), v, actv 3 p] w (DoesPost w b g (s.drop p.flow).1 K) := by
  have hlt := h.ln.lt
  have HLT := Lib.hid hlt
  obtain ⟨A, c, rfl, hrest⟩ := h.rl.ex
  clear hrest
  have HB := Lib.hid (doesW_b w (rlc s.room A s.l.length c s.lp s.lb) 3 p)
  have HRP := Lib.hid (fun w' (hf : Fr0 w w') (hz : w.heap.size + 3 ≤ w'.heap.size) => rdrop_any (DoesS b g w.heap.size) _ s p.flow w' ((h.rl.mono (doesS_low b g w.heap.size)).kept (Fr0.any hf)) (by have := h.ok.len; omega) (doesS_high hlt.1 hlt.2.1 hz))
  have HFP := Lib.hid (fun w' (hf : Fr0 w w') => fdrop_any b g s K p.flow w' (h.ln.kept0 hf))
  have HOK := Lib.hid (h.ok.drop p.flow)
  obtain ⟨⟨c0, c1, c2, c3⟩, _⟩ := rl_cells HB.out.b0
  obtain ⟨a0, a1, a2, a3⟩ := act_cells HB.out.b1
  clear h hlt
  generalize hsp : s.drop p.flow = sp at *
  obtain ⟨s', no⟩ := sp
  clear hsp
  dsimp only at HOK
  go_enter Try.func10, Try.ntmps10
  go_wp2_with fail
  refine (HRP.out _ HB.out.fr (by simp)).mono ?_
  rintro e w3 ⟨⟨u, rfl, hrl⟩, hf3⟩
  obtain ⟨A', c', rfl, hrest⟩ := hrl.ex
  clear hrest
  obtain ⟨k0, k1, k2⟩ := HB.out.kept hf3
  have HF4 := Lib.hid ((HB.out.fr.trans hf3).alloc (.cells (rlc s'.room A' s'.l.length c' s'.lp s'.lb) 30))
  have HA4 := Lib.hid (blk_alloc k1 (.cells (rlc s'.room A' s'.l.length c' s'.lp s'.lb) 30))
  have HX4 := Lib.hid (blk_alloc k2 (.cells (rlc s'.room A' s'.l.length c' s'.lp s'.lb) 30))
  have HN4 := Lib.hid (heap_alloc_new w3 (.cells (rlc s'.room A' s'.l.length c' s'.lp s'.lb) 30))
  have HRL4 := Lib.hid (hrl.kept (Fr0.any ((Fr.refl _ w3).alloc (.cells (rlc s'.room A' s'.l.length c' s'.lp s'.lb) 30))))
  have HQ := Lib.hid (show w.heap.size + 3 ≤ w3.heap.size from by have := hf3.size; simp at this; omega)
  clear hrl hf3 HB HRP k0 k1 k2 c0 c1 c2 c3 a0 a1 a2 a3
  go_wp2_with fail
  have HSW := Lib.hid (show w3.heap.size < (w3.alloc (.cells (rlc s'.room A' s'.l.length c' s'.lp s'.lb) 30)).heap.size from by simp)
  generalize w3.heap.size = q at *
  generalize w3.alloc (.cells (rlc s'.room A' s'.l.length c' s'.lp s'.lb) 30) = W at *
  have HKC := Lib.hid (fun U (h : Fr (fun k => (k = b ∨ k = g) ∨ k = w.heap.size + 2) W U) => (show (U.cell? ⟨q, 0, none⟩ = some (.int .i64 s'.room) ∧ U.cell? ⟨q, 1, none⟩ = some (.slice A' s'.l.length c') ∧ U.cell? ⟨q, 2, none⟩ = some (.int .i64 s'.lp) ∧ U.cell? ⟨q, 3, none⟩ = some (.int .i64 s'.lb)) ∧ (U.cell? ⟨w.heap.size + 1, 0, none⟩ = some (.int .i64 3) ∧ U.cell? ⟨w.heap.size + 1, 1, none⟩ = some (.int .i64 p.id) ∧ U.cell? ⟨w.heap.size + 1, 2, none⟩ = some (.int .i64 p.flow) ∧ U.cell? ⟨w.heap.size + 1, 3, none⟩ = some (.int .i64 p.size)) from
      ⟨(rl_cells (h.blk HN4.out (fun e => by have := HLT.out; have := HQ.out; omega))).1, act_cells (h.blk HA4.out (fun e => by have := HLT.out; omega))⟩))
  go_region_held3 (fun U => (U.cell? ⟨q, 0, none⟩ = some (.int .i64 s'.room) ∧ U.cell? ⟨q, 1, none⟩ = some (.slice A' s'.l.length c') ∧ U.cell? ⟨q, 2, none⟩ = some (.int .i64 s'.lp) ∧ U.cell? ⟨q, 3, none⟩ = some (.int .i64 s'.lb)) ∧ (U.cell? ⟨w.heap.size + 1, 0, none⟩ = some (.int .i64 3) ∧ U.cell? ⟨w.heap.size + 1, 1, none⟩ = some (.int .i64 p.id) ∧ U.cell? ⟨w.heap.size + 1, 2, none⟩ = some (.int .i64 p.flow) ∧ U.cell? ⟨w.heap.size + 1, 3, none⟩ = some (.int .i64 p.size)))
    (exact HKC.out _ (by first | exact putRl_fr (hfn.mono (fun _ _ h => .inl h)) (k := w.heap.size + 2) (fun _ => .inr rfl) _ _ _ _ _ _ | exact hfn.mono (fun _ _ h => .inl h) | exact (Fr.refl _ W).drew))
    ((go_at_call 22; (with_reducible refine (HFP.out _ HF4.out.drew).mono ?_); rintro e wF ⟨rfl, ⟨g', hln, hg'⟩, hfF⟩; have hfn : Fr (fun k => k = b ∨ k = g) W wF := (Fr.refl _ W).drew.trans hfF; obtain ⟨⟨x0, x1, x2, x3⟩, y0, y1, y2, y3⟩ := rl_cells (hfn.blk HX4.out (fun e => by have := HLT.out; omega))))
  have HEND := Lib.hid (does_end (A := A') (c := c') HLT.out.1 HLT.out.2.1 HLT.out.2.2 (by have := HQ.out; have := HSW.out; omega) HF4.out HRL4.out hln hg' hfn HOK.out)
  have HX5 := Lib.hid (putRl_blk (hfn.blk HX4.out (fun e => by have := HLT.out; omega)) s'.room A' s'.l.length c' s'.lp s'.lb)
  clear hln hg' hfn hfF x0 x1 x2 x3 y0 y1 y2 y3
  go_wp2_with fail
  exact bodyPost_ret (results_row_tmp (p := 6) (u := 7) rfl _ _ (w.heap.size + 2) _ _ _ _ rfl HX5.out Try.underlying30 rfl (by kernel_rfl)) rfl HEND.out
set_option maxRecDepth 100000 in
set_option maxHeartbeats 2000000 in
theorem does_take (b g : Nat) (v : Value) (s : Fs) (K : Nat) (p : Pk) (w : World) (h : Two w b g v s K) (hK : K ≤ 400000) :
    Calls Try.prog 10 #[.pointer (some ⟨b, 0, none⟩), v, actv 2 p] w (DoesPost w b g s.take.1 K) := by
  have hlt := h.ln.lt
  have HLT := Lib.hid hlt
  obtain ⟨A, c, rfl, hrest⟩ := h.rl.ex
  clear hrest
  have HB := Lib.hid (doesW_b w (rlc s.room A s.l.length c s.lp s.lb) 2 p)
  have HRL := Lib.hid (h.rl.mono (doesS_low b g w.heap.size))
  have HFP := Lib.hid (fun w' (hf : Fr0 w w') => ftake_any b g s K w' (h.ln.kept0 hf))
  have HRT := Lib.hid (fun w' v (hr : IsRl w' (fun k => DoesS b g w.heap.size k ∨ w.heap.size + 3 ≤ k) v s) => rtake_any _ v s w' hr)
  have HOK := Lib.hid (h.ok.take)
  obtain ⟨⟨c0, c1, c2, c3⟩, _⟩ := rl_cells HB.out.b0
  obtain ⟨a0, a1, a2, a3⟩ := act_cells HB.out.b1
  clear h hlt
  generalize hsp : s.take = sp at *
  obtain ⟨s', x, is⟩ := sp
  clear hsp
  dsimp only at HOK HFP HRT
  go_enter Try.func10, Try.ntmps10
  go_wp2_with fail
  refine (HFP.out _ HB.out.fr).mono ?_
  rintro e w3 ⟨rfl, ⟨g', hln, hg'⟩, hfF⟩
  have HS0 := Lib.hid (show (((w.alloc (.cells (rlc s.room A s.l.length c s.lp s.lb) 30)).alloc (.cells (actc 2 p) 36)).alloc (.cells rlz 30)).heap.size = w.heap.size + 3 by simp)
  generalize (((w.alloc (.cells (rlc s.room A s.l.length c s.lp s.lb) 30)).alloc (.cells (actc 2 p) 36)).alloc (.cells rlz 30)) = W at *
  clear c0 c1 c2 c3 a0 a1 a2 a3
  have HLN := Lib.hid hln
  have HG := Lib.hid hg'
  have HFF := Lib.hid hfF
  have HRL3 := Lib.hid (((HRL.out.kept (Fr0.any HB.out.fr)).mono (T := fun k => DoesS b g w.heap.size k ∨ w.heap.size + 3 ≤ k) (fun k hk e => by have := HS0.out; rcases e with e | e <;> first | exact e | omega)).kept (hfF.mono (fun k _ e => .inl (.inl e))))
  have HB3 := Lib.hid (show w3.heap[w.heap.size]? = _ ∧ w3.heap[w.heap.size + 2]? = _ from ⟨hfF.blk HB.out.b0 (fun e => by have := HLT.out; omega), hfF.blk HB.out.b2 (fun e => by have := HLT.out; omega)⟩)
  have HS3 := Lib.hid (show w.heap.size + 3 ≤ w3.heap.size from by have := HS0.out; have := hfF.size; omega)
  have HP4 := Lib.hid (heap_alloc_new w3 (.cells (pkc x).toArray 34))
  have HFA := Lib.hid ((Fr.refl (fun _ => False) w3).alloc (.cells (pkc x).toArray 34))
  clear hln hg' hfF HRL
  have HRB4 := Lib.hid (HFA.out.blk HB3.out.1 (fun h => h))
  obtain ⟨⟨c0, c1, c2, c3⟩, _⟩ := rl_cells HRB4.out
  go_wp2_with fail
  refine (HRT.out _ _ (HRL3.out.kept (Fr0.any HFA.out))).mono ?_
  rintro e w5 ⟨⟨u, rfl, hrl⟩, hf5⟩
  obtain ⟨A', c', rfl, hrest⟩ := hrl.ex
  clear hrest c0 c1 c2 c3
  have HF5 := Lib.hid (HFA.out.trans hf5)
  have HP5 := Lib.hid (hf5.blk HP4.out (fun h => h))
  have HRL5 := Lib.hid hrl
  have HS5 := Lib.hid (show w3.heap.size < w5.heap.size from lt_of_block HP5.out)
  clear hrl hf5
  have HX6 := Lib.hid (show ((w5.alloc (.cells (rlc s'.room A' s'.l.length c' s'.lp s'.lb) 30)).alloc (.cells (pkc x).toArray 34)).heap[w.heap.size + 2]? = some (.cells rlz 30 (0, 0)) from blk_alloc (blk_alloc (HF5.out.blk HB3.out.2 (fun h => h)) _) _)
  have HP6 := Lib.hid (blk_alloc (blk_alloc HP5.out (.cells (rlc s'.room A' s'.l.length c' s'.lp s'.lb) 30)) (.cells (pkc x).toArray 34))
  have HQ6 := Lib.hid (show ((w5.alloc (.cells (rlc s'.room A' s'.l.length c' s'.lp s'.lb) 30)).alloc (.cells (pkc x).toArray 34)).heap[w5.heap.size + 1]? = some (.cells (pkc x).toArray 34 (0, 0)) from heap_alloc_nn (by simp))
  have HR6 := Lib.hid (blk_alloc (heap_alloc_new w5 (.cells (rlc s'.room A' s'.l.length c' s'.lp s'.lb) 30)) (.cells (pkc x).toArray 34))
  have HF6 := Lib.hid ((HF5.out.alloc (.cells (rlc s'.room A' s'.l.length c' s'.lp s'.lb) 30)).alloc (.cells (pkc x).toArray 34))
  have HL6 := Lib.hid (HRL5.out.kept (Fr0.any (((Fr.refl (fun _ => False) w5).alloc (.cells (rlc s'.room A' s'.l.length c' s'.lp s'.lb) 30)).alloc (.cells (pkc x).toArray 34))))
  go_upto_region 8 with fail
  generalize ((w5.alloc (.cells (rlc s'.room A' s'.l.length c' s'.lp s'.lb) 30)).alloc (.cells (pkc x).toArray 34)) = W6 at *
  generalize w5.heap.size = q at *
  obtain ⟨⟨x0, x1, x2, x3⟩, y0, y1, y2, y3⟩ := rl_cells HX6.out
  obtain ⟨⟨c0, c1, c2, c3⟩, _⟩ := rl_cells HR6.out
  obtain ⟨⟨z0, z1, z2⟩, _⟩ := pk_cells HP6.out
  obtain ⟨⟨u0, u1, u2⟩, _⟩ := pk_cells HQ6.out
  have HEND := Lib.hid (does_end2 (A := A') (c := c') HLT.out.1 HLT.out.2.1 HLT.out.2.2 HS0.out HB.out.fr HFF.out HG.out HS3.out HF6.out.drew (HLN.out.kept0 HF6.out.drew) (HL6.out.kept (Fr0.any (Fr.refl _ W6).drew)) HOK.out)
  have HX7 := Lib.hid (putRl_blk (show W6.drew.heap[w.heap.size + 2]? = _ from HX6.out) s'.room A' s'.l.length c' s'.lp s'.lb)
  go_region
  all_goals
    go_wp2_with fail
    exact bodyPost_ret (results_row_tmp (p := 6) (u := 7) rfl _ _ (w.heap.size + 2) _ _ _ _ rfl HX7.out Try.underlying30 rfl (by kernel_rfl)) rfl HEND.out
theorem does_other (b g : Nat) (v : Value) (s : Fs) (K : Nat) (k : Int) (p : Pk) (w : World) (h : Two w b g v s K) (h1 : k ≠ 1) (h2 : k ≠ 2) (h3 : k ≠ 3) :
    Calls Try.prog 10 #[.pointer (some ⟨b, 0, none⟩), v, actv k p] w (DoesPost w b g s K) := by
  have hlt := h.ln.lt
  have HLT := Lib.hid hlt
  obtain ⟨A, c, rfl, hrest⟩ := h.rl.ex
  clear hrest
  have e1 : (k == 1) = false := by simpa using h1
  have e2 : (k == 2) = false := by simpa using h2
  have e3 : (k == 3) = false := by simpa using h3
  have HB := Lib.hid (doesW_b w (rlc s.room A s.l.length c s.lp s.lb) k p)
  have HEND := Lib.hid (does_end (A := A) (c := c) hlt.1 hlt.2.1 hlt.2.2 (by simp) HB.out.fr ((h.rl.mono (doesS_low b g w.heap.size)).kept (Fr0.any HB.out.fr)) (h.ln.kept0 HB.out.fr) (.inl rfl) (Fr.refl _ _) h.ok)
  have HX5 := Lib.hid (putRl_blk HB.out.b2 s.room A s.l.length c s.lp s.lb)
  obtain ⟨⟨c0, c1, c2, c3⟩, _⟩ := rl_cells HB.out.b0
  obtain ⟨a0, a1, a2, a3⟩ := act_cells HB.out.b1
  obtain ⟨⟨x0, x1, x2, x3⟩, y0, y1, y2, y3⟩ := rl_cells HB.out.b2
  clear h hlt h1 h2 h3 HB
  go_enter Try.func10, Try.ntmps10
  go_upto_region 12 with fail
  generalize (((w.alloc (.cells (rlc s.room A s.l.length c s.lp s.lb) 30)).alloc (.cells (actc k p) 36)).alloc (.cells rlz 30)) = W at *
  go_wp2_with fail
  exact bodyPost_ret (results_row_tmp (p := 6) (u := 7) rfl _ _ (w.heap.size + 2) _ _ _ _ rfl HX5.out Try.underlying30 rfl (by kernel_rfl)) rfl HEND.out
end Go.Proofs.Ytfiiikgjgcnjgaa
