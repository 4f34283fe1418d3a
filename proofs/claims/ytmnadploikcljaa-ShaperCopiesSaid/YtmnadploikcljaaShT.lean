/- Chapter 13: does. -/
import Derived.Test.YtmnadploikcljaaShS
import Derived.Deep.AppendLies
set_option linter.unusedVariables false
set_option linter.unusedSimpArgs false
namespace Go.Proofs.Ytmnadploikcljaa
open Go.RowKit
attribute [local go_sem] Oper.semAt_some

abbrev acc (k id z : Int) : Array Value := #[.int .i64 k, .int .i64 id, .int .i64 z]
abbrev acv (k id z : Int) : Value := .agg #[.int .i64 k, .int .i64 id, .int .i64 z]
def Rs.act (g : Rs) (k id z : Int) : Rs := if k = 1 then g.put id z else if k = 2 then g.go id else g
/-- What a call makes of a shaper. -/
def StepX (X : Sh) (k id z : Int) (X' : Sh) : Prop := if k = 1 then X' = putX X id z else if k = 2 then ∃ O er, GoS X id X' O er else X' = X
/-- The blocks that lists lie apart from. -/
def ShU (T : Nat → Prop) (b m : Nat) : Nat → Prop := fun k => ShS b m k ∨ T k
def DoesPost (T : Nat → Prop) (b m : Nat) (X : Sh) (g : Rs) (k id z : Int) (w : World) (e : Ending) (w' : World) : Prop :=
  ∃ X' v' u ok, e = .returned (.tuple #[v', u, .bool ok]) ∧ IsShT T w' b m X' ∧ StepX X k id z X' ∧ IsRs w' (ShU T b m) v' (g.act k id z) ∧ (g = X.rs → ok = true) ∧ Fr (ShS b m) w w'
theorem IsShT.kept {S T : Nat → Prop} {w w' : World} {b m : Nat} {X : Sh} (h : IsShT T w b m X) (hf : Fr S w w') (hS : ∀ k, S k → T k) (hb : ¬ S b) (hm : ¬ S m) : IsShT T w' b m X := by
  obtain ⟨A, c, h, h2⟩ := h
  have h3 := (h.ls.rd.both h2).kept (hf.mono (fun k _ e => .inr (hS k e)))
  exact ⟨A, c, h.keptS hf hb hm (h3.mono (fun _ _ h => .inl h)), h3.mono (fun _ _ h => .inr h)⟩
/-- The blocks that does lays. -/
def DoN (T : Nat → Prop) (n : Nat) : Nat → Prop := fun k => T k ∨ (n ≤ k ∧ k < n + 3)
theorem doN_low (T : Nat → Prop) (n : Nat) : ∀ k, k < n → DoN T n k → T k := fun k hk h => by rcases h with h | h; exact h; omega
theorem doN_high {T : Nat → Prop} {n m : Nat} (hT : ∀ k, n ≤ k → ¬ T k) (hm : n + 3 ≤ m) : ∀ k, m ≤ k → ¬ DoN T n k := fun k hk h => by
  rcases h with h | h
  · exact hT k (by omega) h
  · omega
/-- The three blocks that does lays first. -/
structure DoesB (w W : World) (r : Array Value) (k id z : Int) : Prop where
  b0 : W.heap[w.heap.size]? = some (.cells r 51 (0, 0))
  b1 : W.heap[w.heap.size + 1]? = some (.cells (acc k id z) 35 (0, 0))
  b2 : W.heap[w.heap.size + 2]? = some (.cells rsz 51 (0, 0))
  sz : W.heap.size = w.heap.size + 3
  fr : Fr0 w W
theorem doesW_b (w : World) (r : Array Value) (k id z : Int) : DoesB w (((w.alloc (.cells r 51)).alloc (.cells (acc k id z) 35)).alloc (.cells rsz 51)) r k id z :=
  ⟨blk_alloc (blk_alloc (heap_alloc_new _ _) _) _, blk_alloc (heap_alloc_nn (by simp)) _, heap_alloc_nn (by simp), by simp, (((Fr.refl _ w).alloc _).alloc _).alloc _⟩
theorem act_cells {w : World} {q : Nat} {k id z : Int} (h : w.heap[q]? = some (.cells (acc k id z) 35 (0, 0))) :
    w.cell? ⟨q, 0, none⟩ = some (.int .i64 k) ∧ w.cell? ⟨q, 1, none⟩ = some (.int .i64 id) ∧ w.cell? ⟨q, 2, none⟩ = some (.int .i64 z) := ⟨cell_of_blk h 0, cell_of_blk h 1, cell_of_blk h 2⟩
/-- What is behind the calls and the store of the result. -/
theorem does_end2 {T : Nat → Prop} {w wF w9 : World} {b m : Nat} {X X' : Sh} {g g' : Rs} {k id z : Int} {A : Option Addr} {c : Nat} {A2 : Option Addr} {c2 : Nat} {u : Value} {ok : Bool} (hb : b < w.heap.size) (hm : m < w.heap.size)
    (hrl : IsRs wF (DoN (ShU T b m) w.heap.size) (rsv g'.s A g'.l.length c g'.now g'.room A2 g'.L.length c2) g') (hX : IsShT (DoN T w.heap.size) wF b m X') (hst : StepX X k id z X') (hac : g.act k id z = g') (hok : g = X.rs → ok = true)
    (hF : Fr (ShS b m) w wF) (hP : Fr (fun k => k = w.heap.size + 2) wF w9) :
    DoesPost T b m X g k id z w (.returned (.tuple #[rsv g'.s A g'.l.length c g'.now g'.room A2 g'.L.length c2, u, .bool ok])) w9 := by
  refine ⟨X', _, u, ok, rfl, (hX.kept hP (fun k e => .inr (by omega)) (fun e => by omega) (fun e => by omega)).mono (fun _ _ h => .inl h), hst, ?_, hok, hF.then hP (fun k hk e => by omega)⟩
  rw [hac]
  exact (hrl.kept (hP.mono (fun k _ e => .inr (by omega)))).mono (fun _ _ h => .inl h)
theorem does_end {T : Nat → Prop} {w wF : World} {b m : Nat} {X X' : Sh} {g g' : Rs} {k id z : Int} {A : Option Addr} {c : Nat} {A2 : Option Addr} {c2 : Nat} {u : Value} {ok : Bool} (hb : b < w.heap.size) (hm : m < w.heap.size)
    (hrl : IsRs wF (DoN (ShU T b m) w.heap.size) (rsv g'.s A g'.l.length c g'.now g'.room A2 g'.L.length c2) g') (hX : IsShT (DoN T w.heap.size) wF b m X') (hst : StepX X k id z X') (hac : g.act k id z = g') (hok : g = X.rs → ok = true)
    (hF : Fr (ShS b m) w wF) :
    DoesPost T b m X g k id z w (.returned (.tuple #[rsv g'.s A g'.l.length c g'.now g'.room A2 g'.L.length c2, u, .bool ok])) (putRs wF (w.heap.size + 2) g'.s A g'.l.length c g'.now g'.room A2 g'.L.length c2) :=
  does_end2 hb hm hrl hX hst hac hok hF (putRs_fr (S := fun k => k = w.heap.size + 2) (Fr.refl _ wF) (b := w.heap.size + 2) (fun _ => rfl) _ _ _ _ _ _ _ _ _)
set_option maxRecDepth 100000 in
set_option maxHeartbeats 4000000 in
theorem does_put (T : Nat → Prop) (b m : Nat) (X : Sh) (v : Value) (g : Rs) (id z : Int) (w : World) (hX : IsShT T w b m X) (hg : IsRs w (ShU T b m) v g) (ho : g.Ok) (hT : ∀ k, w.heap.size ≤ k → ¬ T k) :
    Calls Try.prog 17 #[.pointer (some ⟨b, 0, none⟩), v, acv 1 id z] w (DoesPost T b m X g 1 id z w) := by
  have hlt := hX.sh.lt
  have HLT := Lib.hid hlt
  obtain ⟨A, c, A2, c2, rfl, hrest⟩ := hg.ex
  clear hrest
  have HB := Lib.hid (doesW_b w (rsc g.s A g.l.length c g.now g.room A2 g.L.length c2) 1 id z)
  have hSS : ∀ k, w.heap.size ≤ k → ¬ ShU T b m k := fun k hk e => by
    rcases e with (e | e) | e
    · omega
    · omega
    · exact hT k hk e
  have HRP := Lib.hid (fun w' (hf : Fr0 w w') (hz : w.heap.size + 3 ≤ w'.heap.size) => rsput_any (DoN (ShU T b m) w.heap.size) _ g id z w' ((hg.mono (doN_low _ _)).kept (Fr0.any hf)) ho (doN_high hSS hz))
  have HFP := Lib.hid (fun w' (hf : Fr0 w w') (hz : w.heap.size + 3 ≤ w'.heap.size) => sput_callsT (DoN T w.heap.size) b m X id z w' (doN_high hT hz) ((hX.mono (doN_low _ _)).kept0 hf))
  have HEQ := Lib.hid (show g = X.rs → putE X id z = g.putE id z from fun e => by rw [e, rs_putE])
  have HACT := Lib.hid (show g.act 1 id z = g.put id z from rfl)
  have HST := Lib.hid (show StepX X 1 id z (putX X id z) from rfl)
  obtain ⟨c0, c1, c2_, c3, c4, c5, c6, c7, c8⟩ := rs_cells HB.out.b0
  obtain ⟨a0, a1, a2⟩ := act_cells HB.out.b1
  clear hX hg hlt hT hSS
  generalize g.put id z = g' at *
  generalize g.putE id z = no at *
  generalize putE X id z = er at *
  generalize putX X id z = X' at *
  go_enter Try.func17, Try.ntmps17
  go_wp2_with fail
  refine (HRP.out _ HB.out.fr (by simp)).mono ?_
  rintro e w3 ⟨⟨u, rfl, hrl⟩, hf3⟩
  obtain ⟨A', c', A2', c2', rfl, hrest⟩ := hrl.ex
  clear hrest c0 c1 c2_ c3 c4 c5 c6 c7 c8
  have HF4 := Lib.hid ((HB.out.fr.trans hf3).alloc (.cells (rsc g'.s A' g'.l.length c' g'.now g'.room A2' g'.L.length c2') 51))
  have HA4 := Lib.hid (blk_alloc (hf3.blk HB.out.b1 (fun h => h)) (.cells (rsc g'.s A' g'.l.length c' g'.now g'.room A2' g'.L.length c2') 51))
  have HX4 := Lib.hid (blk_alloc (hf3.blk HB.out.b2 (fun h => h)) (.cells (rsc g'.s A' g'.l.length c' g'.now g'.room A2' g'.L.length c2') 51))
  have HN4 := Lib.hid (heap_alloc_new w3 (.cells (rsc g'.s A' g'.l.length c' g'.now g'.room A2' g'.L.length c2') 51))
  have HRL4 := Lib.hid (hrl.kept (Fr0.any ((Fr.refl _ w3).alloc (.cells (rsc g'.s A' g'.l.length c' g'.now g'.room A2' g'.L.length c2') 51))))
  have HQ := Lib.hid (show w.heap.size + 3 ≤ w3.heap.size from by have := hf3.size; simp at this; omega)
  clear hrl hf3 HB HRP a0 a1 a2
  go_wp2_with fail
  have HSW := Lib.hid (show w3.heap.size < (w3.alloc (.cells (rsc g'.s A' g'.l.length c' g'.now g'.room A2' g'.L.length c2') 51)).heap.size from by simp)
  generalize w3.heap.size = q at *
  generalize w3.alloc (.cells (rsc g'.s A' g'.l.length c' g'.now g'.room A2' g'.L.length c2') 51) = W at *
  have HQW := Lib.hid (show w.heap.size + 3 ≤ W.drew.heap.size from by have := HQ.out; have := HSW.out; show w.heap.size + 3 ≤ W.heap.size; omega)
  have HKC := Lib.hid (fun U (h : Fr (fun k => ShS b m k ∨ k = w.heap.size + 2) W U) => (show (U.cell? ⟨q, 0, none⟩ = some (.int .i64 g'.s.peak) ∧ U.cell? ⟨q, 1, none⟩ = some (.int .i64 g'.s.rate) ∧ U.cell? ⟨q, 2, none⟩ = some (.int .i64 g'.s.burst) ∧ U.cell? ⟨q, 3, none⟩ = some (.int .i64 g'.s.most) ∧ U.cell? ⟨q, 4, none⟩ = some (.int .i64 g'.s.least) ∧ U.cell? ⟨q, 5, none⟩ = some (.slice A' g'.l.length c') ∧ U.cell? ⟨q, 6, none⟩ = some (.int .i64 g'.now) ∧ U.cell? ⟨q, 7, none⟩ = some (.int .i64 g'.room) ∧ U.cell? ⟨q, 8, none⟩ = some (.slice A2' g'.L.length c2')) ∧ (U.cell? ⟨w.heap.size + 1, 0, none⟩ = some (.int .i64 1) ∧ U.cell? ⟨w.heap.size + 1, 1, none⟩ = some (.int .i64 id) ∧ U.cell? ⟨w.heap.size + 1, 2, none⟩ = some (.int .i64 z)) from by
    have hb := rs_cells (h.blk HN4.out (fun e => by have := HLT.out; have := HQ.out; rcases e with (e | e) | e <;> omega))
    exact ⟨⟨hb.x0, hb.x1, hb.x2, hb.x3, hb.x4, hb.x5, hb.x6, hb.x7, hb.x8⟩, act_cells (h.blk HA4.out (fun e => by have := HLT.out; rcases e with (e | e) | e <;> omega))⟩))
  go_region_held3 (fun U => (U.cell? ⟨q, 0, none⟩ = some (.int .i64 g'.s.peak) ∧ U.cell? ⟨q, 1, none⟩ = some (.int .i64 g'.s.rate) ∧ U.cell? ⟨q, 2, none⟩ = some (.int .i64 g'.s.burst) ∧ U.cell? ⟨q, 3, none⟩ = some (.int .i64 g'.s.most) ∧ U.cell? ⟨q, 4, none⟩ = some (.int .i64 g'.s.least) ∧ U.cell? ⟨q, 5, none⟩ = some (.slice A' g'.l.length c') ∧ U.cell? ⟨q, 6, none⟩ = some (.int .i64 g'.now) ∧ U.cell? ⟨q, 7, none⟩ = some (.int .i64 g'.room) ∧ U.cell? ⟨q, 8, none⟩ = some (.slice A2' g'.L.length c2')) ∧ (U.cell? ⟨w.heap.size + 1, 0, none⟩ = some (.int .i64 1) ∧ U.cell? ⟨w.heap.size + 1, 1, none⟩ = some (.int .i64 id) ∧ U.cell? ⟨w.heap.size + 1, 2, none⟩ = some (.int .i64 z)))
    ((refine HKC.out _ ?_; with_reducible repeat (first | exact hfn2 | exact Fr.refl _ _ | refine Fr.drew ?_ | refine Fr.setCell ?_ (fun _ => .inr rfl) _)))
    ((go_at_call 11; (with_reducible refine (HFP.out _ HF4.out.drew HQW.out).mono ?_); rintro e wF ⟨rfl, hln, hfF⟩; have hfn : Fr (ShS b m) W wF := (Fr.refl _ W).drew.trans hfF; have hfn2 : Fr (fun k => ShS b m k ∨ k = w.heap.size + 2) W wF := hfn.mono (fun _ _ h => .inl h); obtain ⟨x0, x1, x2, x3, x4, x5, x6, x7, x8⟩ := rs_cells (hfn.blk HX4.out (fun e => by have := HLT.out; rcases e with e | e <;> omega)); obtain ⟨y0, y1, y2, y3, y4, y5, y6, y7, y8⟩ := rs_free (hfn.blk HX4.out (fun e => by have := HLT.out; rcases e with e | e <;> omega))))
  have HX5 := Lib.hid (putRs_blk (hfn.blk HX4.out (fun e => by have := HLT.out; rcases e with e | e <;> omega)) g'.s A' g'.l.length c' g'.now g'.room A2' g'.L.length c2')
  have HRLF := Lib.hid (HRL4.out.kept (hfn.mono (fun _ _ h => .inl (.inl h))))
  have HFF := Lib.hid ((Fr0.any (S := ShS b m) HF4.out).trans hfn)
  have HLN := Lib.hid hln
  clear hln hfn hfn2 hfF x0 x1 x2 x3 x4 x5 x6 x7 x8 y0 y1 y2 y3 y4 y5 y6 y7 y8
  go_wp2_with fail
  exact bodyPost_ret (results_row_tmp2 (p := 6) (u := 7) (v := 8) rfl _ _ (w.heap.size + 2) _ _ _ _ rfl HX5.out Try.underlying51 rfl (by kernel_rfl)) rfl (does_end (u := .slice none 0 0) HLT.out.1 HLT.out.2 HRLF.out HLN.out HST.out HACT.out (fun e => by simp [HEQ.out e]) HFF.out)
theorem goO_len (g : Rs) (t : Int) : (g.goO t).length ≤ g.L.length := by
  unfold Rs.goO
  split
  · simp [List.length_take]; omega
  · simp
set_option maxRecDepth 100000 in
set_option maxHeartbeats 4000000 in
theorem does_go (T : Nat → Prop) (b m : Nat) (X : Sh) (v : Value) (g : Rs) (id z : Int) (w : World) (hX : IsShT T w b m X) (hg : IsRs w (ShU T b m) v g) (ho : g.Ok) (hT : ∀ k, w.heap.size ≤ k → ¬ T k) :
    Calls Try.prog 17 #[.pointer (some ⟨b, 0, none⟩), v, acv 2 id z] w (DoesPost T b m X g 2 id z w) := by
  have hlt := hX.sh.lt
  have HLT := Lib.hid hlt
  obtain ⟨A, c, A2, c2, rfl, hrest⟩ := hg.ex
  clear hrest
  have HB := Lib.hid (doesW_b w (rsc g.s A g.l.length c g.now g.room A2 g.L.length c2) 2 id z)
  have hSS : ∀ k, w.heap.size ≤ k → ¬ ShU T b m k := fun k hk e => by
    rcases e with (e | e) | e
    · omega
    · omega
    · exact hT k hk e
  have HRP := Lib.hid (fun w' v' (h : IsRs w' (DoN (ShU T b m) w.heap.size) v' g) (hz : w.heap.size + 3 ≤ w'.heap.size) => rsgo_any (DoN (ShU T b m) w.heap.size) v' g id w' h ho (doN_high hSS hz))
  have HFP := Lib.hid (sgo_any (DoN T w.heap.size) b m X id _ ((hX.mono (doN_low T w.heap.size)).kept0 HB.out.fr))
  have HRL := Lib.hid ((hg.mono (doN_low (ShU T b m) w.heap.size)).kept (Fr0.any HB.out.fr))
  have HEQ := Lib.hid (fun X' O er (h : GoS X id X' O er) => (show g = X.rs → er = g.goE id ∧ O = g.goO id from fun e => by rw [e]; exact ⟨h.rs.1, h.rs.2.1⟩))
  have HACT := Lib.hid (show g.act 2 id z = g.go id from rfl)
  have HO2 := Lib.hid (show (g.goO id).length ≤ 98 from by have := goO_len g id; have := ho.len; omega)
  have HOL := Lib.hid hX.sh.ok.len
  obtain ⟨c0, c1, c2_, c3, c4, c5, c6, c7, c8⟩ := rs_cells HB.out.b0
  obtain ⟨a0, a1, a2⟩ := act_cells HB.out.b1
  clear hX hlt hT hSS
  generalize g.go id = g' at *
  generalize g.goE id = no at *
  generalize g.goO id = O2 at *
  go_enter Try.func17, Try.ntmps17
  go_wp2_with fail
  refine HFP.out.mono ?_
  rintro e w3 ⟨X', O, er, AO, cO, rfl, hOl, hrO, hgs, hx3, hf3⟩
  have HS0 := Lib.hid HB.out.sz
  have HFW := Lib.hid ((Fr0.any (S := ShS b m) HB.out.fr).trans hf3)
  have HB3 := Lib.hid (show w3.heap[w.heap.size]? = _ ∧ w3.heap[w.heap.size + 1]? = _ ∧ w3.heap[w.heap.size + 2]? = _ from ⟨hf3.blk HB.out.b0 (fun e => by have := HLT.out; rcases e with e | e <;> omega), hf3.blk HB.out.b1 (fun e => by have := HLT.out; rcases e with e | e <;> omega), hf3.blk HB.out.b2 (fun e => by have := HLT.out; rcases e with e | e <;> omega)⟩)
  have HS3 := Lib.hid (show w.heap.size + 3 ≤ w3.heap.size from by have := lt_of_block HB3.out.2.2; omega)
  have HRL3 := Lib.hid (HRL.out.kept (hf3.mono (fun k _ e => .inl (.inl e))))
  have HEQ2 := Lib.hid (HEQ.out X' O er hgs)
  have HST := Lib.hid (show StepX X 2 id z X' from ⟨O, er, hgs⟩)
  have HX3 := Lib.hid hx3
  have HRO := Lib.hid (hrO.mono (T := fun k => k = w.heap.size + 2) (fun k _ h => by have := HS0.out; omega))
  clear c0 c1 c2_ c3 c4 c5 c6 c7 c8 a0 a1 a2 hgs hx3 hrO hf3 HFP HRL
  have HOLL := Lib.hid (show O.length ≤ 1000000000 from by have := HOL.out; omega)
  clear hOl
  obtain ⟨c0, c1, c2_, c3, c4, c5, c6, c7, c8⟩ := rs_cells HB3.out.1
  obtain ⟨a0, a1, a2⟩ := act_cells HB3.out.2.1
  go_wp2_with fail
  refine (HRP.out _ _ HRL3.out HS3.out).mono ?_
  rintro e w4 ⟨⟨u, A8, c8', rfl, hr8, hrl⟩, hf4⟩
  obtain ⟨A', c', A2', c2', rfl, hrest⟩ := hrl.ex
  clear hrest c0 c1 c2_ c3 c4 c5 c6 c7 c8 a0 a1 a2
  have HF45 := Lib.hid (hf4.alloc (.cells (rsc g'.s A' g'.l.length c' g'.now g'.room A2' g'.L.length c2') 51))
  have HFW := Lib.hid (HFW.out.trans (Fr0.any (S := ShS b m) HF45.out))
  have HX4 := Lib.hid (HF45.out.blk HB3.out.2.2 (fun h => h))
  have HN4 := Lib.hid (heap_alloc_new w4 (.cells (rsc g'.s A' g'.l.length c' g'.now g'.room A2' g'.L.length c2') 51))
  have HRL4 := Lib.hid (hrl.kept (Fr0.any ((Fr.refl _ w4).alloc (.cells (rsc g'.s A' g'.l.length c' g'.now g'.room A2' g'.L.length c2') 51))))
  have HX4S := Lib.hid (HX3.out.kept0 HF45.out)
  have HRO4 := Lib.hid (HRO.out.kept (Fr0.any HF45.out))
  have HR84 := Lib.hid ((hr8.mono (T := fun k => k = w.heap.size + 2) (fun k _ h => by have := HS3.out; omega)).kept ((Fr.refl (fun k => k = w.heap.size + 2) w4).alloc (.cells (rsc g'.s A' g'.l.length c' g'.now g'.room A2' g'.L.length c2') 51)))
  have HQ := Lib.hid (show w.heap.size + 3 ≤ w4.heap.size from by have := hf4.size; have := HS3.out; omega)
  clear hrl hf4 hr8 HB HRP HF45 HB3 HRL3 HX3
  go_upto_region 8 with fail
  generalize w4.heap.size = q at *
  generalize w4.alloc (.cells (rsc g'.s A' g'.l.length c' g'.now g'.room A2' g'.L.length c2') 51) = W at *
  have HKC := Lib.hid (fun U (h : Fr (fun k => False ∨ k = w.heap.size + 2) W U) => (show (U.cell? ⟨q, 0, none⟩ = some (.int .i64 g'.s.peak) ∧ U.cell? ⟨q, 1, none⟩ = some (.int .i64 g'.s.rate) ∧ U.cell? ⟨q, 2, none⟩ = some (.int .i64 g'.s.burst) ∧ U.cell? ⟨q, 3, none⟩ = some (.int .i64 g'.s.most) ∧ U.cell? ⟨q, 4, none⟩ = some (.int .i64 g'.s.least) ∧ U.cell? ⟨q, 5, none⟩ = some (.slice A' g'.l.length c') ∧ U.cell? ⟨q, 6, none⟩ = some (.int .i64 g'.now) ∧ U.cell? ⟨q, 7, none⟩ = some (.int .i64 g'.room) ∧ U.cell? ⟨q, 8, none⟩ = some (.slice A2' g'.L.length c2')) from by
    have hb := rs_cells (h.blk HN4.out (fun e => by have := HQ.out; rcases e with e | e; exact e; omega))
    exact ⟨hb.x0, hb.x1, hb.x2, hb.x3, hb.x4, hb.x5, hb.x6, hb.x7, hb.x8⟩))
  have HSM := Lib.hid (fun U (h : Fr (fun k => False ∨ k = w.heap.size + 2) W U) => wsame_calls AO A8 cO c8' O O2 U ((HRO4.out.kept (h.mono (fun _ _ e => e.elim False.elim (fun h => h)))).mono (fun _ _ h => h.elim)) ((HR84.out.kept (h.mono (fun _ _ e => e.elim False.elim (fun h => h)))).mono (fun _ _ h => h.elim)) HOLL.out (by have := HO2.out; omega))
  have e112 : w.heap.size + 1 + 1 = w.heap.size + 2 := rfl
  try rw [e112]
  clear e112
  by_cases he : er = no
  · subst he
    have HX4D := Lib.hid (show W.drew.heap[w.heap.size + 2]? = some (.cells rsz 51 (0, 0)) from HX4.out)
    obtain ⟨x0, x1, x2, x3, x4, x5, x6, x7, x8⟩ := rs_cells HX4D.out
    obtain ⟨y0, y1, y2, y3, y4, y5, y6, y7, y8⟩ := rs_free HX4D.out
    go_region_held3 (fun U => (U.cell? ⟨q, 0, none⟩ = some (.int .i64 g'.s.peak) ∧ U.cell? ⟨q, 1, none⟩ = some (.int .i64 g'.s.rate) ∧ U.cell? ⟨q, 2, none⟩ = some (.int .i64 g'.s.burst) ∧ U.cell? ⟨q, 3, none⟩ = some (.int .i64 g'.s.most) ∧ U.cell? ⟨q, 4, none⟩ = some (.int .i64 g'.s.least) ∧ U.cell? ⟨q, 5, none⟩ = some (.slice A' g'.l.length c') ∧ U.cell? ⟨q, 6, none⟩ = some (.int .i64 g'.now) ∧ U.cell? ⟨q, 7, none⟩ = some (.int .i64 g'.room) ∧ U.cell? ⟨q, 8, none⟩ = some (.slice A2' g'.L.length c2')))
      ((refine HKC.out _ ?_; with_reducible repeat (first | exact hfn | exact Fr.refl _ _ | refine Fr.drew ?_ | refine Fr.setCell ?_ (fun _ => .inr rfl) _)))
      ((go_at_call 14; (with_reducible refine (HSM.out _ ?_).mono ?_); (with_reducible repeat (first | exact Fr.refl _ _ | refine Fr.drew ?_ | refine Fr.setCell ?_ (fun _ => .inr rfl) _)); rintro e wF ⟨rfl, hfF⟩; have hfn : Fr (fun k => False ∨ k = w.heap.size + 2) W wF := Fr.trans (by with_reducible repeat (first | exact Fr.refl _ _ | refine Fr.drew ?_ | refine Fr.setCell ?_ (fun _ => .inr rfl) _)) (Fr0.any hfF); try (have hzz : wF.heap[w.heap.size + 2]? = some (.cells rsz 51 (0, 0)) := (by with_reducible exact hfF.blk HX4D.out (fun h => h)); obtain ⟨u0, u1, u2, u3, u4, u5, u6, u7, u8⟩ := rs_cells hzz; obtain ⟨v0, v1, v2, v3, v4, v5, v6, v7, v8⟩ := rs_free hzz)))
    all_goals
      clear x0 x1 x2 x3 x4 x5 x6 x7 x8 y0 y1 y2 y3 y4 y5 y6 y7 y8 u0 u1 u2 u3 u4 u5 u6 u7 u8 v0 v1 v2 v3 v4 v5 v6 v7 v8
      go_wp2_with fail
      have hXN := putRs_blk hzz g'.s A' g'.l.length c' g'.now g'.room A2' g'.L.length c2'
      have hPN := putRs_fr (S := fun k => k = w.heap.size + 2) (hfn.mono (fun _ _ e => e.elim False.elim (fun h => h))) (b := w.heap.size + 2) (fun _ => rfl) g'.s A' g'.l.length c' g'.now g'.room A2' g'.L.length c2'
      exact bodyPost_ret (results_row_tmp2 (p := 6) (u := 7) (v := 8) rfl _ _ (w.heap.size + 2) _ _ _ _ rfl hXN Try.underlying51 rfl (by kernel_rfl)) rfl (does_end2 (u := .slice AO O.length cO) HLT.out.1 HLT.out.2 HRL4.out HX4S.out HST.out HACT.out (fun e => by simp [(HEQ2.out e).2]) HFW.out hPN)
  · have hed : decide (er = no) = false := decide_eq_false he
    have heb : (er == no) = false := by simpa using he
    obtain ⟨c0, c1, c2_, c3, c4, c5, c6, c7, c8⟩ := HKC.out _ (Fr.refl _ W).drew
    have hfn : Fr0 W W.drew := (Fr.refl _ W).drew
    obtain ⟨x0, x1, x2, x3, x4, x5, x6, x7, x8⟩ := rs_cells (show W.drew.heap[w.heap.size + 2]? = some (.cells rsz 51 (0, 0)) from HX4.out)
    obtain ⟨y0, y1, y2, y3, y4, y5, y6, y7, y8⟩ := rs_free (show W.drew.heap[w.heap.size + 2]? = some (.cells rsz 51 (0, 0)) from HX4.out)
    clear hfn
    obtain ⟨xx0, xx1, xx2, xx3, xx4, xx5, xx6, xx7, xx8⟩ := rs_cells HX4.out
    obtain ⟨yy0, yy1, yy2, yy3, yy4, yy5, yy6, yy7, yy8⟩ := rs_free HX4.out
    first | (go_region_law (fail)) | fail
    all_goals
      go_wp2_with fail
      have hXN := putRs_blk HX4.out g'.s A' g'.l.length c' g'.now g'.room A2' g'.L.length c2'
      have hPN := putRs_fr (S := fun k => k = w.heap.size + 2) (Fr.refl _ W) (b := w.heap.size + 2) (fun _ => rfl) g'.s A' g'.l.length c' g'.now g'.room A2' g'.L.length c2'
      generalize hch : putRs W (w.heap.size + 2) g'.s A' g'.l.length c' g'.now g'.room A2' g'.L.length c2' = W9 at *
      change bodyPost _ _ _ _ _ (World.drew (putRs W (w.heap.size + 2) g'.s A' g'.l.length c' g'.now g'.room A2' g'.L.length c2'))
      rw [hch]
      exact bodyPost_ret (results_row_tmp2 (p := 6) (u := 7) (v := 8) rfl _ _ (w.heap.size + 2) _ _ _ _ rfl (show W9.drew.heap[w.heap.size + 2]? = _ from hXN) Try.underlying51 rfl (by kernel_rfl)) rfl (does_end2 (u := .slice AO O.length cO) HLT.out.1 HLT.out.2 HRL4.out HX4S.out HST.out HACT.out (fun e => absurd (HEQ2.out e).1 he) HFW.out hPN.drew)
theorem does_other (T : Nat → Prop) (b m : Nat) (X : Sh) (v : Value) (g : Rs) (k id z : Int) (w : World) (hX : IsShT T w b m X) (hg : IsRs w (ShU T b m) v g) (h1 : k ≠ 1) (h2 : k ≠ 2) :
    Calls Try.prog 17 #[.pointer (some ⟨b, 0, none⟩), v, acv k id z] w (DoesPost T b m X g k id z w) := by
  have hlt := hX.sh.lt
  obtain ⟨A, c, A2, c2, rfl, hrest⟩ := hg.ex
  clear hrest
  have e1 : (k == 1) = false := by simpa using h1
  have e2 : (k == 2) = false := by simpa using h2
  have HB := Lib.hid (doesW_b w (rsc g.s A g.l.length c g.now g.room A2 g.L.length c2) k id z)
  have HEND := Lib.hid (does_end (T := T) (X := X) (X' := X) (g := g) (g' := g) (k := k) (id := id) (z := z) (A := A) (c := c) (A2 := A2) (c2 := c2) (u := .slice none 0 0) (ok := true) hlt.1 hlt.2 ((hg.mono (doN_low (ShU T b m) w.heap.size)).kept (Fr0.any HB.out.fr)) ((hX.mono (doN_low T w.heap.size)).kept0 HB.out.fr) (by unfold StepX; rw [if_neg h1, if_neg h2]) (by unfold Rs.act; rw [if_neg h1, if_neg h2]) (fun _ => rfl) (Fr0.any HB.out.fr))
  have HX5 := Lib.hid (putRs_blk HB.out.b2 g.s A g.l.length c g.now g.room A2 g.L.length c2)
  obtain ⟨c0, c1, c2_, c3, c4, c5, c6, c7, c8⟩ := rs_cells HB.out.b0
  obtain ⟨a0, a1, a2⟩ := act_cells HB.out.b1
  obtain ⟨x0, x1, x2, x3, x4, x5, x6, x7, x8⟩ := rs_cells HB.out.b2
  obtain ⟨y0, y1, y2, y3, y4, y5, y6, y7, y8⟩ := rs_free HB.out.b2
  clear hX hg hlt h1 h2 HB
  go_enter Try.func17, Try.ntmps17
  go_upto_region 9 with fail
  generalize (((w.alloc (.cells (rsc g.s A g.l.length c g.now g.room A2 g.L.length c2) 51)).alloc (.cells (acc k id z) 35)).alloc (.cells rsz 51)) = W at *
  go_wp2_with fail
  exact bodyPost_ret (results_row_tmp2 (p := 6) (u := 7) (v := 8) rfl _ _ (w.heap.size + 2) _ _ _ _ rfl HX5.out Try.underlying51 rfl (by kernel_rfl)) rfl HEND.out
/-- does, whatever it is asked. -/
theorem does_any (T : Nat → Prop) (b m : Nat) (X : Sh) (v : Value) (g : Rs) (k id z : Int) (w : World) (hX : IsShT T w b m X) (hg : IsRs w (ShU T b m) v g) (ho : g.Ok) (hT : ∀ k, w.heap.size ≤ k → ¬ T k) :
    Calls Try.prog 17 #[.pointer (some ⟨b, 0, none⟩), v, acv k id z] w (DoesPost T b m X g k id z w) := by
  by_cases h1 : k = 1
  · subst h1; exact does_put T b m X v g id z w hX hg ho hT
  by_cases h2 : k = 2
  · subst h2; exact does_go T b m X v g id z w hX hg ho hT
  exact does_other T b m X v g k id z w hX hg h1 h2
end Go.Proofs.Ytmnadploikcljaa
