/- Chapter 24: does. -/
import Derived.Test.YtbhdkpcakjookaaPoW
import Derived.Deep.RegionHeld3
set_option linter.unusedVariables false
set_option linter.unusedSimpArgs false
namespace Go.Proofs.Ytbhdkpcakjookaa
open Go.RowKit
attribute [local go_sem] Oper.semAt_some

structure Ac where
  kind : Int
  pick : Int
  bit : Int
  now : Int
  bytes : List UInt8
/-- A call as it lies. -/
structure Ra where
  a : Ac
  A : Option Addr
  c : Nat
abbrev rac (r : Ra) : List Value := [.int .i64 r.a.kind, .int .i64 r.a.pick, .int .i64 r.a.bit, .int .i64 r.a.now, .slice r.A r.a.bytes.length r.c]
abbrev rav (r : Ra) : Value := .agg #[.int .i64 r.a.kind, .int .i64 r.a.pick, .int .i64 r.a.bit, .int .i64 r.a.now, .slice r.A r.a.bytes.length r.c]
def InI (z : Int) : Prop := -9223372036854775808 ≤ z ∧ z ≤ 9223372036854775807
structure Ra.Ok (w : World) (r : Ra) : Prop where
  b : BArg w r.A r.a.bytes
  pick : InI r.a.pick
  bit : InI r.a.bit
theorem Ra.Ok.kept {w w' : World} {r : Ra} (h : r.Ok w) (hf : Fr0 w w') : r.Ok w' := ⟨h.b.kept hf, h.pick, h.bit⟩
/-- What a call leaves. -/
def actF (most : Int) (s : Int × List Msg) (x : Ac) : Int × List Msg :=
  if x.kind = 1 then ((putF most s.1 s.2 x.pick x.now x.bytes).1, (putF most s.1 s.2 x.pick x.now x.bytes).2.1)
  else if x.kind = 3 then (s.1, (takeF s.2 x.pick).1)
  else if x.kind = 4 then (s.1, (bendF s.2 x.pick x.bit).1)
  else s
theorem Lim.act {K : Nat} {most : Int} {s : Int × List Msg} (h : Lim K most s.1 s.2) (hK : K < 1000000) (x : Ac) : Lim (K + 1) most (actF most s x).1 (actF most s x).2 := by
  unfold actF
  split
  · exact h.put hK _ _ _
  · split
    · exact (h.take _).succ hK
    · split
      · exact (h.bend _ _).succ hK
      · exact h.succ hK
/-- A pool and the document's: alike. -/
structure Du (w0 w : World) (b : Nat) (v : Value) (K : Nat) (most last : Int) (ms : List Msg) : Prop where
  pw : Pw w0 w b most last ms
  rp : Rp w v most last ms
  lim : Lim K most last ms
theorem Du.kept {w0 w w' : World} {b : Nat} {v : Value} {K : Nat} {most last : Int} {ms : List Msg} (h : Du w0 w b v K most last ms) (hf : Fr0 w w') : Du w0 w' b v K most last ms := ⟨h.pw.kept hf, h.rp.kept hf, h.lim⟩
theorem Rp.pool {w0 w w' : World} {b : Nat} {m l : Int} {xs : List Msg} (hp : Pw w0 w b m l xs) {v : Value} {most last : Int} {ms : List Msg} (h : Rp w v most last ms) (hf : Fr (fun k => k = b) w w') : Rp w' v most last ms := by
  obtain ⟨L, h1, _, _, _⟩ := hp
  obtain ⟨A0, c0, hb, _⟩ := h1.ex
  exact h.keptB hb hf
def DoesPost (w0 : World) (b : Nat) (K : Nat) (most last : Int) (ms : List Msg) (w : World) (e : Ending) (w' : World) : Prop :=
  (∃ v, e = .returned (.tuple #[v, .bool true]) ∧ Du w0 w' b v K most last ms) ∧ Fr (fun k => k = b) w w'
/-- The three blocks that does lays first. -/
structure DoesB (w W : World) (cs : Array Value) (r : Ra) : Prop where
  b0 : W.heap[w.heap.size]? = some (.cells cs 45 (0, 0))
  b1 : W.heap[w.heap.size + 1]? = some (.cells (rac r).toArray 49 (0, 0))
  b2 : W.heap[w.heap.size + 1 + 1]? = some (.cells (poc 0 0 none 0 0) 45 (0, 0))
abbrev doesW (w : World) (cs : Array Value) (r : Ra) : World := ((w.alloc (.cells cs 45)).alloc (.cells (rac r).toArray 49)).alloc (.cells (poc 0 0 none 0 0) 45)
theorem doesW_b (w : World) (cs : Array Value) (r : Ra) : DoesB w (doesW w cs r) cs r ∧ Fr0 w (doesW w cs r) ∧ (doesW w cs r).heap.size = w.heap.size + 3 :=
  ⟨⟨blk_alloc (blk_alloc (heap_alloc_new _ _) _) _, blk_alloc (heap_alloc_nn (by simp)) _, heap_alloc_nn (by simp)⟩, (((Fr.refl _ w).alloc _).alloc _).alloc _, by simp⟩
theorem DoesB.kept {S : Nat → Prop} {w W W' : World} {cs : Array Value} {r : Ra} (h : DoesB w W cs r) (hf : Fr S W W') (hS : ∀ k, w.heap.size ≤ k → k ≤ w.heap.size + 2 → ¬ S k) : DoesB w W' cs r :=
  ⟨hf.blk h.b0 (hS _ (by omega) (by omega)), hf.blk h.b1 (hS _ (by omega) (by omega)), hf.blk h.b2 (hS _ (by omega) (by omega))⟩
theorem act_cells {w : World} {q : Nat} {r : Ra} {t : TypeId} (h : w.heap[q]? = some (.cells (rac r).toArray t (0, 0))) :
    w.cell? ⟨q, 0, none⟩ = some (.int .i64 r.a.kind) ∧ w.cell? ⟨q, 1, none⟩ = some (.int .i64 r.a.pick) ∧ w.cell? ⟨q, 2, none⟩ = some (.int .i64 r.a.bit) ∧ w.cell? ⟨q, 3, none⟩ = some (.int .i64 r.a.now) ∧ w.cell? ⟨q, 4, none⟩ = some (.slice r.A r.a.bytes.length r.c) :=
  ⟨cell_of_blk h 0, cell_of_blk h 1, cell_of_blk h 2, cell_of_blk h 3, cell_of_blk h 4⟩
/-- What is behind the calls, and the store of the result. -/
theorem does_end {w0 w W w5 : World} {b : Nat} {K : Nat} {most last : Int} {ms : List Msg} {A : Option Addr} {c : Nat} {L : List Rm} (hb : b < w.heap.size) (hF : Fr0 w W) (hf : Fr (fun k => k = b) W w5) (hp : Pw w0 w5 b most last ms) (hls : IsLs w5 A c L) (hms : msgs L = ms) (hl : Lim K most last ms) (hz : w5.heap[w.heap.size + 1 + 1]? = some (.cells (poc 0 0 none 0 0) 45 (0, 0))) :
    DoesPost w0 b K most last ms w (.returned (.tuple #[pov most last A L.length c, .bool true])) (putP w5 (w.heap.size + 1 + 1) most last A L.length c) := by
  have hfP : Fr (fun k => k = w.heap.size + 1 + 1) w5 (putP w5 (w.heap.size + 1 + 1) most last A L.length c) := putP_fr (S := fun k => k = w.heap.size + 1 + 1) (Fr.refl _ w5) (fun _ => rfl)
  obtain ⟨LL, h1, h2, h3, h4⟩ := hp
  obtain ⟨A0, c0, hbb, hlp⟩ := h1.ex
  refine ⟨⟨_, rfl, ⟨⟨LL, ⟨⟨A0, c0, hfP.blk hbb (fun e => by omega), hlp.keptB hz hfP⟩, h1.most⟩, h2, h3, ?_⟩, ⟨A, c, L, rfl, hls.keptB hz hfP, hms⟩, hl⟩⟩, ?_⟩
  · refine h4.then hfP (fun i hi e => ?_)
    omega
  · exact ((Fr0.any hF).trans hf).then hfP (fun i hi e => by omega)
set_option maxRecDepth 100000 in
set_option maxHeartbeats 2000000 in
theorem does_put (w0 : World) (b : Nat) (v : Value) (K : Nat) (most last : Int) (ms : List Msg) (r : Ra) (w : World) (h : Du w0 w b v K most last ms) (hr : r.Ok w) (hk : r.a.kind = 1) (hK : K < 1000000) :
    Calls Try.prog 19 #[.pointer (some ⟨b, 0, none⟩), v, rav r] w (DoesPost w0 b (K + 1) most (putF most last ms r.a.pick r.a.now r.a.bytes).1 (putF most last ms r.a.pick r.a.now r.a.bytes).2.1 w) := by
  have hlt := h.pw.lt
  obtain ⟨A, c, L, rfl, _, _⟩ := h.rp
  obtain ⟨hdb, hf, hs⟩ := doesW_b w (poc most last A L.length c) r
  have HDB := Lib.hid hdb
  have HF := Lib.hid hf
  have HS := Lib.hid hs
  have HDU := Lib.hid (h.kept hf)
  have HBA := Lib.hid (hr.kept hf)
  have HLM := Lib.hid (h.lim.put hK r.a.pick r.a.now r.a.bytes)
  have HLT := Lib.hid hlt
  obtain ⟨⟨k0, k1, k2⟩, _⟩ := po_cells2 hdb.b0
  obtain ⟨a0, a1, a2, a3, a4⟩ := act_cells hdb.b1
  rw [hk] at a0
  have HPU := Lib.hid (pw_put_any (h.pw.kept hf) h.lim r.a.pick r.a.now r.A r.c r.a.bytes (hr.kept hf).b)
  have HRP := Lib.hid (fun U v' (hrp : Rp U v' most last ms) (hba : BArg U r.A r.a.bytes) => rput_any hrp h.lim r.a.pick r.a.now r.A r.c r.a.bytes hba)
  clear h hr hf hdb hs hlt hk
  generalize hpf : putF most last ms r.a.pick r.a.now r.a.bytes = pf at *
  obtain ⟨last', ms', n', err⟩ := pf
  clear hpf
  dsimp only at HPU HRP HLM
  unfold doesW at *
  go_enter Try.func19, Try.ntmps19
  go_upto_region 1 with fail
  generalize ((w.alloc (.cells #[.int .i64 most, .int .i64 last, .slice A L.length c] 45)).alloc (.cells #[.int .i64 r.a.kind, .int .i64 r.a.pick, .int .i64 r.a.bit, .int .i64 r.a.now, .slice r.A r.a.bytes.length r.c] 49)).alloc (.cells #[.int .i64 0, .int .i64 0, .slice none 0 0] 45) = W at *
  go_upto_region 4 with (go_at_call 11; refine HPU.out.mono ?_; rintro e w3 ⟨rfl, hpw3, hf3⟩)
  have HDB3 := Lib.hid (HDB.out.kept hf3 (fun k h1 h2 e => by have := HLT.out; omega))
  have HP3 := Lib.hid hpw3
  have HF3 := Lib.hid hf3
  have HRP3 := Lib.hid (HRP.out w3 _ (Rp.pool HDU.out.pw HDU.out.rp hf3) (HDU.out.pw.kb hf3 _ _ HBA.out.b))
  obtain ⟨⟨k0, k1, k2⟩, _⟩ := po_cells2 HDB3.out.b0
  obtain ⟨a0, a1, a2, a3, a4⟩ := act_cells HDB3.out.b1
  clear hpw3 hf3 HPU HRP
  go_upto_region 5 with (go_at_call 33; refine HRP3.out.mono ?_; rintro e w4 ⟨⟨v', rfl, A4, c4, L4, rfl, hls4, rfl⟩, hf4⟩)
  have hf5 := hf4.alloc (.cells (poc most last' A4 L4.length c4) 45)
  have HDB5 := Lib.hid (HDB3.out.kept hf5 (fun _ _ _ h => h))
  have HLS5 := Lib.hid (hls4.kept ((Fr.refl _ w4).alloc (.cells (poc most last' A4 L4.length c4) 45)))
  have HP5 := Lib.hid (HP3.out.kept hf5)
  have HF5 := Lib.hid (HF3.out.trans (Fr0.any hf5))
  obtain ⟨⟨x0, x1, x2⟩, _⟩ := po_cells2 (heap_alloc_new w4 (.cells (poc most last' A4 L4.length c4) 45))
  obtain ⟨⟨y0, y1, y2⟩, f0, f1, f2⟩ := po_cells2 HDB5.out.b2
  clear hf5 hls4 hf4 k0 k1 k2 a0 a1 a2 a3 a4
  generalize w4.alloc (.cells #[.int .i64 most, .int .i64 last', .slice A4 L4.length c4] 45) = W5 at *
  go_wp2_with fail
  have HEND := Lib.hid (does_end HLT.out HF.out HF5.out HP5.out HLS5.out rfl HLM.out HDB5.out.b2)
  exact bodyPost_ret (results_row_tmp (p := 6) (u := 7) rfl _ _ (w.heap.size + 1 + 1) _ _ _ _ rfl (putP_blk HDB5.out.b2 most last' A4 L4.length c4) Try.underlying45 rfl (by kernel_rfl)) rfl HEND.out
set_option maxRecDepth 100000 in
set_option maxHeartbeats 4000000 in
theorem does_take (w0 : World) (b : Nat) (v : Value) (K : Nat) (most last : Int) (ms : List Msg) (r : Ra) (w : World) (h : Du w0 w b v K most last ms) (hr : r.Ok w) (hk : r.a.kind = 3) (hK : K < 1000000) :
    Calls Try.prog 19 #[.pointer (some ⟨b, 0, none⟩), v, rav r] w (DoesPost w0 b (K + 1) most last (takeF ms r.a.pick).1 w) := by
  have hlt := h.pw.lt
  obtain ⟨A, c, L, rfl, _, _⟩ := h.rp
  obtain ⟨hdb, hf, hs⟩ := doesW_b w (poc most last A L.length c) r
  have HDB := Lib.hid hdb
  have HF := Lib.hid hf
  have HS := Lib.hid hs
  have HDU := Lib.hid (h.kept hf)
  have HLM := Lib.hid ((h.lim.take r.a.pick).succ hK)
  have HLT := Lib.hid hlt
  obtain ⟨⟨k0, k1, k2⟩, _⟩ := po_cells2 hdb.b0
  obtain ⟨a0, a1, a2, a3, a4⟩ := act_cells hdb.b1
  rw [hk] at a0
  have HPU := Lib.hid (pw_take_any (h.pw.kept hf) r.a.pick hr.pick)
  have HRP := Lib.hid (fun U v' (hrp : Rp U v' most last ms) => rtake_any hrp r.a.pick hr.pick)
  clear h hr hf hdb hs hlt hk
  generalize hpf : takeF ms r.a.pick = pf at *
  obtain ⟨ms', m', err⟩ := pf
  clear hpf
  dsimp only at HPU HRP HLM
  unfold doesW at *
  go_enter Try.func19, Try.ntmps19
  go_upto_region 1 with fail
  generalize ((w.alloc (.cells #[.int .i64 most, .int .i64 last, .slice A L.length c] 45)).alloc (.cells #[.int .i64 r.a.kind, .int .i64 r.a.pick, .int .i64 r.a.bit, .int .i64 r.a.now, .slice r.A r.a.bytes.length r.c] 49)).alloc (.cells #[.int .i64 0, .int .i64 0, .slice none 0 0] 45) = W at *
  go_upto_region 12 with (go_at_call 13; refine HPU.out.mono ?_; rintro e w3 ⟨⟨A3, c3, rfl, hb3⟩, hpw3, hf3⟩)
  have hfa := (Fr.refl (fun _ => False) w3).alloc (.cells (rmc ⟨m', A3, c3⟩).toArray 31)
  have HDB3 := Lib.hid (((HDB.out.kept hf3 (fun k h1 h2 e => by have := HLT.out; omega))).kept hfa (fun _ _ _ h => h))
  have HP3 := Lib.hid (hpw3.kept hfa)
  have HF3 := Lib.hid (hf3.trans (Fr0.any hfa))
  have HRP3 := Lib.hid (HRP.out _ _ ((Rp.pool HDU.out.pw HDU.out.rp hf3).kept hfa))
  have HX3 := Lib.hid (heap_alloc_new w3 (.cells (rmc ⟨m', A3, c3⟩).toArray 31))
  have HM3 := Lib.hid (hb3.kept hfa)
  have HQ3 := Lib.hid (show w.heap.size + 3 ≤ w3.heap.size from by have := hf3.size; have := HS.out; omega)
  clear hpw3 hf3 hfa hb3 HPU HRP k0 k1 k2 a0 a1 a2 a3 a4
  generalize w3.heap.size = q3 at *
  generalize w3.alloc (.cells #[.int .i64 m'.num, .int .i64 m'.link, .int .i64 m'.since, .slice A3 m'.bytes.length c3] 31) = W3 at *
  obtain ⟨⟨k0, k1, k2⟩, _⟩ := po_cells2 HDB3.out.b0
  obtain ⟨a0, a1, a2, a3, a4⟩ := act_cells HDB3.out.b1
  go_upto_region 13 with (go_at_call 34; refine HRP3.out.mono ?_; rintro e w4 ⟨⟨v', A4, c4, rfl, ⟨A5, c5, L5, rfl, hls4, rfl⟩, hb4⟩, hf4⟩)
  have hfb := ((Fr.refl (fun _ => False) w4).alloc (.cells (poc most last A5 L5.length c5) 45)).alloc (.cells (rmc ⟨m', A4, c4⟩).toArray 31)
  have HDB5 := Lib.hid (HDB3.out.kept (hf4.trans hfb) (fun _ _ _ h => h))
  have HLS5 := Lib.hid (hls4.kept hfb)
  have HP5 := Lib.hid (HP3.out.kept (hf4.trans hfb))
  have HF5 := Lib.hid (HF3.out.trans (Fr0.any (hf4.trans hfb)))
  have HX5 := Lib.hid ((hf4.trans hfb).blk HX3.out (fun h => h))
  have HM5 := Lib.hid (HM3.out.kept (hf4.trans hfb))
  have HN5 := Lib.hid (hb4.kept hfb)
  have HY5 := Lib.hid (blk_alloc (heap_alloc_new w4 (.cells (poc most last A5 L5.length c5) 45)) (.cells (rmc ⟨m', A4, c4⟩).toArray 31))
  have HZ5 := Lib.hid (show ((w4.alloc (.cells (poc most last A5 L5.length c5) 45)).alloc (.cells (rmc ⟨m', A4, c4⟩).toArray 31)).heap[w4.heap.size + 1]? = some (.cells (rmc ⟨m', A4, c4⟩).toArray 31 (0, 0)) from heap_alloc_nn (by simp))
  have HQ4 := Lib.hid (show w.heap.size + 3 ≤ w4.heap.size by have h1 := hf4.size; have h2 := HQ3.out; have h3 := lt_of_block HDB3.out.b2; have h4 := lt_of_block HX3.out; omega)
  clear hls4 hf4 hb4 hfb k0 k1 k2 a0 a1 a2 a3 a4
  generalize w4.heap.size = q4 at *
  generalize (w4.alloc (.cells #[.int .i64 most, .int .i64 last, .slice A5 L5.length c5] 45)).alloc (.cells #[.int .i64 m'.num, .int .i64 m'.link, .int .i64 m'.since, .slice A4 m'.bytes.length c4] 31) = W5 at *
  have HK := Lib.hid (fun U (h : Fr (fun k => k = w.heap.size + 1 + 1) W5 U) => (show (U.cell? ⟨q4, 0, none⟩ = some (.int .i64 most) ∧ U.cell? ⟨q4, 1, none⟩ = some (.int .i64 last) ∧ U.cell? ⟨q4, 2, none⟩ = some (.slice A5 L5.length c5)) ∧ (U.cell? ⟨q3, 0, none⟩ = some (.int .i64 m'.num) ∧ U.cell? ⟨q3, 1, none⟩ = some (.int .i64 m'.link) ∧ U.cell? ⟨q3, 2, none⟩ = some (.int .i64 m'.since) ∧ U.cell? ⟨q3, 3, none⟩ = some (.slice A3 m'.bytes.length c3)) ∧ (U.cell? ⟨q4 + 1, 0, none⟩ = some (.int .i64 m'.num) ∧ U.cell? ⟨q4 + 1, 1, none⟩ = some (.int .i64 m'.link) ∧ U.cell? ⟨q4 + 1, 2, none⟩ = some (.int .i64 m'.since) ∧ U.cell? ⟨q4 + 1, 3, none⟩ = some (.slice A4 m'.bytes.length c4)) from
    ⟨(po_cells2 (h.blk HY5.out (fun e => by have := HQ4.out; omega))).1, (m_cells (h.blk HX5.out (fun e => by have := HQ3.out; omega))).1, (m_cells (h.blk HZ5.out (fun e => by have := HQ4.out; omega))).1⟩))
  have HONE := Lib.hid (fun U (h : Fr (fun k => k = w.heap.size + 1 + 1) W5 U) => show Calls Try.prog 25 #[rmv ⟨m', A3, c3⟩, rmv ⟨m', A4, c4⟩] U fun e w' => e = .returned (.bool true) ∧ Fr0 U w' from
    (one_calls ⟨m', A3, c3⟩ ⟨m', A4, c4⟩ U (HM5.out.keptB HDB5.out.b2 h) (HN5.out.keptB HDB5.out.b2 h)).mono fun e w' hh => by simpa using hh)
  go_region_held3 (fun U => (U.cell? ⟨q4, 0, none⟩ = some (.int .i64 most) ∧ U.cell? ⟨q4, 1, none⟩ = some (.int .i64 last) ∧ U.cell? ⟨q4, 2, none⟩ = some (.slice A5 L5.length c5)) ∧ (U.cell? ⟨q3, 0, none⟩ = some (.int .i64 m'.num) ∧ U.cell? ⟨q3, 1, none⟩ = some (.int .i64 m'.link) ∧ U.cell? ⟨q3, 2, none⟩ = some (.int .i64 m'.since) ∧ U.cell? ⟨q3, 3, none⟩ = some (.slice A3 m'.bytes.length c3)) ∧ (U.cell? ⟨q4 + 1, 0, none⟩ = some (.int .i64 m'.num) ∧ U.cell? ⟨q4 + 1, 1, none⟩ = some (.int .i64 m'.link) ∧ U.cell? ⟨q4 + 1, 2, none⟩ = some (.int .i64 m'.since) ∧ U.cell? ⟨q4 + 1, 3, none⟩ = some (.slice A4 m'.bytes.length c4)))
    (exact HK.out _ (by first | exact Fr0.any hfn | exact putP_fr (S := fun k => k = w.heap.size + 1 + 1) (w := w6) (Fr0.any hfn) (k := w.heap.size + 1 + 1) (fun _ => rfl) (m := most) (l := last) (A := A5) (n := L5.length) (c := c5) | exact (Fr.refl _ W5).drew))
    ((go_at_call 25; (with_reducible refine (HONE.out _ (Fr.refl _ W5).drew).mono ?_); rintro e w6 ⟨rfl, hf6⟩; have hfn : Fr0 W5 w6 := (Fr.refl _ W5).drew.trans hf6; obtain ⟨⟨y0, y1, y2⟩, f0, f1, f2⟩ := po_cells2 (hfn.blk HDB5.out.b2 (fun h => h))))
  have HEND := Lib.hid (does_end HLT.out HF.out (HF5.out.trans (Fr0.any hfn)) (HP5.out.kept hfn) (HLS5.out.kept hfn) rfl HLM.out (hfn.blk HDB5.out.b2 (fun h => h)))
  have HB6 := Lib.hid (putP_blk (hfn.blk HDB5.out.b2 (fun h => h)) most last A5 L5.length c5)
  clear hfn hf6 y0 y1 y2 f0 f1 f2
  go_wp2_with fail
  exact bodyPost_ret (results_row_tmp (p := 6) (u := 7) rfl _ _ (w.heap.size + 1 + 1) _ _ _ _ rfl HB6.out Try.underlying45 rfl (by kernel_rfl)) rfl HEND.out
set_option maxRecDepth 100000 in
set_option maxHeartbeats 4000000 in
theorem does_bend (w0 : World) (b : Nat) (v : Value) (K : Nat) (most last : Int) (ms : List Msg) (r : Ra) (w : World) (h : Du w0 w b v K most last ms) (hr : r.Ok w) (hk : r.a.kind = 4) (hK : K < 1000000) :
    Calls Try.prog 19 #[.pointer (some ⟨b, 0, none⟩), v, rav r] w (DoesPost w0 b (K + 1) most last (bendF ms r.a.pick r.a.bit).1 w) := by
  have hlt := h.pw.lt
  obtain ⟨A, c, L, rfl, _, _⟩ := h.rp
  obtain ⟨hdb, hf, hs⟩ := doesW_b w (poc most last A L.length c) r
  have HDB := Lib.hid hdb
  have HF := Lib.hid hf
  have HS := Lib.hid hs
  have HDU := Lib.hid (h.kept hf)
  have HLM := Lib.hid ((h.lim.bend r.a.pick r.a.bit).succ hK)
  have HLT := Lib.hid hlt
  obtain ⟨⟨k0, k1, k2⟩, _⟩ := po_cells2 hdb.b0
  obtain ⟨a0, a1, a2, a3, a4⟩ := act_cells hdb.b1
  rw [hk] at a0
  have HPU := Lib.hid (pw_bend_any (h.pw.kept hf) h.lim r.a.pick r.a.bit hr.pick hr.bit)
  have HRP := Lib.hid (fun U v' (hrp : Rp U v' most last ms) => rbend_any hrp h.lim r.a.pick r.a.bit hr.pick hr.bit)
  clear h hr hf hdb hs hlt hk
  generalize hpf : bendF ms r.a.pick r.a.bit = pf at *
  obtain ⟨ms', m', err⟩ := pf
  clear hpf
  dsimp only at HPU HRP HLM
  unfold doesW at *
  go_enter Try.func19, Try.ntmps19
  go_upto_region 1 with fail
  generalize ((w.alloc (.cells #[.int .i64 most, .int .i64 last, .slice A L.length c] 45)).alloc (.cells #[.int .i64 r.a.kind, .int .i64 r.a.pick, .int .i64 r.a.bit, .int .i64 r.a.now, .slice r.A r.a.bytes.length r.c] 49)).alloc (.cells #[.int .i64 0, .int .i64 0, .slice none 0 0] 45) = W at *
  go_upto_region 16 with (go_at_call 12; refine HPU.out.mono ?_; rintro e w3 ⟨⟨A3, c3, rfl, hb3⟩, hpw3, hf3⟩)
  have hfa := (Fr.refl (fun _ => False) w3).alloc (.cells (rmc ⟨m', A3, c3⟩).toArray 31)
  have HDB3 := Lib.hid (((HDB.out.kept hf3 (fun k h1 h2 e => by have := HLT.out; omega))).kept hfa (fun _ _ _ h => h))
  have HP3 := Lib.hid (hpw3.kept hfa)
  have HF3 := Lib.hid (hf3.trans (Fr0.any hfa))
  have HRP3 := Lib.hid (HRP.out _ _ ((Rp.pool HDU.out.pw HDU.out.rp hf3).kept hfa))
  have HX3 := Lib.hid (heap_alloc_new w3 (.cells (rmc ⟨m', A3, c3⟩).toArray 31))
  have HM3 := Lib.hid (hb3.kept hfa)
  have HQ3 := Lib.hid (show w.heap.size + 3 ≤ w3.heap.size from by have := hf3.size; have := HS.out; omega)
  clear hpw3 hf3 hfa hb3 HPU HRP k0 k1 k2 a0 a1 a2 a3 a4
  generalize w3.heap.size = q3 at *
  generalize w3.alloc (.cells #[.int .i64 m'.num, .int .i64 m'.link, .int .i64 m'.since, .slice A3 m'.bytes.length c3] 31) = W3 at *
  obtain ⟨⟨k0, k1, k2⟩, _⟩ := po_cells2 HDB3.out.b0
  obtain ⟨a0, a1, a2, a3, a4⟩ := act_cells HDB3.out.b1
  go_upto_region 17 with (go_at_call 35; refine HRP3.out.mono ?_; rintro e w4 ⟨⟨v', A4, c4, rfl, ⟨A5, c5, L5, rfl, hls4, rfl⟩, hb4⟩, hf4⟩)
  have hfb := ((Fr.refl (fun _ => False) w4).alloc (.cells (poc most last A5 L5.length c5) 45)).alloc (.cells (rmc ⟨m', A4, c4⟩).toArray 31)
  have HDB5 := Lib.hid (HDB3.out.kept (hf4.trans hfb) (fun _ _ _ h => h))
  have HLS5 := Lib.hid (hls4.kept hfb)
  have HP5 := Lib.hid (HP3.out.kept (hf4.trans hfb))
  have HF5 := Lib.hid (HF3.out.trans (Fr0.any (hf4.trans hfb)))
  have HX5 := Lib.hid ((hf4.trans hfb).blk HX3.out (fun h => h))
  have HM5 := Lib.hid (HM3.out.kept (hf4.trans hfb))
  have HN5 := Lib.hid (hb4.kept hfb)
  have HY5 := Lib.hid (blk_alloc (heap_alloc_new w4 (.cells (poc most last A5 L5.length c5) 45)) (.cells (rmc ⟨m', A4, c4⟩).toArray 31))
  have HZ5 := Lib.hid (show ((w4.alloc (.cells (poc most last A5 L5.length c5) 45)).alloc (.cells (rmc ⟨m', A4, c4⟩).toArray 31)).heap[w4.heap.size + 1]? = some (.cells (rmc ⟨m', A4, c4⟩).toArray 31 (0, 0)) from heap_alloc_nn (by simp))
  have HQ4 := Lib.hid (show w.heap.size + 3 ≤ w4.heap.size by have h1 := hf4.size; have h2 := HQ3.out; have h3 := lt_of_block HDB3.out.b2; have h4 := lt_of_block HX3.out; omega)
  clear hls4 hf4 hb4 hfb k0 k1 k2 a0 a1 a2 a3 a4
  generalize w4.heap.size = q4 at *
  generalize (w4.alloc (.cells #[.int .i64 most, .int .i64 last, .slice A5 L5.length c5] 45)).alloc (.cells #[.int .i64 m'.num, .int .i64 m'.link, .int .i64 m'.since, .slice A4 m'.bytes.length c4] 31) = W5 at *
  have HK := Lib.hid (fun U (h : Fr (fun k => k = w.heap.size + 1 + 1) W5 U) => (show (U.cell? ⟨q4, 0, none⟩ = some (.int .i64 most) ∧ U.cell? ⟨q4, 1, none⟩ = some (.int .i64 last) ∧ U.cell? ⟨q4, 2, none⟩ = some (.slice A5 L5.length c5)) ∧ (U.cell? ⟨q3, 0, none⟩ = some (.int .i64 m'.num) ∧ U.cell? ⟨q3, 1, none⟩ = some (.int .i64 m'.link) ∧ U.cell? ⟨q3, 2, none⟩ = some (.int .i64 m'.since) ∧ U.cell? ⟨q3, 3, none⟩ = some (.slice A3 m'.bytes.length c3)) ∧ (U.cell? ⟨q4 + 1, 0, none⟩ = some (.int .i64 m'.num) ∧ U.cell? ⟨q4 + 1, 1, none⟩ = some (.int .i64 m'.link) ∧ U.cell? ⟨q4 + 1, 2, none⟩ = some (.int .i64 m'.since) ∧ U.cell? ⟨q4 + 1, 3, none⟩ = some (.slice A4 m'.bytes.length c4)) from
    ⟨(po_cells2 (h.blk HY5.out (fun e => by have := HQ4.out; omega))).1, (m_cells (h.blk HX5.out (fun e => by have := HQ3.out; omega))).1, (m_cells (h.blk HZ5.out (fun e => by have := HQ4.out; omega))).1⟩))
  have HONE := Lib.hid (fun U (h : Fr (fun k => k = w.heap.size + 1 + 1) W5 U) => show Calls Try.prog 25 #[rmv ⟨m', A3, c3⟩, rmv ⟨m', A4, c4⟩] U fun e w' => e = .returned (.bool true) ∧ Fr0 U w' from
    (one_calls ⟨m', A3, c3⟩ ⟨m', A4, c4⟩ U (HM5.out.keptB HDB5.out.b2 h) (HN5.out.keptB HDB5.out.b2 h)).mono fun e w' hh => by simpa using hh)
  go_region_held3 (fun U => (U.cell? ⟨q4, 0, none⟩ = some (.int .i64 most) ∧ U.cell? ⟨q4, 1, none⟩ = some (.int .i64 last) ∧ U.cell? ⟨q4, 2, none⟩ = some (.slice A5 L5.length c5)) ∧ (U.cell? ⟨q3, 0, none⟩ = some (.int .i64 m'.num) ∧ U.cell? ⟨q3, 1, none⟩ = some (.int .i64 m'.link) ∧ U.cell? ⟨q3, 2, none⟩ = some (.int .i64 m'.since) ∧ U.cell? ⟨q3, 3, none⟩ = some (.slice A3 m'.bytes.length c3)) ∧ (U.cell? ⟨q4 + 1, 0, none⟩ = some (.int .i64 m'.num) ∧ U.cell? ⟨q4 + 1, 1, none⟩ = some (.int .i64 m'.link) ∧ U.cell? ⟨q4 + 1, 2, none⟩ = some (.int .i64 m'.since) ∧ U.cell? ⟨q4 + 1, 3, none⟩ = some (.slice A4 m'.bytes.length c4)))
    (exact HK.out _ (by first | exact Fr0.any hfn | exact putP_fr (S := fun k => k = w.heap.size + 1 + 1) (w := w6) (Fr0.any hfn) (k := w.heap.size + 1 + 1) (fun _ => rfl) (m := most) (l := last) (A := A5) (n := L5.length) (c := c5) | exact (Fr.refl _ W5).drew))
    ((go_at_call 25; (with_reducible refine (HONE.out _ (Fr.refl _ W5).drew).mono ?_); rintro e w6 ⟨rfl, hf6⟩; have hfn : Fr0 W5 w6 := (Fr.refl _ W5).drew.trans hf6; obtain ⟨⟨y0, y1, y2⟩, f0, f1, f2⟩ := po_cells2 (hfn.blk HDB5.out.b2 (fun h => h))))
  have HEND := Lib.hid (does_end HLT.out HF.out (HF5.out.trans (Fr0.any hfn)) (HP5.out.kept hfn) (HLS5.out.kept hfn) rfl HLM.out (hfn.blk HDB5.out.b2 (fun h => h)))
  have HB6 := Lib.hid (putP_blk (hfn.blk HDB5.out.b2 (fun h => h)) most last A5 L5.length c5)
  clear hfn hf6 y0 y1 y2 f0 f1 f2
  go_wp2_with fail
  exact bodyPost_ret (results_row_tmp (p := 6) (u := 7) rfl _ _ (w.heap.size + 1 + 1) _ _ _ _ rfl HB6.out Try.underlying45 rfl (by kernel_rfl)) rfl HEND.out
set_option maxRecDepth 100000 in
set_option maxHeartbeats 4000000 in
theorem does_peek (w0 : World) (b : Nat) (v : Value) (K : Nat) (most last : Int) (ms : List Msg) (r : Ra) (w : World) (h : Du w0 w b v K most last ms) (hr : r.Ok w) (hk : r.a.kind = 2) (hK : K < 1000000) :
    Calls Try.prog 19 #[.pointer (some ⟨b, 0, none⟩), v, rav r] w (DoesPost w0 b (K + 1) most last ms w) := by
  have hlt := h.pw.lt
  obtain ⟨A, c, L, rfl, _, _⟩ := h.rp
  obtain ⟨hdb, hf, hs⟩ := doesW_b w (poc most last A L.length c) r
  have HDB := Lib.hid hdb
  have HF := Lib.hid hf
  have HS := Lib.hid hs
  have HDU := Lib.hid (h.kept hf)
  have HLM := Lib.hid (h.lim.succ hK)
  have HLT := Lib.hid hlt
  obtain ⟨⟨k0, k1, k2⟩, _⟩ := po_cells2 hdb.b0
  obtain ⟨a0, a1, a2, a3, a4⟩ := act_cells hdb.b1
  rw [hk] at a0
  have HPU := Lib.hid (pw_peek_any (h.pw.kept hf) r.a.pick hr.pick)
  have HRP := Lib.hid (fun U v' (hrp : Rp U v' most last ms) => rtake_any hrp r.a.pick hr.pick)
  clear h hr hf hdb hs hlt hk
  generalize hpf : takeF ms r.a.pick = pf at *
  obtain ⟨ms', m', err⟩ := pf
  clear hpf
  dsimp only at HPU HRP HLM
  unfold doesW at *
  go_enter Try.func19, Try.ntmps19
  go_upto_region 1 with fail
  generalize ((w.alloc (.cells #[.int .i64 most, .int .i64 last, .slice A L.length c] 45)).alloc (.cells #[.int .i64 r.a.kind, .int .i64 r.a.pick, .int .i64 r.a.bit, .int .i64 r.a.now, .slice r.A r.a.bytes.length r.c] 49)).alloc (.cells #[.int .i64 0, .int .i64 0, .slice none 0 0] 45) = W at *
  go_upto_region 8 with (go_at_call 14; refine HPU.out.mono ?_; rintro e w3 ⟨⟨A3, c3, rfl, hb3⟩, hpw3, hf3⟩)
  have hfa := (Fr.refl (fun _ => False) w3).alloc (.cells (rmc ⟨m', A3, c3⟩).toArray 31)
  have HDB3 := Lib.hid (((HDB.out.kept hf3 (fun k h1 h2 e => by have := HLT.out; omega))).kept hfa (fun _ _ _ h => h))
  have HP3 := Lib.hid (hpw3.kept hfa)
  have HF3 := Lib.hid (hf3.trans (Fr0.any hfa))
  have HRP3 := Lib.hid (HRP.out _ _ ((Rp.pool HDU.out.pw HDU.out.rp hf3).kept hfa))
  have HRW3 := Lib.hid ((Rp.pool HDU.out.pw HDU.out.rp hf3).kept hfa)
  have HX3 := Lib.hid (heap_alloc_new w3 (.cells (rmc ⟨m', A3, c3⟩).toArray 31))
  have HM3 := Lib.hid (hb3.kept hfa)
  have HQ3 := Lib.hid (show w.heap.size + 3 ≤ w3.heap.size from by have := hf3.size; have := HS.out; omega)
  clear hpw3 hf3 hfa hb3 HPU HRP k0 k1 k2 a0 a1 a2 a3 a4
  generalize w3.heap.size = q3 at *
  generalize w3.alloc (.cells #[.int .i64 m'.num, .int .i64 m'.link, .int .i64 m'.since, .slice A3 m'.bytes.length c3] 31) = W3 at *
  obtain ⟨⟨k0, k1, k2⟩, _⟩ := po_cells2 HDB3.out.b0
  obtain ⟨a0, a1, a2, a3, a4⟩ := act_cells HDB3.out.b1
  go_upto_region 9 with (go_at_call 34; refine HRP3.out.mono ?_; rintro e w4 ⟨⟨v', A4, c4, rfl, ⟨A5, c5, L5, rfl, _, _⟩, hb4⟩, hf4⟩)
  have hfb := ((Fr.refl (fun _ => False) w4).alloc (.cells (poc most last A5 L5.length c5) 45)).alloc (.cells (rmc ⟨m', A4, c4⟩).toArray 31)
  have HDB5 := Lib.hid (HDB3.out.kept (hf4.trans hfb) (fun _ _ _ h => h))
  obtain ⟨A6, c6, L6, heq6, hls6, hms6⟩ := HRW3.out.kept (hf4.trans hfb)
  obtain ⟨rfl, hL6, rfl⟩ : A = A6 ∧ L.length = L6.length ∧ c = c6 := by simpa using heq6
  have HL6 := Lib.hid hL6
  have HLS5 := Lib.hid hls6
  have HMS6 := Lib.hid hms6
  have HP5 := Lib.hid (HP3.out.kept (hf4.trans hfb))
  have HF5 := Lib.hid (HF3.out.trans (Fr0.any (hf4.trans hfb)))
  have HX5 := Lib.hid ((hf4.trans hfb).blk HX3.out (fun h => h))
  have HM5 := Lib.hid (HM3.out.kept (hf4.trans hfb))
  have HN5 := Lib.hid (hb4.kept hfb)
  have HY5 := Lib.hid (blk_alloc (heap_alloc_new w4 (.cells (poc most last A5 L5.length c5) 45)) (.cells (rmc ⟨m', A4, c4⟩).toArray 31))
  have HZ5 := Lib.hid (show ((w4.alloc (.cells (poc most last A5 L5.length c5) 45)).alloc (.cells (rmc ⟨m', A4, c4⟩).toArray 31)).heap[w4.heap.size + 1]? = some (.cells (rmc ⟨m', A4, c4⟩).toArray 31 (0, 0)) from heap_alloc_nn (by simp))
  have HQ4 := Lib.hid (show w.heap.size + 3 ≤ w4.heap.size by have h1 := hf4.size; have h2 := HQ3.out; have h3 := lt_of_block HDB3.out.b2; have h4 := lt_of_block HX3.out; omega)
  clear hls6 hms6 heq6 hL6 hf4 hb4 hfb k0 k1 k2 a0 a1 a2 a3 a4
  generalize w4.heap.size = q4 at *
  generalize (w4.alloc (.cells #[.int .i64 most, .int .i64 last, .slice A5 L5.length c5] 45)).alloc (.cells #[.int .i64 m'.num, .int .i64 m'.link, .int .i64 m'.since, .slice A4 m'.bytes.length c4] 31) = W5 at *
  have HK := Lib.hid (fun U (h : Fr (fun k => k = w.heap.size + 1 + 1) W5 U) => (show (U.cell? ⟨w.heap.size, 0, none⟩ = some (.int .i64 most) ∧ U.cell? ⟨w.heap.size, 1, none⟩ = some (.int .i64 last) ∧ U.cell? ⟨w.heap.size, 2, none⟩ = some (.slice A L.length c)) ∧ (U.cell? ⟨q3, 0, none⟩ = some (.int .i64 m'.num) ∧ U.cell? ⟨q3, 1, none⟩ = some (.int .i64 m'.link) ∧ U.cell? ⟨q3, 2, none⟩ = some (.int .i64 m'.since) ∧ U.cell? ⟨q3, 3, none⟩ = some (.slice A3 m'.bytes.length c3)) ∧ (U.cell? ⟨q4 + 1, 0, none⟩ = some (.int .i64 m'.num) ∧ U.cell? ⟨q4 + 1, 1, none⟩ = some (.int .i64 m'.link) ∧ U.cell? ⟨q4 + 1, 2, none⟩ = some (.int .i64 m'.since) ∧ U.cell? ⟨q4 + 1, 3, none⟩ = some (.slice A4 m'.bytes.length c4)) from
    ⟨(po_cells2 (h.blk HDB5.out.b0 (fun e => by omega))).1, (m_cells (h.blk HX5.out (fun e => by have := HQ3.out; omega))).1, (m_cells (h.blk HZ5.out (fun e => by have := HQ4.out; omega))).1⟩))
  have HONE := Lib.hid (fun U (h : Fr (fun k => k = w.heap.size + 1 + 1) W5 U) => show Calls Try.prog 25 #[rmv ⟨m', A3, c3⟩, rmv ⟨m', A4, c4⟩] U fun e w' => e = .returned (.bool true) ∧ Fr0 U w' from
    (one_calls ⟨m', A3, c3⟩ ⟨m', A4, c4⟩ U (HM5.out.keptB HDB5.out.b2 h) (HN5.out.keptB HDB5.out.b2 h)).mono fun e w' hh => by simpa using hh)
  go_region_held3 (fun U => (U.cell? ⟨w.heap.size, 0, none⟩ = some (.int .i64 most) ∧ U.cell? ⟨w.heap.size, 1, none⟩ = some (.int .i64 last) ∧ U.cell? ⟨w.heap.size, 2, none⟩ = some (.slice A L.length c)) ∧ (U.cell? ⟨q3, 0, none⟩ = some (.int .i64 m'.num) ∧ U.cell? ⟨q3, 1, none⟩ = some (.int .i64 m'.link) ∧ U.cell? ⟨q3, 2, none⟩ = some (.int .i64 m'.since) ∧ U.cell? ⟨q3, 3, none⟩ = some (.slice A3 m'.bytes.length c3)) ∧ (U.cell? ⟨q4 + 1, 0, none⟩ = some (.int .i64 m'.num) ∧ U.cell? ⟨q4 + 1, 1, none⟩ = some (.int .i64 m'.link) ∧ U.cell? ⟨q4 + 1, 2, none⟩ = some (.int .i64 m'.since) ∧ U.cell? ⟨q4 + 1, 3, none⟩ = some (.slice A4 m'.bytes.length c4)))
    (exact HK.out _ (by first | exact Fr0.any hfn | exact putP_fr (S := fun k => k = w.heap.size + 1 + 1) (w := w6) (Fr0.any hfn) (k := w.heap.size + 1 + 1) (fun _ => rfl) (m := most) (l := last) (A := A) (n := L.length) (c := c) | exact (Fr.refl _ W5).drew))
    ((go_at_call 25; (with_reducible refine (HONE.out _ (Fr.refl _ W5).drew).mono ?_); rintro e w6 ⟨rfl, hf6⟩; have hfn : Fr0 W5 w6 := (Fr.refl _ W5).drew.trans hf6; obtain ⟨⟨y0, y1, y2⟩, f0, f1, f2⟩ := po_cells2 (hfn.blk HDB5.out.b2 (fun h => h))))
  have HEND := Lib.hid (does_end HLT.out HF.out (HF5.out.trans (Fr0.any hfn)) (HP5.out.kept hfn) (HLS5.out.kept hfn) HMS6.out HLM.out (hfn.blk HDB5.out.b2 (fun h => h)))
  rw [← HL6.out] at HEND
  have HB6 := Lib.hid (putP_blk (hfn.blk HDB5.out.b2 (fun h => h)) most last A L.length c)
  clear hfn hf6 y0 y1 y2 f0 f1 f2
  go_wp2_with fail
  exact bodyPost_ret (results_row_tmp (p := 6) (u := 7) rfl _ _ (w.heap.size + 1 + 1) _ _ _ _ rfl HB6.out Try.underlying45 rfl (by kernel_rfl)) rfl HEND.out
set_option maxRecDepth 100000 in
set_option maxHeartbeats 2000000 in
theorem does_other (w0 : World) (b : Nat) (v : Value) (K : Nat) (most last : Int) (ms : List Msg) (r : Ra) (w : World) (h : Du w0 w b v K most last ms) (hk : r.a.kind ≠ 1 ∧ r.a.kind ≠ 2 ∧ r.a.kind ≠ 3 ∧ r.a.kind ≠ 4) (hK : K < 1000000) :
    Calls Try.prog 19 #[.pointer (some ⟨b, 0, none⟩), v, rav r] w (DoesPost w0 b (K + 1) most last ms w) := by
  have hlt := h.pw.lt
  obtain ⟨A, c, L, rfl, hls, hms⟩ := h.rp
  obtain ⟨hdb, hf, hs⟩ := doesW_b w (poc most last A L.length c) r
  have HDB := Lib.hid hdb
  have HF := Lib.hid hf
  have HP := Lib.hid (h.pw.kept hf)
  have HLS := Lib.hid (hls.kept hf)
  have HMS := Lib.hid hms
  have HLM := Lib.hid (h.lim.succ hK)
  have HLT := Lib.hid hlt
  obtain ⟨⟨k0, k1, k2⟩, _⟩ := po_cells2 hdb.b0
  obtain ⟨a0, a1, a2, a3, a4⟩ := act_cells hdb.b1
  obtain ⟨⟨y0, y1, y2⟩, f0, f1, f2⟩ := po_cells2 hdb.b2
  have hk1 : (r.a.kind == 1) = false := by simpa using hk.1
  have hk2 : (r.a.kind == 2) = false := by simpa using hk.2.1
  have hk3 : (r.a.kind == 3) = false := by simpa using hk.2.2.1
  have hk4 : (r.a.kind == 4) = false := by simpa using hk.2.2.2
  clear h hf hdb hs hlt hk hls hms
  unfold doesW at *
  go_enter Try.func19, Try.ntmps19
  go_upto_region 1 with fail
  generalize ((w.alloc (.cells #[.int .i64 most, .int .i64 last, .slice A L.length c] 45)).alloc (.cells #[.int .i64 r.a.kind, .int .i64 r.a.pick, .int .i64 r.a.bit, .int .i64 r.a.now, .slice r.A r.a.bytes.length r.c] 49)).alloc (.cells #[.int .i64 0, .int .i64 0, .slice none 0 0] 45) = W at *
  have HEND := Lib.hid (does_end HLT.out HF.out (Fr.refl _ W) HP.out HLS.out HMS.out HLM.out HDB.out.b2)
  have HB6 := Lib.hid (putP_blk HDB.out.b2 most last A L.length c)
  go_wp2_with fail
  exact bodyPost_ret (results_row_tmp (p := 6) (u := 7) rfl _ _ (w.heap.size + 1 + 1) _ _ _ _ rfl HB6.out Try.underlying45 rfl (by kernel_rfl)) rfl HEND.out
theorem does_any (w0 : World) (b : Nat) (v : Value) (K : Nat) (most : Int) (s : Int × List Msg) (r : Ra) (w : World) (h : Du w0 w b v K most s.1 s.2) (hr : r.Ok w) (hK : K < 1000000) :
    Calls Try.prog 19 #[.pointer (some ⟨b, 0, none⟩), v, rav r] w (DoesPost w0 b (K + 1) most (actF most s r.a).1 (actF most s r.a).2 w) := by
  unfold actF
  by_cases h1 : r.a.kind = 1
  · rw [if_pos h1]; exact does_put w0 b v K most s.1 s.2 r w h hr h1 hK
  · rw [if_neg h1]
    by_cases h3 : r.a.kind = 3
    · rw [if_pos h3]; exact does_take w0 b v K most s.1 s.2 r w h hr h3 hK
    · rw [if_neg h3]
      by_cases h4 : r.a.kind = 4
      · rw [if_pos h4]; exact does_bend w0 b v K most s.1 s.2 r w h hr h4 hK
      · rw [if_neg h4]
        by_cases h2 : r.a.kind = 2
        · exact does_peek w0 b v K most s.1 s.2 r w h hr h2 hK
        · exact does_other w0 b v K most s.1 s.2 r w h ⟨h1, h2, h3, h4⟩ hK
end Go.Proofs.Ytbhdkpcakjookaa
