/- Chapter 24: the document's Take. -/
import Derived.Test.YtbhdkpcakjookaaPoM
import Derived.Test.YtbhdkpcakjookaaPoG
set_option linter.unusedVariables false
set_option linter.unusedSimpArgs false
namespace Go.Proofs.Ytbhdkpcakjookaa
open Go.RowKit
attribute [local go_sem] Oper.semAt_some

theorem IsLs.take {w : World} {b off c : Nat} {L : List Rm} (h : IsLs w (some ⟨b, off, none⟩) c L) (n : Nat) (hn : n ≤ L.length) : IsLs w (some ⟨b, off, none⟩) c (L.take n) := by
  have hlen := h.len
  have hm := h.most
  refine ⟨?_, fun r hr => h.ok r (List.mem_of_mem_take hr), (by simp; omega), (fun e => by first | (cases e; done) | (split at e <;> cases e)), (by simp; omega)⟩
  rcases h.rd with h | ⟨g, o, e, hs, h⟩
  · have := rms_length L; rw [h] at this; obtain rfl : L = [] := List.length_eq_zero_iff.1 (by simp at this; omega); exact .inl (by simp [rms])
  · cases e
    refine .inr ⟨b, off, rfl, hs, fun i hi => ?_⟩
    have hi2 : i < (rms L).length := by rw [rms_length] at hi ⊢; simp at hi; omega
    rw [h i hi2]
    congr 1
    have : rms L = rms (L.take n) ++ rms (L.drop n) := by rw [← rms_append, List.take_append_drop]
    simp only [this, List.getElem_append_left hi]
abbrev dropA (b off c n : Nat) : Option Addr := if c = n + 1 then some ⟨b, off, none⟩ else some ⟨b, off + (n + 1) * 4, none⟩
theorem IsLs.drop {w : World} {b off c : Nat} {L : List Rm} (h : IsLs w (some ⟨b, off, none⟩) c L) (n : Nat) (hn : n < L.length) : IsLs w (dropA b off c n) (c - (n + 1)) (L.drop (n + 1)) := by
  have hlen := h.len
  have hm := h.most
  refine ⟨?_, fun r hr => h.ok r (List.mem_of_mem_drop hr), (by simp; omega), (fun e => by first | (cases e; done) | (unfold dropA at e; split at e <;> cases e)), (by simp; omega)⟩
  rcases Nat.eq_or_lt_of_le (show n + 1 ≤ L.length from hn) with he | he
  · have : L.drop (n + 1) = [] := List.drop_of_length_le (by omega)
    rw [this]
    exact .inl rfl
  · have hc : ¬ c = n + 1 := by omega
    rw [dropA, if_neg hc]
    rcases h.rd with h | ⟨g, o, e, hs, h⟩
    · have := rms_length L; rw [h] at this; simp at this; omega
    · cases e
      refine .inr ⟨b, _, rfl, hs, fun i hi => ?_⟩
      have hi2 : (n + 1) * 4 + i < (rms L).length := by rw [rms_length] at hi ⊢; simp at hi; omega
      rw [show off + (n + 1) * 4 + i = off + ((n + 1) * 4 + i) by omega, h _ hi2]
      congr 1
      have e1 : rms L = rms (L.take (n + 1)) ++ rms (L.drop (n + 1)) := by rw [← rms_append, List.take_append_drop]
      have e2 : (rms (L.take (n + 1))).length = (n + 1) * 4 := by rw [rms_length]; simp; omega
      simp only [e1]
      rw [List.getElem_append_right (by omega)]
      simp only [e2]
      congr 1
      omega
theorem results_rows_tmp {P : Program} {fn : Func} {p q v : Tmp} {ty tz : TypeId} (h : fn.results = #[.cell p ty, .cell q tz, .tmp v]) (tmps : Array Value) (w : World) (g k : Nat) (t s : TypeId) (cs ds : Array Value) (fr gr : Nat × Nat) (d d' : TypeDesc)
    (hp : tmps.getD p undef = .pointer (some ⟨g, 0, none⟩)) (hg : w.heap[g]? = some (.cells cs t fr)) (hq : tmps.getD q undef = .pointer (some ⟨k, 0, none⟩)) (hk : w.heap[k]? = some (.cells ds s gr))
    (hu : P.underlying ty = some d) (hd : (match d with | .struct _ | .array _ _ => true | _ => false) = true) (hi : (P.info? ty).map (·.size) = some cs.size)
    (hu' : P.underlying tz = some d') (hd' : (match d' with | .struct _ | .array _ _ => true | _ => false) = true) (hi' : (P.info? tz).map (·.size) = some ds.size) :
    (results fn tmps).run P w = .ok (.tuple #[.agg cs, .agg ds, tmps.getD v undef]) w := by
  have hp' : tmps[p]?.getD undef = .pointer (some ⟨g, 0, none⟩) := by simpa using hp
  have hq' : tmps[q]?.getD undef = .pointer (some ⟨k, 0, none⟩) := by simpa using hq
  simp [results, h, hp', hq', asAddr, run_loadVar_row w g t ty cs fr d hg hu hd hi, run_loadVar_row w k s tz ds gr d' hk hu' hd' hi', Sem.run_bind, Result.andThen]
abbrev rkW (w : World) (most last : Int) (A : Option Addr) (n c : Nat) : World := ((w.alloc (.cells (poc most last A n c) 45)).alloc (.cells (poc 0 0 none 0 0) 45)).alloc (.cells rmz 31)
theorem rk_blks (w : World) (most last : Int) (A : Option Addr) (n c : Nat) :
    (rkW w most last A n c).heap[w.heap.size]? = some (.cells (poc most last A n c) 45 (0, 0)) ∧
    (rkW w most last A n c).heap[w.heap.size + 1]? = some (.cells (poc 0 0 none 0 0) 45 (0, 0)) ∧
    (rkW w most last A n c).heap[w.heap.size + 1 + 1]? = some (.cells rmz 31 (0, 0)) ∧ Fr0 w (rkW w most last A n c) ∧ (rkW w most last A n c).heap.size = w.heap.size + 3 :=
  ⟨blk_alloc (blk_alloc (heap_alloc_new _ _) _) _, blk_alloc (heap_alloc_nn (by simp)) _, heap_alloc_nn (by simp), (((Fr.refl _ w).alloc _).alloc _).alloc _, by simp⟩
theorem putP_other {w : World} {b k : Nat} {o : Obj} (h : w.heap[b]? = some o) (hk : k ≠ b) (m l : Int) (A : Option Addr) (n c : Nat) : (putP w k m l A n c).heap[b]? = some o :=
  blk_setCell_other (blk_setCell_other (blk_setCell_other h (p := ⟨k, 0, none⟩) hk _) (p := ⟨k, 1, none⟩) hk _) (p := ⟨k, 2, none⟩) hk _
theorem putM_other {w : World} {b k : Nat} {o : Obj} (h : w.heap[b]? = some o) (hk : k ≠ b) (r : Rm) : (putM w k r).heap[b]? = some o :=
  blk_setCell_other (blk_setCell_other (blk_setCell_other (blk_setCell_other h (p := ⟨k, 0, none⟩) hk _) (p := ⟨k, 1, none⟩) hk _) (p := ⟨k, 2, none⟩) hk _) (p := ⟨k, 3, none⟩) hk _
/-- The two results stored, in either order. -/
theorem put2_blks {w : World} {p q : Nat} {m0 l0 : Int} {A0 : Option Addr} {n0 c0 : Nat} {t s : TypeId} {x y z : Int} {v : Value} (hp : w.heap[p]? = some (.cells (poc m0 l0 A0 n0 c0) t (0, 0))) (hq : w.heap[q]? = some (.cells #[.int .i64 x, .int .i64 y, .int .i64 z, v] s (0, 0))) (hne : p ≠ q) (m l : Int) (A : Option Addr) (n c : Nat) (r : Rm) :
    ((putM (putP w p m l A n c) q r).heap[p]? = some (.cells (poc m l A n c) t (0, 0)) ∧ (putM (putP w p m l A n c) q r).heap[q]? = some (.cells (rmc r).toArray s (0, 0))) ∧
    ((putP (putM w q r) p m l A n c).heap[p]? = some (.cells (poc m l A n c) t (0, 0)) ∧ (putP (putM w q r) p m l A n c).heap[q]? = some (.cells (rmc r).toArray s (0, 0))) :=
  ⟨⟨putM_other (putP_blk hp m l A n c) (Ne.symm hne) r, putM_blk (putP_other hq hne m l A n c) r⟩, ⟨putP_blk (putM_other hp (Ne.symm hne) r) m l A n c, putP_other (putM_blk hq r) hne m l A n c⟩⟩
def RtakeNo (most last : Int) (A : Option Addr) (n c : Nat) (w : World) (e : Ending) (w' : World) : Prop := e = .returned (.tuple #[pov most last A n c, .agg rmz, .int .i64 5]) ∧ Fr0 w w'
theorem rtake_empty (most last : Int) (A : Option Addr) (c : Nat) (p : Int) (w : World) :
    Calls Try.prog 34 #[pov most last A 0 c, .int .i64 p] w (RtakeNo most last A 0 c w) := by
  obtain ⟨h0, h1, h2, hf, hs⟩ := rk_blks w most last A 0 c
  have HB1 := Lib.hid h1
  have HB2 := Lib.hid h2
  have HF := Lib.hid hf
  obtain ⟨⟨k0, k1, k2⟩, g0, g1, g2⟩ := po_cells2 h0
  obtain ⟨⟨y0, y1, y2⟩, f0, f1, f2⟩ := po_cells2 h1
  obtain ⟨⟨z0, z1, z2, z3⟩, q0, q1, q2, q3⟩ := m_cells h2
  have HS := Lib.hid hs
  clear h0 h1 h2 hf hs
  unfold rkW at *
  go_enter Try.func34, Try.ntmps34
  go_upto_region 2 with fail
  generalize ((w.alloc (.cells #[.int .i64 most, .int .i64 last, .slice A 0 c] 45)).alloc (.cells #[.int .i64 0, .int .i64 0, .slice none 0 0] 45)).alloc (.cells #[.int .i64 0, .int .i64 0, .int .i64 0, .slice none 0 0] 31) = W at *
  go_wp2_with fail
  obtain ⟨⟨e1, e2⟩, _⟩ := put2_blks HB1.out HB2.out (by omega) most last A 0 c ⟨⟨0, 0, 0, []⟩, none, 0⟩
  exact bodyPost_ret (results_rows_tmp rfl _ _ (w.heap.size + 1) (w.heap.size + 1 + 1) _ _ _ _ _ _ _ _ rfl e1 rfl e2 Try.underlying45 rfl (by kernel_rfl) Try.underlying31 rfl (by kernel_rfl)) rfl
    ⟨rfl, putM_fr (putP_fr HF.out (fun h => by omega)) (fun h => by omega) ⟨⟨0, 0, 0, []⟩, none, 0⟩⟩
def RtakeOk (most last : Int) (ms : List Msg) (m : Msg) (w : World) (e : Ending) (w' : World) : Prop :=
  (∃ L' A' c' r, e = .returned (.tuple #[pov most last A' L'.length c', rmv r, .int .i64 0]) ∧ IsLs w' A' c' L' ∧ msgs L' = ms ∧ r.m = m ∧ r.Ok w') ∧ Fr0 w w'
set_option maxHeartbeats 4000000 in
theorem rtake_ok (most last : Int) (A0 : Option Addr) (c0 : Nat) (L : List Rm) (p : Int) (w : World) (h : IsLs w A0 c0 L) (hl : 0 < L.length) (hp : -9223372036854775808 ≤ p ∧ p ≤ 9223372036854775807) :
    Calls Try.prog 34 #[pov most last A0 L.length c0, .int .i64 p] w (RtakeOk most last (msgs (without L (rnd p L.length))) (L[rnd p L.length]'(rnd_lt p _ hl)).m w) := by
  have hr := rnd_lt p _ hl
  have HRN := Lib.hid (fun w' => round_calls p L.length w' hl (by have := h.most; omega) hp)
  have hmL := h.most
  have hlc := h.len
  obtain ⟨b, off, rfl⟩ := h.rd.some_ (by rw [rms_length]; omega)
  have HT := Lib.hid (fun U (hf : Fr0 w U) => (h.take (rnd p L.length) (Nat.le_of_lt hr)).kept hf)
  have HD := Lib.hid (fun U (hf : Fr0 w U) => (h.drop (rnd p L.length) hr).kept hf)
  have HR := Lib.hid (fun U (hf : Fr0 w U) => rd_rm (h.rd.kept hf) _ hr)
  have HO := Lib.hid (fun U (hf : Fr0 w U) => (h.at_ _ hr).kept hf)
  have HL1 := Lib.hid (show (L.take (rnd p L.length)).length = rnd p L.length by simp; omega)
  have HL2 := Lib.hid (show (L.drop (rnd p L.length + 1)).length = L.length - (rnd p L.length + 1) by simp)
  have HOK := Lib.hid (fun U (hf : Fr0 w U) => (h.kept hf).ok)
  have HWO := Lib.hid (show without L (rnd p L.length) = L.take (rnd p L.length) ++ L.drop (rnd p L.length + 1) from rfl)
  generalize L[rnd p L.length] = r at *
  generalize rnd p L.length = n at *
  generalize hT : L.take n = LT at *
  generalize hDD : L.drop (n + 1) = LD at *
  have HMT := Lib.hid (show ∀ r ∈ LT ++ LD, r ∈ L from fun r hr => by
    rcases List.mem_append.1 hr with h | h
    · rw [← hT] at h; exact List.mem_of_mem_take h
    · rw [← hDD] at h; exact List.mem_of_mem_drop h)
  have hi1 : (0 : Int) ≤ (n : Int) := by omega
  have hi2 : (n : Int) < (L.length : Int) := by omega
  have hi3 : (n : Int) ≤ (c0 : Int) := by omega
  have hi4 : (n : Int) + 1 ≤ (L.length : Int) := by omega
  have hi5 : (L.length : Int) ≤ (c0 : Int) := by omega
  have hi6 : (0 : Int) ≤ (n : Int) + 1 := by omega
  have hne : ¬ (L.length = 0) := by omega
  have hw1 : IntKind.i64.wrap ((n : Int) + 1) = (n : Int) + 1 := by rw [IntKind.wrap_i64]; omega
  clear hT hDD
  obtain ⟨h0, h1, h2, hf, hs⟩ := rk_blks w most last (some ⟨b, off, none⟩) L.length c0
  have HB0 := Lib.hid h0
  have HB1 := Lib.hid h1
  have HB2 := Lib.hid h2
  have HF := Lib.hid hf
  have HS := Lib.hid hs
  obtain ⟨⟨k0, k1, k2⟩, g0, g1, g2⟩ := po_cells2 h0
  obtain ⟨d0, d1, d2, d3⟩ := HR.out _ hf
  clear h h0 h1 h2 hf hs
  unfold rkW at *
  go_enter Try.func34, Try.ntmps34
  go_upto_region 1 with fail
  generalize ((w.alloc (.cells #[.int .i64 most, .int .i64 last, .slice (some ⟨b, off, none⟩) L.length c0] 45)).alloc (.cells #[.int .i64 0, .int .i64 0, .slice none 0 0] 45)).alloc (.cells #[.int .i64 0, .int .i64 0, .int .i64 0, .slice none 0 0] 31) = W at *
  go_upto_region 5 with (go_at_call 42; refine (HRN.out _).mono ?_; rintro e w5 ⟨rfl, rfl⟩)
  have hfa := (Fr.refl (fun _ => False) W).alloc (.cells #[.int .i64 r.m.num, .int .i64 r.m.link, .int .i64 r.m.since, .slice r.A r.m.bytes.length r.c] 31)
  have HB3 := Lib.hid (heap_alloc_new W (.cells #[.int .i64 r.m.num, .int .i64 r.m.link, .int .i64 r.m.since, .slice r.A r.m.bytes.length r.c] 31))
  have HZ0 := Lib.hid (hfa.blk HB0.out (fun h => h))
  have HZ1 := Lib.hid (hfa.blk HB1.out (fun h => h))
  have HZ2 := Lib.hid (hfa.blk HB2.out (fun h => h))
  have HF4 := Lib.hid (HF.out.trans hfa)
  have HS4 := Lib.hid (show (W.alloc (.cells #[.int .i64 r.m.num, .int .i64 r.m.link, .int .i64 r.m.since, .slice r.A r.m.bytes.length r.c] 31)).heap.size = w.heap.size + 4 by simp [HS.out])
  have hWs : W.heap.size = w.heap.size + 1 + 1 + 1 := by rw [HS.out]
  rw [hWs] at HB3 ⊢
  clear hWs hfa k0 k1 k2 g0 g1 g2 d0 d1 d2 d3
  generalize hW4 : W.alloc (.cells #[.int .i64 r.m.num, .int .i64 r.m.link, .int .i64 r.m.since, .slice r.A r.m.bytes.length r.c] 31) = W4 at *
  clear hW4
  have HK := Lib.hid (fun U (hf : Fr0 W4 U) => po_cells2 (hf.blk HZ0.out (fun h => h)))
  have hwd := (Fr.refl (fun _ => False) W4).drew
  have HTL := Lib.hid (show (rms LT).length = n * 4 by rw [rms_length, HL1.out])
  have HDL := Lib.hid (show (rms LD).length = (L.length - (n + 1)) * 4 by rw [rms_length, HL2.out])
  obtain ⟨⟨k0, k1, k2⟩, g0, g1, g2⟩ := HK.out _ hwd
  go_region_law ((first
    | (refine step_app rfl (.const (.slice none 0 0)) (.tmp 28) _ rfl Try.underlying36 rm_elem (base := W4.heap.size) (.slice none 0 0) 0 [] rfl (own_nil _ _ _ _) (fun _ => False) (some ⟨b, off, none⟩) n c0 (rms LT) rfl ((HT.out _ HF4.out).rd.kept hwd) HTL.out (rms_one LT) (by simp only [maxLen]; omega) (by omega) (by simp) (fun e => by cases e) ?_; intro v5 w5 hown5 hg5 hat5; have hfb : Fr0 W4 w5 := hwd.grown hg5 (fun k _ e => by simp [Value.ownBlock] at e); obtain ⟨⟨k0, k1, k2⟩, g0, g1, g2⟩ := HK.out _ hfb)
    | (refine step_app rfl (.tmp 29) (.tmp 34) _ rfl Try.underlying36 rm_elem (base := W4.heap.size) v5 (0 + n) ([] ++ rms LT) rfl hown5 (fun _ => False) (dropA b off c0 n) (L.length - (n + 1)) (c0 - (n + 1)) (rms LD) rfl ((HD.out _ HF4.out).rd.kept hfb) HDL.out (rms_one LD) (by simp only [maxLen]; omega) (by omega) (by have := hfb.size; omega) (fun e => by exfalso; unfold dropA at e; split at e <;> cases e) ?_; intro v7 w7 hown7 hg7 hat7; have hb7 := blk_grown (hfb.blk HZ0.out (fun h => h)) hg7 (fun e => by have h1 := (own_blk hown5 e.symm).1; have h2 := HS4.out; omega); obtain ⟨⟨k0, k1, k2⟩, g0, g1, g2⟩ := po_cells2 hb7; obtain ⟨A7, c7, rfl, hc71, hc72⟩ := own_form hown7)))
  all_goals
    have hgr : Fr (fun k => v5.ownBlock = some k) w5 w7 := (Fr.refl _ w5).grown hg7 (fun k _ e => e)
    have hfW : Fr0 W4 w7 := hfb.then hgr (fun k hk e => by have h1 := (own_blk hown5 e).1; omega)
    rw [List.nil_append, ← rms_append] at hown7
    obtain ⟨hlen7, hls7⟩ := own_isls (L := LT ++ LD) hown7 (fun r' hr' => HOK.out _ (HF4.out.trans hfW) r' (HMT.out r' hr')) (by have h1 := HL1.out; have h2 := HL2.out; simp; omega)
    have hb8 := blk_setCell hb7 2 (.slice A7 (n + (L.length - (n + 1))) c7)
    have hne2 : w.heap.size ≠ w.heap.size + 1 := by omega
    have hne3 : w.heap.size ≠ w.heap.size + 1 + 1 := by omega
    have hne4 : w.heap.size ≠ w.heap.size + 1 + 1 + 1 := by omega
    have HY1 := Lib.hid (blk_setCell_other (hfW.blk HZ1.out (fun h => h)) (p := ⟨w.heap.size, 2, none⟩) hne2 (.slice A7 (n + (L.length - (n + 1))) c7))
    have HY2 := Lib.hid (blk_setCell_other (hfW.blk HZ2.out (fun h => h)) (p := ⟨w.heap.size, 2, none⟩) hne3 (.slice A7 (n + (L.length - (n + 1))) c7))
    have HY3 := Lib.hid (blk_setCell_other (hfW.blk HB3.out (fun h => h)) (p := ⟨w.heap.size, 2, none⟩) hne4 (.slice A7 (n + (L.length - (n + 1))) c7))
    have HLS8 := Lib.hid (hls7.keptB hb7 ((Fr.refl (fun k => k = w.heap.size) w7).setCell (p := ⟨w.heap.size, 2, none⟩) (fun _ => rfl) (.slice A7 (n + (L.length - (n + 1))) c7)))
    have HF8 := Lib.hid ((HF4.out.trans hfW).setCell (p := ⟨w.heap.size, 2, none⟩) (fun h => absurd h (Nat.lt_irrefl _)) (.slice A7 (n + (L.length - (n + 1))) c7))
    have HRD := Lib.hid (own_rd (fun k => k < W4.heap.size) hown7 (fun k h1 _ e => by have h3 : k < W4.heap.size := e; omega))
    have HI7 := Lib.hid hls7
    have HF78 := Lib.hid ((Fr.refl (fun k => k < W4.heap.size) w7).setCell (p := ⟨w.heap.size, 2, none⟩) (fun _ => by show w.heap.size < W4.heap.size; have := HS4.out; omega) (.slice A7 (n + (L.length - (n + 1))) c7))
    have HLN := Lib.hid (show n + (L.length - (n + 1)) = (LT ++ LD).length by rw [← hlen7, Nat.zero_add])
    clear hgr hfW hls7 hlen7 hown7 hg7 hat7 hown5 hg5 hat5 hfb hb7 k0 k1 k2 g0 g1 g2 hwd
    generalize w7.setCell ⟨w.heap.size, 2, none⟩ (.slice A7 (n + (L.length - (n + 1))) c7) = W8 at *
    obtain ⟨⟨k0, k1, k2⟩, _⟩ := po_cells2 ((Fr.refl (fun _ => False) W8).drew.blk hb8 (fun h => h))
    obtain ⟨⟨y0, y1, y2⟩, f0, f1, f2⟩ := po_cells2 ((Fr.refl (fun _ => False) W8).drew.blk HY1.out (fun h => h))
    obtain ⟨⟨x0, x1, x2, x3⟩, u0, u1, u2, u3⟩ := m_cells ((Fr.refl (fun _ => False) W8).drew.blk HY2.out (fun h => h))
    obtain ⟨⟨z0, z1, z2, z3⟩, _⟩ := m_cells ((Fr.refl (fun _ => False) W8).drew.blk HY3.out (fun h => h))
    obtain ⟨⟨q0, q1, q2⟩, _⟩ := po_cells2 hb8
    obtain ⟨⟨v0, v1, v2⟩, e0, e1, e2⟩ := po_cells2 HY1.out
    obtain ⟨⟨a0, a1, a2, a3⟩, b0, b1, b2, b3⟩ := m_cells HY2.out
    obtain ⟨⟨j0, j1, j2, j3⟩, _⟩ := m_cells HY3.out
    clear hb8
    generalize (if c0 = n + 1 then (some (⟨b, off, none⟩ : Addr)) else some ⟨b, off + (n + 1) * 4, none⟩) = AA
    go_wp2_with fail
    go_region
    all_goals
      go_wp2_with fail
      obtain ⟨⟨e1', e2'⟩, _⟩ := put2_blks HY1.out HY2.out (by omega) most last A7 (n + (L.length - (n + 1))) c7 r
      have hfE : Fr0 w (putM (putP W8 (w.heap.size + 1) most last A7 (n + (L.length - (n + 1))) c7) (w.heap.size + 1 + 1) r).drew := (putM_fr (putP_fr HF8.out (fun h => by omega)) (fun h => by omega) r).drew
      have hf7 : Fr (fun k => k < W4.heap.size) w7 (putM (putP W8 (w.heap.size + 1) most last A7 (n + (L.length - (n + 1))) c7) (w.heap.size + 1 + 1) r).drew := (putM_fr (putP_fr HF78.out (fun h => by have := HS4.out; omega)) (fun h => by have := HS4.out; omega) r).drew
      have e1d := blk_drew e1'
      have e2d := blk_drew e2'
      have hE : putM (putP W8 (w.heap.size + 1) most last A7 (n + (L.length - (n + 1))) c7) (w.heap.size + 1 + 1) r = ((((((W8.setCell ⟨w.heap.size + 1, 0, none⟩ (.int .i64 most)).setCell ⟨w.heap.size + 1, 1, none⟩ (.int .i64 last)).setCell ⟨w.heap.size + 1, 2, none⟩ (.slice A7 (n + (L.length - (n + 1))) c7)).setCell ⟨w.heap.size + 1 + 1, 0, none⟩ (.int .i64 r.m.num)).setCell ⟨w.heap.size + 1 + 1, 1, none⟩ (.int .i64 r.m.link)).setCell ⟨w.heap.size + 1 + 1, 2, none⟩ (.int .i64 r.m.since)).setCell ⟨w.heap.size + 1 + 1, 3, none⟩ (.slice r.A r.m.bytes.length r.c) := rfl
      rw [← hE]
      clear hE e1' e2'
      generalize (putM (putP W8 (w.heap.size + 1) most last A7 (n + (L.length - (n + 1))) c7) (w.heap.size + 1 + 1) r).drew = WF at *
      refine bodyPost_ret (results_rows_tmp rfl _ _ (w.heap.size + 1) (w.heap.size + 1 + 1) _ _ _ _ _ _ _ _ rfl e1d rfl e2d Try.underlying45 rfl (by kernel_rfl) Try.underlying31 rfl (by kernel_rfl)) rfl
        ⟨⟨LT ++ LD, A7, c7, r, by rw [← HLN.out]; rfl, ⟨(HRD.out.kept hf7).mono (fun _ _ h => h.elim), fun r' hr' => HOK.out _ hfE r' (HMT.out r' hr'), HI7.out.len, HI7.out.nil, HI7.out.most⟩, by rw [HWO.out], rfl, HO.out _ hfE⟩, hfE⟩
end Go.Proofs.Ytbhdkpcakjookaa
