/- Chapter 24: Peek, Take. -/
import Derived.Test.YtbhdkpcakjookaaPoF
set_option linter.unusedVariables false
set_option linter.unusedSimpArgs false
namespace Go.Proofs.Ytbhdkpcakjookaa
open Go.RowKit
attribute [local go_sem] Oper.semAt_some

theorem results_row_tmp {P : Program} {fn : Func} {p u : Tmp} {ty : TypeId} (h : fn.results = #[.cell p ty, .tmp u]) (tmps : Array Value) (w : World) (g : Nat) (t : TypeId) (cs : Array Value) (fr : Nat × Nat) (d : TypeDesc)
    (hp : tmps.getD p undef = .pointer (some ⟨g, 0, none⟩)) (hg : w.heap[g]? = some (.cells cs t fr))
    (hu : P.underlying ty = some d) (hd : (match d with | .struct _ | .array _ _ => true | _ => false) = true) (hi : (P.info? ty).map (·.size) = some cs.size) :
    (results fn tmps).run P w = .ok (.tuple #[.agg cs, tmps.getD u undef]) w := by
  rw [results_cell_tmp h, hp]
  simp [asAddr, Result.andThen, run_loadVar_row w g t ty cs fr d hg hu hd hi]
/-- No message. -/
def msg0 : Msg := ⟨0, 0, 0, []⟩
abbrev rmz : Array Value := #[.int .i64 0, .int .i64 0, .int .i64 0, .slice none 0 0]
theorem putZ_blk {w : World} {k : Nat} {a b c : Int} {v : Value} {t : TypeId} (h : w.heap[k]? = some (.cells #[.int .i64 a, .int .i64 b, .int .i64 c, v] t (0, 0))) :
    ((((w.setCell ⟨k, 0, none⟩ (.int .i64 0)).setCell ⟨k, 1, none⟩ (.int .i64 0)).setCell ⟨k, 2, none⟩ (.int .i64 0)).setCell ⟨k, 3, none⟩ (.slice none 0 0)).heap[k]? = some (.cells rmz t (0, 0)) := by
  have := blk_setCell (blk_setCell (blk_setCell (blk_setCell h 0 (.int .i64 0)) 1 (.int .i64 0)) 2 (.int .i64 0)) 3 (.slice none 0 0)
  exact this
theorem putZ_fr {S : Nat → Prop} {a w : World} (h : Fr S a w) {k : Nat} (hb : k < a.heap.size → S k) : Fr S a ((((w.setCell ⟨k, 0, none⟩ (.int .i64 0)).setCell ⟨k, 1, none⟩ (.int .i64 0)).setCell ⟨k, 2, none⟩ (.int .i64 0)).setCell ⟨k, 3, none⟩ (.slice none 0 0)) :=
  (((h.setCell (p := ⟨k, 0, none⟩) hb _).setCell (p := ⟨k, 1, none⟩) hb _).setCell (p := ⟨k, 2, none⟩) hb _).setCell (p := ⟨k, 3, none⟩) hb _
/-- What Peek, Take and Bend answer; the pool behind it. -/
def TakePost (b : Nat) (most last : Int) (ms : List Msg) (m : Msg) (err : Int) (w : World) (e : Ending) (w' : World) : Prop :=
  (∃ A c, e = .returned (.tuple #[rmv ⟨m, A, c⟩, .int .i64 err]) ∧ w'.ownsRow w.heap.size 5 1 (.slice A m.bytes.length c) m.bytes.length (u8s m.bytes)) ∧ (∃ L', IsPool w' b most last L' ∧ msgs L' = ms) ∧ Fr (fun k => k = b) w w'
/-- The same of a pool that is not there. -/
def TakeNo (err : Int) (w : World) (e : Ending) (w' : World) : Prop := e = .returned (.tuple #[.agg rmz, .int .i64 err]) ∧ Fr0 w w'
theorem take_no_of {err : Int} {w w' : World} {e : Ending} {b : Nat} {most last : Int} {L : List Rm} (h : TakeNo err w e w') (hp : IsPool w b most last L) : TakePost b most last (msgs L) msg0 err w e w' :=
  ⟨⟨none, 0, h.1, own_nil _ _ _ _⟩, ⟨L, hp.kept h.2, rfl⟩, Fr0.any h.2⟩
theorem peek_no (v : Value) (p : Int) (w : World) (h : NoPo w v) : Calls Try.prog 14 #[v, .int .i64 p] w (TakeNo 1 w) := by
  have hf := (Fr.refl (fun _ => False) w).alloc (.cells rmz 31)
  have HP := Lib.hid (picks_no v p _ (h.kept hf))
  have HF := Lib.hid hf
  have HB := Lib.hid (heap_alloc_new w (.cells rmz 31))
  clear h hf
  go_enter Try.func14, Try.ntmps14
  go_wp2_with (go_at_call 30; refine HP.out.mono ?_; rintro e w5 ⟨rfl, hf5⟩; obtain ⟨⟨z0, z1, z2, z3⟩, f0, f1, f2, f3⟩ := m_cells (hf5.blk HB.out (fun h => h)))
  exact bodyPost_ret (results_row_tmp rfl _ _ w.heap.size _ _ _ _ rfl (putZ_blk (hf5.blk HB.out (fun h => h))) Try.underlying31 rfl (by kernel_rfl)) rfl ⟨rfl, putZ_fr (HF.out.trans hf5) (k := w.heap.size) (fun h => absurd h (Nat.lt_irrefl _))⟩
theorem peek_empty (b : Nat) (most last : Int) (p : Int) (w : World) (h : IsPool w b most last []) : Calls Try.prog 14 #[.pointer (some ⟨b, 0, none⟩), .int .i64 p] w (TakeNo 5 w) := by
  have hf := (Fr.refl (fun _ => False) w).alloc (.cells rmz 31)
  have HP := Lib.hid (picks_empty b most last p _ (h.kept hf))
  have HF := Lib.hid hf
  have HB := Lib.hid (heap_alloc_new w (.cells rmz 31))
  clear h hf
  go_enter Try.func14, Try.ntmps14
  go_wp2_with (go_at_call 30; refine HP.out.mono ?_; rintro e w5 ⟨rfl, hf5⟩; obtain ⟨⟨z0, z1, z2, z3⟩, f0, f1, f2, f3⟩ := m_cells (hf5.blk HB.out (fun h => h)))
  exact bodyPost_ret (results_row_tmp rfl _ _ w.heap.size _ _ _ _ rfl (putZ_blk (hf5.blk HB.out (fun h => h))) Try.underlying31 rfl (by kernel_rfl)) rfl ⟨rfl, putZ_fr (HF.out.trans hf5) (k := w.heap.size) (fun h => absurd h (Nat.lt_irrefl _))⟩
/-- What Peek tells; nothing that lay there turns. -/
def PeekPost (m : Msg) (err : Int) (w : World) (e : Ending) (w' : World) : Prop :=
  (∃ A c, e = .returned (.tuple #[rmv ⟨m, A, c⟩, .int .i64 err]) ∧ w'.ownsRow w.heap.size 5 1 (.slice A m.bytes.length c) m.bytes.length (u8s m.bytes)) ∧ Fr0 w w'
theorem peek_fr (b : Nat) (most last : Int) (L : List Rm) (p : Int) (w : World) (h : IsPool w b most last L) (hl : 0 < L.length) (hp : -9223372036854775808 ≤ p ∧ p ≤ 9223372036854775807) :
    Calls Try.prog 14 #[.pointer (some ⟨b, 0, none⟩), .int .i64 p] w (PeekPost (L[rnd p L.length]'(rnd_lt p _ hl)).m 0 w) := by
  have hf := (Fr.refl (fun _ => False) w).alloc (.cells rmz 31)
  have HP := Lib.hid (picks_calls b most last L p _ (h.kept hf) hl hp)
  have HF := Lib.hid hf
  have HB := Lib.hid (heap_alloc_new w (.cells rmz 31))
  have HI := Lib.hid h
  have hr := rnd_lt p _ hl
  obtain ⟨A0, c0, hb, hls⟩ := h.ex
  obtain ⟨g, off, rfl⟩ := hls.rd.some_ (by rw [rms_length]; omega)
  have HK := Lib.hid (fun U (hf : Fr0 w U) => And.intro (po_cells (hf.blk hb (fun h => h))).1.2.2 (rd_rm (hls.rd.kept hf) _ hr))
  have HO := Lib.hid (fun U (hf : Fr0 w U) => own_calls (L[rnd p L.length]'hr) U ((hls.at_ _ hr).kept hf))
  have hi1 : (0 : Int) ≤ (rnd p L.length : Int) := by omega
  have hi2 : (rnd p L.length : Int) < (L.length : Int) := by omega
  clear h hf hb hls
  generalize L[rnd p L.length] = r at *
  generalize rnd p L.length = n at *
  go_enter Try.func14, Try.ntmps14
  go_wp2_with (first
    | (go_at_call 30; refine HP.out.mono ?_; rintro e w5 ⟨rfl, hf5⟩; have hfa := HF.out.trans hf5; obtain ⟨k2, d0, d1, d2, d3⟩ := HK.out _ hfa)
    | (go_at_call 31; refine (HO.out _ hfa).mono ?_; rintro e w6 ⟨⟨A6, c6, rfl, hown⟩, hf6⟩; have hb6 := (hf5.trans hf6).blk HB.out (fun h => h); obtain ⟨⟨z0, z1, z2, z3⟩, f0, f1, f2, f3⟩ := m_cells hb6))
  have hfE := putM_fr (S := fun _ => False) (hfa.trans hf6) (k := w.heap.size) (fun h => absurd h (Nat.lt_irrefl _)) ⟨r.m, A6, c6⟩
  refine bodyPost_ret (results_row_tmp rfl _ _ w.heap.size _ _ _ _ rfl (putM_blk hb6 ⟨r.m, A6, c6⟩) Try.underlying31 rfl (by kernel_rfl)) rfl ⟨⟨A6, c6, rfl, ?_⟩, hfE⟩
  have hs := hfa.size
  refine own_mono (own_kept hown (putM_fr (Fr.refl (fun k => k = w.heap.size) w6) (k := w.heap.size) (fun _ => rfl) ⟨r.m, A6, c6⟩) (fun k hk e => ?_)) hs
  have h1 := (own_blk hown hk).1
  have h2 := lt_of_block (hf5.blk HB.out (fun h => h))
  omega
theorem peek_ok (b : Nat) (most last : Int) (L : List Rm) (p : Int) (w : World) (h : IsPool w b most last L) (hl : 0 < L.length) (hp : -9223372036854775808 ≤ p ∧ p ≤ 9223372036854775807) :
    Calls Try.prog 14 #[.pointer (some ⟨b, 0, none⟩), .int .i64 p] w (TakePost b most last (msgs L) (L[rnd p L.length]'(rnd_lt p _ hl)).m 0 w) :=
  (peek_fr b most last L p w h hl hp).mono fun e w' ⟨h1, hf⟩ => ⟨h1, ⟨L, h.kept hf, rfl⟩, Fr0.any hf⟩
theorem ptake_no (v : Value) (p : Int) (w : World) (h : NoPo w v) : Calls Try.prog 13 #[v, .int .i64 p] w (TakeNo 1 w) := by
  have hf := (Fr.refl (fun _ => False) w).alloc (.cells rmz 31)
  have HP := Lib.hid (picks_no v p _ (h.kept hf))
  have HF := Lib.hid hf
  have HB := Lib.hid (heap_alloc_new w (.cells rmz 31))
  clear h hf
  go_enter Try.func13, Try.ntmps13
  go_wp2_with (go_at_call 30; refine HP.out.mono ?_; rintro e w5 ⟨rfl, hf5⟩; obtain ⟨⟨z0, z1, z2, z3⟩, f0, f1, f2, f3⟩ := m_cells (hf5.blk HB.out (fun h => h)))
  exact bodyPost_ret (results_row_tmp rfl _ _ w.heap.size _ _ _ _ rfl (putZ_blk (hf5.blk HB.out (fun h => h))) Try.underlying31 rfl (by kernel_rfl)) rfl ⟨rfl, putZ_fr (HF.out.trans hf5) (k := w.heap.size) (fun h => absurd h (Nat.lt_irrefl _))⟩
theorem ptake_empty (b : Nat) (most last : Int) (p : Int) (w : World) (h : IsPool w b most last []) : Calls Try.prog 13 #[.pointer (some ⟨b, 0, none⟩), .int .i64 p] w (TakeNo 5 w) := by
  have hf := (Fr.refl (fun _ => False) w).alloc (.cells rmz 31)
  have HP := Lib.hid (picks_empty b most last p _ (h.kept hf))
  have HF := Lib.hid hf
  have HB := Lib.hid (heap_alloc_new w (.cells rmz 31))
  clear h hf
  go_enter Try.func13, Try.ntmps13
  go_wp2_with (go_at_call 30; refine HP.out.mono ?_; rintro e w5 ⟨rfl, hf5⟩; obtain ⟨⟨z0, z1, z2, z3⟩, f0, f1, f2, f3⟩ := m_cells (hf5.blk HB.out (fun h => h)))
  exact bodyPost_ret (results_row_tmp rfl _ _ w.heap.size _ _ _ _ rfl (putZ_blk (hf5.blk HB.out (fun h => h))) Try.underlying31 rfl (by kernel_rfl)) rfl ⟨rfl, putZ_fr (HF.out.trans hf5) (k := w.heap.size) (fun h => absurd h (Nat.lt_irrefl _))⟩
theorem msgs_without (L : List Rm) (n : Nat) : msgs (without L n) = (msgs L).take n ++ (msgs L).drop (n + 1) := by
  simp [msgs, without, List.map_take, List.map_drop]
set_option maxHeartbeats 1000000 in
theorem ptake_ok (b : Nat) (most last : Int) (L : List Rm) (p : Int) (w : World) (h : IsPool w b most last L) (hl : 0 < L.length) (hp : -9223372036854775808 ≤ p ∧ p ≤ 9223372036854775807) :
    Calls Try.prog 13 #[.pointer (some ⟨b, 0, none⟩), .int .i64 p] w (TakePost b most last ((msgs L).take (rnd p L.length) ++ (msgs L).drop (rnd p L.length + 1)) (L[rnd p L.length]'(rnd_lt p _ hl)).m 0 w) := by
  have hf := (Fr.refl (fun _ => False) w).alloc (.cells rmz 31)
  have HP := Lib.hid (picks_calls b most last L p _ (h.kept hf) hl hp)
  have HF := Lib.hid hf
  have HB := Lib.hid (heap_alloc_new w (.cells rmz 31))
  have HM := Lib.hid h.most
  have hr := rnd_lt p _ hl
  rw [← msgs_without]
  obtain ⟨A0, c0, hb, hls⟩ := h.ex
  have hmL := hls.most
  obtain ⟨g, off, rfl⟩ := hls.rd.some_ (by rw [rms_length]; omega)
  have HK := Lib.hid (fun U (hf : Fr0 w U) => And.intro (po_cells (hf.blk hb (fun h => h))) (rd_rm (hls.rd.kept hf) _ hr))
  have HBB := Lib.hid hb
  have HLS := Lib.hid hls
  have HO := Lib.hid (fun U (hf : Fr (fun k => k = b) w U) => own_calls (L[rnd p L.length]'hr) U ((hls.at_ _ hr).keptB hb hf))
  have HW := Lib.hid (fun U (hf : Fr0 w U) => without_calls (some ⟨g, off, none⟩) c0 L (rnd p L.length) U (hls.kept hf) hr)
  have hi1 : (0 : Int) ≤ (rnd p L.length : Int) := by omega
  have hi2 : (rnd p L.length : Int) < (L.length : Int) := by omega
  clear h hf hb hls
  generalize L[rnd p L.length] = r at *
  generalize rnd p L.length = n at *
  go_enter Try.func13, Try.ntmps13
  go_wp2_with (first
    | (go_at_call 30; refine HP.out.mono ?_; rintro e w5 ⟨rfl, hf5⟩; have hfa := HF.out.trans hf5; obtain ⟨⟨⟨_, _, k2⟩, _⟩, d0, d1, d2, d3⟩ := HK.out _ hfa; obtain ⟨⟨⟨_, _, k3⟩, _⟩, _⟩ := HK.out _ (hfa.alloc (.cells (rmc r).toArray 31)))
    | (go_at_call 32; refine (HW.out _ (hfa.alloc (.cells (rmc r).toArray 31))).mono ?_; rintro e w6 ⟨⟨A6, c6, rfl, hown6, hls6⟩, hf6⟩; have hfb := (hfa.alloc (.cells (rmc r).toArray 31)).trans hf6; obtain ⟨⟨⟨_, _, k4⟩, _, _, k5⟩, _⟩ := HK.out _ hfb; have hx6 := hf6.blk (heap_alloc_new w5 (.cells (rmc r).toArray 31)) (fun h => h); obtain ⟨⟨x0, x1, x2, x3⟩, _⟩ := m_cells hx6; obtain ⟨⟨y0, y1, y2, y3⟩, _⟩ := m_cells (blk_setCell_other hx6 (p := ⟨b, 2, none⟩) (by have h1 := lt_of_block HBB.out; have h2 := hfa.size; show b ≠ w5.heap.size; omega) (.slice A6 (without L n).length c6)); have hfc := (Fr0.any (S := fun k => k = b) hfb).setCell (p := ⟨b, 2, none⟩) (fun _ => rfl) (.slice A6 (without L n).length c6))
    | (go_at_call 31; refine (HO.out _ hfc).mono ?_; rintro e w8 ⟨⟨A8, c8, rfl, hown⟩, hf8⟩; have hbz := hf8.blk (blk_setCell_other (hf6.blk (blk_alloc (hf5.blk HB.out (fun h => h)) (.cells (rmc r).toArray 31)) (fun h => h)) (p := ⟨b, 2, none⟩) (by have := lt_of_block HBB.out; show b ≠ w.heap.size; omega) (.slice A6 (without L n).length c6)) (fun h => h); obtain ⟨⟨z0, z1, z2, z3⟩, f0, f1, f2, f3⟩ := m_cells hbz))
  have hlb := lt_of_block HBB.out
  have hfd := hfc.trans (Fr0.any hf8)
  have hfE := putM_fr (S := fun k => k = b) hfd (k := w.heap.size) (fun h => absurd h (Nat.lt_irrefl _)) ⟨r.m, A8, c8⟩
  have hb6 := hfb.blk HBB.out (fun h => h)
  have hb7 := blk_setCell hb6 2 (.slice A6 (without L n).length c6)
  have hs5 := hfa.size
  have hrd : Rd (fun k => k = b ∨ k = w.heap.size) w6 A6 (rms (without L n)) := own_rd _ hown6 (fun k h1 _ e => by
    have h2 := lt_of_block (hf5.blk HB.out (fun h => h))
    simp at h1
    omega)
  have hfz := putM_fr (((Fr.refl (fun k => k = b ∨ k = w.heap.size) w6).setCell (p := ⟨b, 2, none⟩) (fun _ => .inl rfl) (.slice A6 (without L n).length c6)).trans (Fr0.any hf8)) (k := w.heap.size) (fun _ => .inr rfl) ⟨r.m, A8, c8⟩
  have hpE : IsPool (putM w8 w.heap.size ⟨r.m, A8, c8⟩) b most last (without L n) :=
    ⟨⟨A6, c6, (putM_fr (Fr.refl (fun k => k = w.heap.size) w8) (k := w.heap.size) (fun _ => rfl) ⟨r.m, A8, c8⟩).blk (hf8.blk hb7 (fun h => h)) (fun e => by omega),
      ⟨(hrd.kept hfz).mono (fun _ _ h => h.elim), fun r' hr' => BArg.keptB (HLS.out.ok r' (by
        unfold without at hr'
        rcases List.mem_append.1 hr' with h | h
        · exact List.mem_of_mem_take h
        · exact List.mem_of_mem_drop h)) HBB.out hfE, hls6.len, hls6.nil, hls6.most⟩⟩, HM.out⟩
  refine bodyPost_ret (results_row_tmp rfl _ _ w.heap.size _ _ _ _ rfl (putM_blk hbz ⟨r.m, A8, c8⟩) Try.underlying31 rfl (by kernel_rfl)) rfl ⟨⟨A8, c8, rfl, ?_⟩, ⟨without L n, hpE, rfl⟩, hfE⟩
  have hs := hfc.size
  refine own_mono (own_kept hown (putM_fr (Fr.refl (fun k => k = w.heap.size) w8) (k := w.heap.size) (fun _ => rfl) ⟨r.m, A8, c8⟩) (fun k hk e => ?_)) hs
  have h1 := (own_blk hown hk).1
  have h2 := lt_of_block (hf5.blk HB.out (fun h => h))
  have h3 := hf6.size
  simp at h1 h3
  omega
end Go.Proofs.Ytbhdkpcakjookaa
