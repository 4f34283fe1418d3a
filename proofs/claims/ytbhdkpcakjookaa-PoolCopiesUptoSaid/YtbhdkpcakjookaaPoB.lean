/- Chapter 24: the small functions. -/
import Derived.Test.YtbhdkpcakjookaaPoA
set_option linter.unusedVariables false
set_option linter.unusedSimpArgs false
namespace Go.Proofs.Ytbhdkpcakjookaa
open Go.RowKit
attribute [local go_sem] Oper.semAt_some

theorem pnone_calls (b : Nat) (most last : Int) (L : List Rm) (w : World) (h : IsPool w b most last L) : Calls Try.prog 27 #[.pointer (some ⟨b, 0, none⟩)] w fun e w' => e = .returned (.bool false) ∧ w = w' := by
  obtain ⟨A, c, hb, _⟩ := h.ex
  obtain ⟨⟨c0, _, _⟩, _⟩ := po_cells hb
  have hm : (most == 0) = false := by have := h.most; simp; omega
  clear h
  go_enter Try.func27, Try.ntmps27
  go_wp2_with fail
  go_ret
  exact ⟨rfl, rfl⟩
theorem pnone_no (v : Value) (w : World) (h : NoPo w v) : Calls Try.prog 27 #[v] w fun e w' => e = .returned (.bool true) ∧ w = w' := by
  rcases h with rfl | ⟨b, rfl, c0⟩
  · go_enter Try.func27, Try.ntmps27
    go_wp2_with fail
    go_ret
    exact ⟨rfl, rfl⟩
  · go_enter Try.func27, Try.ntmps27
    go_wp2_with fail
    go_ret
    exact ⟨rfl, rfl⟩
theorem pnew_calls (most : Int) (w : World) (h : 1 ≤ most ∧ most ≤ 4096) : Calls Try.prog 10 #[.int .i64 most] w fun e w' => (∃ b, e = .returned (.tuple #[.pointer (some ⟨b, 0, none⟩), .int .i64 0]) ∧ w.heap.size ≤ b ∧ IsPool w' b most 0 []) ∧ Fr0 w w' := by
  obtain ⟨h1, h2⟩ := h
  go_enter Try.func10, Try.ntmps10
  go_wp2_with fail
  go_ret2
  exact ⟨⟨_, rfl, Nat.le_refl _, ⟨none, 0, heap_alloc_new _ _, .nil_ _⟩, h1, h2⟩, (Fr.refl _ w).alloc _⟩
theorem pnew_no (most : Int) (w : World) (h : most < 1 ∨ 4096 < most) : Calls Try.prog 10 #[.int .i64 most] w fun e w' => e = .returned (.tuple #[.pointer none, .int .i64 2]) ∧ w = w' := by
  rcases h with h | h
  · go_enter Try.func10, Try.ntmps10
    go_wp2_with fail
    go_ret2
    exact ⟨rfl, rfl⟩
  · have h0 : ¬ most < 1 := by omega
    go_enter Try.func10, Try.ntmps10
    go_wp2_with fail
    go_ret2
    exact ⟨rfl, rfl⟩
theorem plen_calls (b : Nat) (most last : Int) (L : List Rm) (w : World) (h : IsPool w b most last L) : Calls Try.prog 17 #[.pointer (some ⟨b, 0, none⟩)] w fun e w' => e = .returned (.int .i64 L.length) ∧ w = w' := by
  have HN := Lib.hid (pnone_calls b most last L w h)
  obtain ⟨A, c, hb, _⟩ := h.ex
  obtain ⟨⟨_, _, c2⟩, _⟩ := po_cells hb
  clear h
  go_enter Try.func17, Try.ntmps17
  go_wp2_with (go_at_call 27; refine HN.out.mono ?_; rintro e w' ⟨rfl, rfl⟩)
  go_ret
  exact ⟨rfl, rfl⟩
theorem plen_no (v : Value) (w : World) (h : NoPo w v) : Calls Try.prog 17 #[v] w fun e w' => e = .returned (.int .i64 0) ∧ w = w' := by
  have HN := Lib.hid (pnone_no v w h)
  clear h
  go_enter Try.func17, Try.ntmps17
  go_wp2_with (go_at_call 27; refine HN.out.mono ?_; rintro e w' ⟨rfl, rfl⟩)
  go_ret
  exact ⟨rfl, rfl⟩
/-- Bytes, cloned: a row of its own. -/
theorem bclone_calls (A : Option Addr) (c : Nat) (bs : List UInt8) (w : World) (hb : BArg w A bs) :
    Calls Try.prog 29 #[.slice A bs.length c] w fun e w' => (∃ A' c', e = .returned (.slice A' bs.length c') ∧ w'.ownsRow w.heap.size 5 1 (.slice A' bs.length c') bs.length (u8s bs)) ∧ Fr0 w w' := by
  obtain ⟨hR, hA, hl⟩ := hb
  have hln : (u8s bs).length = bs.length * 1 := by rw [u8s_length, Nat.mul_one]
  cases A with
  | none =>
    obtain rfl := hA rfl
    have hq := fun w : World => Lib.run_eql_slice_nil (P := Try.prog) w 22 5 none 0 c 0 0 Try.underlying22
    clear hR hA hl hln
    go_enter Try.func29, Try.ntmps29
    go_wp2
    go_ret
    exact ⟨⟨none, 0, rfl, own_nil _ _ _ _⟩, Fr.refl _ _⟩
  | some a =>
    have hq := fun w : World => Lib.run_eql_slice_nil (P := Try.prog) w 22 5 (some a) bs.length c 0 0 Try.underlying22
    have HR := Lib.hid hR
    have HL := Lib.hid hln
    clear hR hA hln
    go_enter Try.func29, Try.ntmps29
    go_wp2_with (at_builtin; refine wpList_app rfl (.tmp 5) (.tmp 6) _ rfl Try.underlying22 u8_elem (base := w.heap.size) (.slice (some ⟨w.heap.size, 0, none⟩) 0 0) 0 [] rfl (World.ownsRow_made w _ 0 (Nat.le_refl _) (by simp [maxLen]) rfl) (fun _ => False) (some a) bs.length c (u8s bs) rfl (HR.out.kept ((Fr.refl _ w).alloc _)) HL.out (u8s_one bs) (by simp only [maxLen]; omega) (by omega) (by simp) (by simp) ?_; intro v' w' hown hg hat)
    go_ret
    obtain ⟨A', c', rfl, _, _⟩ := own_form hown
    refine ⟨⟨A', c', by simp, by simpa using hown⟩, ((Fr.refl _ w).alloc _).grown hg (fun k hk e => ?_)⟩
    simp [Value.ownBlock] at e
    omega
/-- A message in memory of its own. -/
def OwnPost (r : Rm) (w : World) (e : Ending) (w' : World) : Prop := (∃ A c, e = .returned (rmv ⟨r.m, A, c⟩) ∧ w'.ownsRow w.heap.size 5 1 (.slice A r.m.bytes.length c) r.m.bytes.length (u8s r.m.bytes)) ∧ Fr0 w w'
theorem own_calls (r : Rm) (w : World) (h : r.Ok w) : Calls Try.prog 31 #[rmv r] w (OwnPost r w) := by
  have HB := Lib.hid (fun w' (hf : Fr0 w w') => bclone_calls r.A r.c r.m.bytes w' (h.kept hf))
  have HW := Lib.hid (((Fr.refl (fun _ => False) w).alloc (.cells (rmc r).toArray 31)).alloc (.cells #[.int .i64 0, .int .i64 0, .int .i64 0, .slice none 0 0] 31))
  have hX : ((w.alloc (.cells (rmc r).toArray 31)).alloc (.cells #[.int .i64 0, .int .i64 0, .int .i64 0, .slice none 0 0] 31)).heap[w.heap.size]? = some (.cells (rmc r).toArray 31 (0, 0)) := blk_alloc (heap_alloc_new _ _) _
  have hY : ((w.alloc (.cells (rmc r).toArray 31)).alloc (.cells #[.int .i64 0, .int .i64 0, .int .i64 0, .slice none 0 0] 31)).heap[w.heap.size + 1]? = some (.cells #[.int .i64 0, .int .i64 0, .int .i64 0, .slice none 0 0] 31 (0, 0)) := heap_alloc_nn (by simp)
  have HX := Lib.hid hX
  have HY := Lib.hid hY
  clear h hX hY
  go_enter Try.func31, Try.ntmps31
  go_wp2_with (go_at_call 29; refine (HB.out _ HW.out).mono ?_; rintro e w5 ⟨⟨A', c', rfl, hown⟩, hf5⟩; have hx := hf5.blk HX.out (fun h => h); have hy := hf5.blk HY.out (fun h => h); obtain ⟨⟨x0, x1, x2, x3⟩, _, _, _, z3⟩ := m_cells hx; obtain ⟨⟨y0, y1, y2, y3⟩, f0, f1, f2, f3⟩ := m_cells hy)
  have hy' := blk_setCell_other hy (p := ⟨w.heap.size, 3, none⟩) (by simp) (.slice A' r.m.bytes.length c')
  refine bodyPost_ret (results_cell_row rfl _ _ (w.heap.size + 1) _ _ _ _ rfl (putM_blk hy' ⟨r.m, A', c'⟩) Try.underlying31 rfl (by kernel_rfl)) rfl ⟨⟨A', c', rfl, ?_⟩, ?_⟩
  · refine own_mono (own_kept hown (putM_fr ((Fr.refl (fun k => k = w.heap.size ∨ k = w.heap.size + 1) w5).setCell (p := ⟨w.heap.size, 3, none⟩) (fun _ => .inl rfl) _) (k := w.heap.size + 1) (fun _ => .inr rfl) ⟨r.m, A', c'⟩) (fun k hk e => ?_)) (by simp; omega)
    have := (own_blk hown hk).1
    simp at this
    omega
  · exact putM_fr ((HW.out.trans hf5).setCell (p := ⟨w.heap.size, 3, none⟩) (fun h => absurd h (Nat.lt_irrefl _)) _) (k := w.heap.size + 1) (fun h => by omega) ⟨r.m, A', c'⟩
theorem Msg.ext_iff' (a b : Msg) : a = b ↔ a.num = b.num ∧ a.link = b.link ∧ a.since = b.since ∧ a.bytes = b.bytes := by
  cases a; cases b; simp
/-- Two messages, compared: by the document. -/
theorem one_calls (r s : Rm) (w : World) (h : r.Ok w) (k : s.Ok w) : Calls Try.prog 25 #[rmv r, rmv s] w fun e w' => e = .returned (.bool (decide (r.m = s.m))) ∧ Fr0 w w' := by
  have hf := ((Fr.refl (fun _ => False) w).alloc (.cells (rmc r).toArray 31)).alloc (.cells (rmc s).toArray 31)
  have h1 := (h.kept hf).str r.c
  have h2 := (k.kept hf).str s.c
  have HF := Lib.hid hf
  have HE := Lib.hid (Msg.ext_iff' r.m s.m)
  clear h k hf
  by_cases e0 : r.m.num = s.m.num
  · have b0 : (r.m.num == s.m.num) = true := by simpa using e0
    by_cases e1 : r.m.link = s.m.link
    · have b1 : (r.m.link == s.m.link) = true := by simpa using e1
      by_cases e2 : r.m.since = s.m.since
      · have b2 : (r.m.since == s.m.since) = true := by simpa using e2
        have HQ := Lib.hid (show decide (r.m = s.m) = decide (r.m.bytes = s.m.bytes) from by rw [decide_eq_decide, HE.out]; exact ⟨fun h => h.2.2.2, fun h => ⟨e0, e1, e2, h⟩⟩)
        clear e0 e1 e2
        go_enter Try.func25, Try.ntmps25
        go_wp2_with fail
        go_ret
        rw [HQ.out, ← str_beq]
        exact ⟨rfl, HF.out⟩
      · have b2 : (r.m.since == s.m.since) = false := by simpa using e2
        have HQ := Lib.hid (show decide (r.m = s.m) = false from decide_eq_false (fun h => e2 (HE.out.1 h).2.2.1))
        clear e0 e1 e2
        go_enter Try.func25, Try.ntmps25
        go_wp2_with fail
        go_ret
        rw [HQ.out]
        exact ⟨rfl, HF.out⟩
    · have b1 : (r.m.link == s.m.link) = false := by simpa using e1
      have HQ := Lib.hid (show decide (r.m = s.m) = false from decide_eq_false (fun h => e1 (HE.out.1 h).2.1))
      clear e0 e1
      go_enter Try.func25, Try.ntmps25
      go_wp2_with fail
      go_ret
      rw [HQ.out]
      exact ⟨rfl, HF.out⟩
  · have b0 : (r.m.num == s.m.num) = false := by simpa using e0
    have HQ := Lib.hid (show decide (r.m = s.m) = false from decide_eq_false (fun h => e0 (HE.out.1 h).1))
    clear e0
    go_enter Try.func25, Try.ntmps25
    go_wp2_with fail
    go_ret
    rw [HQ.out]
    exact ⟨rfl, HF.out⟩
theorem bequal_calls (A B : Option Addr) (c d : Nat) (l m : List UInt8) (w : World) (h : BArg w A l) (k : BArg w B m) : Calls Try.prog 38 #[.slice A l.length c, .slice B m.length d] w fun e w' => e = .returned (.bool (decide (l = m))) ∧ w = w' := by
  have h1 := h.str c
  have h2 := k.str d
  clear h k
  go_enter Try.func38, Try.ntmps38
  go_wp2_with fail
  go_ret
  rw [← str_beq]
  exact ⟨rfl, rfl⟩
/-- Two messages, compared: by the pool. -/
theorem sameone_calls (r s : Rm) (w : World) (h : r.Ok w) (k : s.Ok w) : Calls Try.prog 37 #[rmv r, rmv s] w fun e w' => e = .returned (.bool (decide (r.m = s.m))) ∧ Fr0 w w' := by
  have hf := ((Fr.refl (fun _ => False) w).alloc (.cells (rmc r).toArray 31)).alloc (.cells (rmc s).toArray 31)
  have HBE := Lib.hid (bequal_calls r.A s.A r.c s.c r.m.bytes s.m.bytes _ (h.kept hf) (k.kept hf))
  have HF := Lib.hid hf
  have HE := Lib.hid (Msg.ext_iff' r.m s.m)
  clear h k hf
  by_cases e0 : r.m.num = s.m.num
  · have b0 : (r.m.num == s.m.num) = true := by simpa using e0
    by_cases e1 : r.m.link = s.m.link
    · have b1 : (r.m.link == s.m.link) = true := by simpa using e1
      by_cases e2 : r.m.since = s.m.since
      · have b2 : (r.m.since == s.m.since) = true := by simpa using e2
        have HQ := Lib.hid (show decide (r.m = s.m) = decide (r.m.bytes = s.m.bytes) from by rw [decide_eq_decide, HE.out]; exact ⟨fun h => h.2.2.2, fun h => ⟨e0, e1, e2, h⟩⟩)
        clear e0 e1 e2
        go_enter Try.func37, Try.ntmps37
        go_wp2_with (go_at_call 38; refine HBE.out.mono ?_; rintro e w' ⟨rfl, rfl⟩)
        go_ret
        rw [HQ.out]
        exact ⟨rfl, HF.out⟩
      · have b2 : (r.m.since == s.m.since) = false := by simpa using e2
        have HQ := Lib.hid (show decide (r.m = s.m) = false from decide_eq_false (fun h => e2 (HE.out.1 h).2.2.1))
        clear e0 e1 e2
        go_enter Try.func37, Try.ntmps37
        go_wp2_with fail
        go_ret
        rw [HQ.out]
        exact ⟨rfl, HF.out⟩
    · have b1 : (r.m.link == s.m.link) = false := by simpa using e1
      have HQ := Lib.hid (show decide (r.m = s.m) = false from decide_eq_false (fun h => e1 (HE.out.1 h).2.1))
      clear e0 e1
      go_enter Try.func37, Try.ntmps37
      go_wp2_with fail
      go_ret
      rw [HQ.out]
      exact ⟨rfl, HF.out⟩
  · have b0 : (r.m.num == s.m.num) = false := by simpa using e0
    have HQ := Lib.hid (show decide (r.m = s.m) = false from decide_eq_false (fun h => e0 (HE.out.1 h).1))
    clear e0
    go_enter Try.func37, Try.ntmps37
    go_wp2_with fail
    go_ret
    rw [HQ.out]
    exact ⟨rfl, HF.out⟩
theorem rmsgs_snoc (L M : List Rm) (k : Nat) (hk : k < L.length) (hm : k < M.length) (h : msgs (L.take k) = msgs (M.take k)) (e : L[k].m = M[k].m) : msgs (L.take (k + 1)) = msgs (M.take (k + 1)) := by
  rw [List.take_succ_eq_append_getElem hk, List.take_succ_eq_append_getElem hm]
  simp only [msgs, List.map_append, List.map_cons, List.map_nil] at h ⊢
  rw [h, e]
theorem msgs_ne (L M : List Rm) (k : Nat) (hk : k < L.length) (hm : k < M.length) (e : L[k].m ≠ M[k].m) : msgs L ≠ msgs M := fun h => e (by
  have h1 : (msgs L)[k]? = (msgs M)[k]? := by rw [h]
  simpa [msgs, hk, hm] using h1)
end Go.Proofs.Ytbhdkpcakjookaa
