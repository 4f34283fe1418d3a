/- Chapter 24: Copy, Same. -/
import Derived.Test.YtbhdkpcakjookaaPoH
set_option linter.unusedVariables false
set_option linter.unusedSimpArgs false
namespace Go.Proofs.Ytbhdkpcakjookaa
open Go.RowKit
attribute [local go_sem] Oper.semAt_some

set_option maxHeartbeats 1000000 in
theorem pcopy_calls (b : Nat) (most last : Int) (L : List Rm) (w : World) (h : IsPool w b most last L) :
    Calls Try.prog 23 #[.pointer (some ⟨b, 0, none⟩)] w fun e w' => (∃ b', e = .returned (.pointer (some ⟨b', 0, none⟩)) ∧ w.heap.size ≤ b' ∧ IsPool w' b' most last L) ∧ Fr0 w w' := by
  have HN := Lib.hid (pnone_calls b most last L w h)
  have HM := Lib.hid h.most
  obtain ⟨A0, c0, hb, hls⟩ := h.ex
  have HK := Lib.hid (fun U (hf : Fr0 w U) => po_cells (hf.blk hb (fun h => h)))
  have HC := Lib.hid (fun U (hf : Fr0 w U) => lclone_calls A0 c0 L U (hls.kept hf))
  obtain ⟨⟨k0, k1, k2⟩, _⟩ := HK.out _ (Fr.refl _ w).drew
  clear h hb hls
  go_enter Try.func23, Try.ntmps23
  go_wp2_with (go_at_call 27; refine HN.out.mono ?_; rintro e w' ⟨rfl, rfl⟩)
  go_region_law ((go_simp; go_at_call 28; (with_reducible refine (HC.out _ (Fr.refl _ w).drew).mono ?_); rintro e w5 ⟨⟨A5, c5, rfl, hown5, hls5⟩, hf5⟩; have hfa := (Fr.refl _ w).drew.trans hf5; obtain ⟨⟨k0, k1, k2⟩, _⟩ := HK.out _ hfa))
  all_goals
    go_wp2_with fail
    go_ret
    have hs := hfa.size
    exact ⟨⟨_, rfl, hs, ⟨⟨A5, c5, heap_alloc_new _ _, hls5.kept ((Fr.refl _ w5).alloc _)⟩, HM.out⟩⟩, hfa.alloc _⟩
theorem pcopy_no (v : Value) (w : World) (h : NoPo w v) : Calls Try.prog 23 #[v] w fun e w' => e = .returned (.pointer none) ∧ w = w' := by
  have HN := Lib.hid (pnone_no v w h)
  clear h
  go_enter Try.func23, Try.ntmps23
  go_wp2_with (go_at_call 27; refine HN.out.mono ?_; rintro e w' ⟨rfl, rfl⟩)
  go_ret
  exact ⟨rfl, rfl⟩
/-- Two pools, compared. -/
def poSame (m1 l1 : Int) (L : List Rm) (m2 l2 : Int) (M : List Rm) : Bool := decide (m1 = m2 ∧ l1 = l2 ∧ msgs L = msgs M)
set_option maxHeartbeats 1000000 in
theorem psame_calls (b b2 : Nat) (m1 l1 m2 l2 : Int) (L M : List Rm) (w : World) (h : IsPool w b m1 l1 L) (k : IsPool w b2 m2 l2 M) :
    Calls Try.prog 26 #[.pointer (some ⟨b, 0, none⟩), .pointer (some ⟨b2, 0, none⟩)] w fun e w' => e = .returned (.bool (poSame m1 l1 L m2 l2 M)) ∧ Fr0 w w' := by
  have hmx : Try.prog.follows .mixedOrders = true := by kernel_rfl
  have HN := Lib.hid (pnone_calls b m1 l1 L w h)
  have HN2 := Lib.hid (pnone_calls b2 m2 l2 M w k)
  obtain ⟨A, c, hb, hls⟩ := h.ex
  obtain ⟨A2, c2, hb2, hls2⟩ := k.ex
  obtain ⟨⟨p0, p1, p2⟩, _⟩ := po_cells hb
  obtain ⟨⟨q0, q1, q2⟩, _⟩ := po_cells hb2
  have ra := cg_cell (W := w) p0
  have rb := cg_cell (W := w) p1
  have rc := cg_cell (W := w) p2
  have rd := cg_cell (W := w) q0
  have re := cg_cell (W := w) q1
  have rf := cg_cell (W := w) q2
  have HE := Lib.hid (fun U (hf : Fr0 w U) => eqfunc_calls A A2 c c2 L M U (hls.kept hf) (hls2.kept hf))
  clear h k hb hb2 hls hls2 p0 p1 p2 q0 q1 q2
  by_cases e0 : m1 = m2
  · by_cases e1 : l1 = l2
    · have b0 : (m1 == m2) = true := by simpa using e0
      have b1 : (l1 == l2) = true := by simpa using e1
      have HQ := Lib.hid (show poSame m1 l1 L m2 l2 M = decide (msgs L = msgs M) from by unfold poSame; rw [decide_eq_decide]; exact ⟨fun h => h.2.2, fun h => ⟨e0, e1, h⟩⟩)
      clear e0 e1
      go_enter Try.func26, Try.ntmps26
      go_wp2_with (go_at_call 27; first | ((with_reducible refine HN.out.mono ?_); rintro e w' ⟨rfl, rfl⟩) | ((with_reducible refine HN2.out.mono ?_); rintro e w' ⟨rfl, rfl⟩))
      refine wp_region_cg hmx (by kernel_rfl) ?_
      repeat (first
        | go_big_quiet_step (fail)
        | go_big_quiet_step (first | (go_at_call 39; exact quiet_cg (HE.out _ (Wx.fr _)))))
      refine wpQuiet_nil ?_
      intro w5 hf5
      go_wp2_with fail
      go_ret
      exact ⟨by rw [HQ.out]; rfl, hf5⟩
    · have b0 : (m1 == m2) = true := by simpa using e0
      have b1 : (l1 == l2) = false := by simpa using e1
      have HQ := Lib.hid (show poSame m1 l1 L m2 l2 M = false from decide_eq_false (fun h => e1 h.2.1))
      clear e0 e1
      go_enter Try.func26, Try.ntmps26
      go_wp2_with (go_at_call 27; first | ((with_reducible refine HN.out.mono ?_); rintro e w' ⟨rfl, rfl⟩) | ((with_reducible refine HN2.out.mono ?_); rintro e w' ⟨rfl, rfl⟩))
      refine wp_region_cg hmx (by kernel_rfl) ?_
      repeat (go_big_quiet_step (fail))
      refine wpQuiet_nil ?_
      intro w5 hf5
      go_wp2_with fail
      go_ret
      exact ⟨by rw [HQ.out]; rfl, hf5⟩
  · have b0 : (m1 == m2) = false := by simpa using e0
    have HQ := Lib.hid (show poSame m1 l1 L m2 l2 M = false from decide_eq_false (fun h => e0 h.1))
    clear e0
    go_enter Try.func26, Try.ntmps26
    go_wp2_with (go_at_call 27; first | ((with_reducible refine HN.out.mono ?_); rintro e w' ⟨rfl, rfl⟩) | ((with_reducible refine HN2.out.mono ?_); rintro e w' ⟨rfl, rfl⟩))
    refine wp_region_cg hmx (by kernel_rfl) ?_
    repeat (go_big_quiet_step (fail))
    refine wpQuiet_nil ?_
    intro w5 hf5
    go_wp2_with fail
    go_ret
    exact ⟨by rw [HQ.out]; rfl, hf5⟩
theorem psame_no (v u : Value) (w : World) (h : NoPo w v) (h2 : NoPo w u) : Calls Try.prog 26 #[v, u] w fun e w' => e = .returned (.bool true) ∧ w = w' := by
  have HN := Lib.hid (pnone_no v w h)
  have HN2 := Lib.hid (pnone_no u w h2)
  clear h h2
  go_enter Try.func26, Try.ntmps26
  go_wp2_with (go_at_call 27; first | ((with_reducible refine HN.out.mono ?_); rintro e w' ⟨rfl, rfl⟩) | ((with_reducible refine HN2.out.mono ?_); rintro e w' ⟨rfl, rfl⟩))
  go_ret
  exact ⟨rfl, rfl⟩
end Go.Proofs.Ytbhdkpcakjookaa
