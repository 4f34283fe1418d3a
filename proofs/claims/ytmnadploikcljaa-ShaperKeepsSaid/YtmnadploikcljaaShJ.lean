/- Chapter 13: Same of two shapers. -/
import Derived.Test.YtmnadploikcljaaShI
set_option linter.unusedVariables false
set_option linter.unusedSimpArgs false
namespace Go.Proofs.Ytmnadploikcljaa
open Go.RowKit
attribute [local go_sem] Oper.semAt_some

/-- Are two shapers the same? -/
def shSame (X Y : Sh) : Bool := decide (X.B = Y.B ∧ X.room = Y.room ∧ X.L = Y.L)
set_option maxHeartbeats 2000000 in
theorem ssame_calls (b m b2 m2 : Nat) (X Y : Sh) (w : World) (h : IsSh w b m X) (k : IsSh w b2 m2 Y) :
    Calls Try.prog 22 #[.pointer (some ⟨b, 0, none⟩), .pointer (some ⟨b2, 0, none⟩)] w fun e w' => e = .returned (.bool (shSame X Y)) ∧ Fr0 w w' := by
  have hmx : Try.prog.follows .mixedOrders = true := by kernel_rfl
  have HN := Lib.hid (snone_calls b m X w h)
  have HN2 := Lib.hid (snone_calls b2 m2 Y w k)
  obtain ⟨A, c, h⟩ := h
  obtain ⟨A2, c2, k⟩ := k
  obtain ⟨p0, p1, p2⟩ := h.cells
  obtain ⟨q0, q1, q2⟩ := k.cells
  have ra := cg_cell (W := w) p0
  have rb := cg_cell (W := w) p1
  have rc := cg_cell (W := w) p2
  have rd := cg_cell (W := w) q0
  have re := cg_cell (W := w) q1
  have rf := cg_cell (W := w) q2
  have hB0 := fun U (hf : Fr0 w U) => same_any m m2 X.B Y.B U (h.bk.kept0 hf) (k.bk.kept0 hf) h.ok.of.rate k.ok.of.rate
  have HE := Lib.hid (fun U (hf : Fr0 w U) => wequal_calls A A2 c c2 X.L Y.L U ((h.kept hf).ls.rd.mono (fun _ _ h => h.elim)) ((k.kept hf).ls.rd.mono (fun _ _ h => h.elim)) h.ok.len k.ok.len)
  have HS := Lib.hid (show shSame X Y = decide (X.B = Y.B ∧ X.room = Y.room ∧ X.L = Y.L) from rfl)
  clear h k p0 p1 p2 q0 q1 q2
  by_cases e0 : X.B = Y.B
  · by_cases e1 : X.room = Y.room
    · have b1 : (X.room == Y.room) = true := by simpa using e1
      have HQ := Lib.hid (show shSame X Y = decide (X.L = Y.L) from by rw [HS.out, decide_eq_decide]; exact ⟨fun h => h.2.2, fun h => ⟨e0, e1, h⟩⟩)
      simp only [decide_eq_true e0] at hB0
      have HB := Lib.hid hB0
      clear e0 e1 hB0
      go_enter Try.func22, Try.ntmps22
      go_wp2_with (go_at_call 27; first | ((with_reducible refine HN.out.mono ?_); rintro e w' ⟨rfl, rfl⟩) | ((with_reducible refine HN2.out.mono ?_); rintro e w' ⟨rfl, rfl⟩))
      refine wp_region_cg hmx (by kernel_rfl) ?_
      repeat (first
        | go_big_quiet_step (fail)
        | go_big_quiet_step (first | (go_at_call 42; exact quiet_cg (HB.out _ (Wx.fr _))) | (go_at_call 43; exact quiet_cg (HE.out _ (Wx.fr _)))))
      refine wpQuiet_nil ?_
      intro w5 hf5
      go_wp2_with fail
      go_ret
      exact ⟨by rw [HQ.out]; rfl, hf5⟩
    · have b1 : (X.room == Y.room) = false := by simpa using e1
      have HQ := Lib.hid (show shSame X Y = false from by rw [HS.out]; exact decide_eq_false (fun h => e1 h.2.1))
      simp only [decide_eq_true e0] at hB0
      have HB := Lib.hid hB0
      clear e0 e1 hB0
      go_enter Try.func22, Try.ntmps22
      go_wp2_with (go_at_call 27; first | ((with_reducible refine HN.out.mono ?_); rintro e w' ⟨rfl, rfl⟩) | ((with_reducible refine HN2.out.mono ?_); rintro e w' ⟨rfl, rfl⟩))
      refine wp_region_cg hmx (by kernel_rfl) ?_
      repeat (first
        | go_big_quiet_step (fail)
        | go_big_quiet_step (first | (go_at_call 42; exact quiet_cg (HB.out _ (Wx.fr _))) | (go_at_call 43; exact quiet_cg (HE.out _ (Wx.fr _)))))
      refine wpQuiet_nil ?_
      intro w5 hf5
      go_wp2_with fail
      go_ret
      exact ⟨by rw [HQ.out]; rfl, hf5⟩
  · have HQ := Lib.hid (show shSame X Y = false from by rw [HS.out]; exact decide_eq_false (fun h => e0 h.1))
    simp only [decide_eq_false e0] at hB0
    have HB := Lib.hid hB0
    clear e0 hB0
    go_enter Try.func22, Try.ntmps22
    go_wp2_with (go_at_call 27; first | ((with_reducible refine HN.out.mono ?_); rintro e w' ⟨rfl, rfl⟩) | ((with_reducible refine HN2.out.mono ?_); rintro e w' ⟨rfl, rfl⟩))
    refine wp_region_cg hmx (by kernel_rfl) ?_
    repeat (first
      | go_big_quiet_step (fail)
      | go_big_quiet_step (first | (go_at_call 42; exact quiet_cg (HB.out _ (Wx.fr _))) | (go_at_call 43; exact quiet_cg (HE.out _ (Wx.fr _)))))
    refine wpQuiet_nil ?_
    intro w5 hf5
    go_wp2_with fail
    go_ret
    exact ⟨by rw [HQ.out]; rfl, hf5⟩
end Go.Proofs.Ytmnadploikcljaa
