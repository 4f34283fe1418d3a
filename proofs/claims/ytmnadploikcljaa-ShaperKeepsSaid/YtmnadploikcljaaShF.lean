/- Chapter 13: Go's refusals; Next; New. -/
import Derived.Test.YtmnadploikcljaaShE
set_option linter.unusedVariables false
set_option linter.unusedSimpArgs false
namespace Go.Proofs.Ytmnadploikcljaa
open Go.RowKit
attribute [local go_sem] Oper.semAt_some

theorem sgo_not (b m : Nat) (X : Sh) (now : Int) (w : World) (h : IsSh w b m X) (hm : ¬ X.B.may now) :
    Calls Try.prog 12 #[.pointer (some ⟨b, 0, none⟩), .int .i64 now] w (GoPost b m X now w) := by
  have HPOST := Lib.hid (show GoPost b m X now w = fun e w' => e = .returned (.tuple #[.slice none 0 0, .int .i64 2]) ∧ Fr0 w w' from by funext e w'; unfold GoPost; rw [if_neg hm])
  have HN := Lib.hid (snone_calls b m X w h)
  obtain ⟨A, c, h⟩ := h
  obtain ⟨k0, _, _⟩ := h.cells
  have hh := hasOf_calls h.ok.of m now w h.bk
  rw [show hasA X.B now = (0, 0, 2) from if_neg hm] at hh
  have HH := Lib.hid hh
  clear h hh hm
  go_enter Try.func12, Try.ntmps12
  go_wp2_with fail
  refine wp_scope_straight ?_
  go_wp2_with (first
    | (go_at_call 27; refine HN.out.mono ?_; rintro e w5 ⟨rfl, rfl⟩)
    | (go_at_call 30; refine HH.out.mono ?_; rintro e w5 ⟨rfl, hf5⟩))
  change bodyPost _ _ _ Exit.ret _ _
  go_ret2
  rw [HPOST.out]
  exact ⟨rfl, hf5⟩
theorem sgo_calls (b m : Nat) (X : Sh) (now : Int) (w : World) (h : IsSh w b m X) :
    Calls Try.prog 12 #[.pointer (some ⟨b, 0, none⟩), .int .i64 now] w (GoPost b m X now w) := by
  by_cases hm : X.B.may now
  · exact sgo_yes b m X now w h hm
  · exact sgo_not b m X now w h hm
theorem sgo_callsT (T : Nat → Prop) (b m : Nat) (X : Sh) (now : Int) (w : World) (h : IsShT T w b m X) :
    Calls Try.prog 12 #[.pointer (some ⟨b, 0, none⟩), .int .i64 now] w (GoPostT T b m X now w) := by
  by_cases hm : X.B.may now
  · exact sgo_yesT T b m X now w h hm
  · refine (sgo_not b m X now w h.sh hm).mono fun e w' q => ?_
    unfold GoPost at q
    unfold GoPostT
    rw [if_neg hm] at q ⊢
    exact q
theorem sgo_no (v : Value) (now : Int) (w : World) (h : NoSh w v) : Calls Try.prog 12 #[v, .int .i64 now] w fun e w' => e = .returned (.tuple #[.slice none 0 0, .int .i64 1]) ∧ w = w' := by
  have HN := Lib.hid (snone_no v w h)
  clear h
  go_enter Try.func12, Try.ntmps12
  go_wp2_with fail
  refine wp_scope_straight ?_
  go_wp2_with (first
    | (go_at_call 27; refine HN.out.mono ?_; rintro e w5 ⟨rfl, rfl⟩))
  simp only [Exit.noGoto]
  go_ret2
  exact ⟨rfl, rfl⟩
/-- What Next answers. -/
def nextA (X : Sh) : Int := X.B.whenT X.B.now (sz_ X.L 0)
theorem snext_none (b m : Nat) (X : Sh) (w : World) (h : IsSh w b m X) (hl : X.L = []) : Calls Try.prog 16 #[.pointer (some ⟨b, 0, none⟩)] w fun e w' => e = .returned (.tuple #[.int .i64 0, .bool false]) ∧ Fr0 w w' := by
  have HN := Lib.hid (snone_calls b m X w h)
  obtain ⟨A, c, h⟩ := h
  have c2 := h.cells.c2
  rw [hl] at c2
  clear h
  go_enter Try.func16, Try.ntmps16
  go_wp2_with (go_at_call 27; refine HN.out.mono ?_; rintro e w5 ⟨rfl, rfl⟩)
  go_ret2
  exact ⟨rfl, Fr.refl _ _⟩
theorem snext_no (v : Value) (w : World) (h : NoSh w v) : Calls Try.prog 16 #[v] w fun e w' => e = .returned (.tuple #[.int .i64 0, .bool false]) ∧ Fr0 w w' := by
  have HN := Lib.hid (snone_no v w h)
  clear h
  go_enter Try.func16, Try.ntmps16
  go_wp2_with (go_at_call 27; refine HN.out.mono ?_; rintro e w5 ⟨rfl, rfl⟩)
  go_ret2
  exact ⟨rfl, Fr.refl _ _⟩
set_option maxHeartbeats 4000000 in
theorem snext_some (b m : Nat) (X : Sh) (w : World) (h : IsSh w b m X) (hl : 0 < X.L.length) : Calls Try.prog 16 #[.pointer (some ⟨b, 0, none⟩)] w fun e w' => e = .returned (.tuple #[.int .i64 (nextA X), .bool true]) ∧ Fr0 w w' := by
  have HN := Lib.hid (snone_calls b m X w h)
  have HNA := Lib.hid (show nextA X = X.B.whenT X.B.now (sz_ X.L 0) from rfl)
  obtain ⟨A, c, h⟩ := h
  obtain ⟨c0, _, c2⟩ := h.cells
  have hrd := h.ls.rd
  obtain ⟨g, off, rfl⟩ := hrd.some_ (by rw [sends_length]; omega)
  obtain ⟨d0, d1⟩ := rdl_cells hrd 0 hl
  simp only [Nat.zero_mul, Nat.add_zero] at d0 d1
  have hmay : X.B.may X.B.now := ⟨Int.le_refl _, h.ok.of.now.2⟩
  have hsz : X.B.s.least ≤ sz_ X.L 0 ∧ sz_ X.L 0 ≤ X.B.s.most := by
    rw [h.ok.of.spec, sz_eq X.L 0 hl]
    exact h.ok.size _ (List.getElem_mem hl)
  have HW := Lib.hid (fun U (hf : Fr0 w U) => (show Calls Try.prog 35 #[.pointer (some ⟨m, 0, none⟩), .int .i64 X.B.now, .int .i64 (sz_ X.L 0)] U fun e w' => e = .returned (.tuple #[.int .i64 (X.B.whenT X.B.now (sz_ X.L 0)), .int .i64 0]) ∧ Fr0 U w' from by
    have := whenOf_calls h.ok.of m X.B.now (sz_ X.L 0) U (h.bk.kept0 hf)
    rw [show whA X.B X.B.now (sz_ X.L 0) = (X.B.whenT X.B.now (sz_ X.L 0), 0) from by unfold whA; rw [if_pos hmay, if_pos hsz]] at this
    exact this))
  have HNW := Lib.hid (fun U (hf : Fr0 w U) => now_calls m X.B U (h.bk.kept0 hf) h.ok.of.rate)
  have hq : ((X.L.length : Int) == 0) = false := by simp; intro e; rw [e] at hl; simp at hl
  have hi : (0 : Int) < (X.L.length : Int) := by omega
  replace c0 : w.drew.cell? ⟨b, 0, none⟩ = _ := c0
  have c2' : w.drew.cell? ⟨b, 2, none⟩ = _ := c2
  replace d1 : w.drew.cell? ⟨g, off + 1, none⟩ = _ := d1
  clear h hrd hmay hsz d0
  go_enter Try.func16, Try.ntmps16
  go_wp2_with (go_at_call 27; refine HN.out.mono ?_; rintro e w5 ⟨rfl, rfl⟩)
  go_region_law ((go_simp; first
    | (go_at_call 36; (with_reducible refine (HNW.out _ (Fr.refl _ w).drew).mono ?_); rintro e w3 ⟨rfl, rfl⟩)
    | (go_at_call 35; (with_reducible refine (HW.out _ (Fr.refl _ w).drew).mono ?_); rintro e w4 ⟨rfl, hf4⟩)))
  all_goals
    go_wp2_with fail
    go_ret2
    exact ⟨by rw [HNA.out]; rfl, (Fr.refl _ w).drew.trans hf4⟩
/-- New. -/
abbrev shNew (s : Sp) (room : Int) : Sh := ⟨s, [], bkNew s, room, []⟩
theorem sall3p_calls (a b d : Prop) [Decidable a] [Decidable b] [Decidable d] (e : Bool) (v : Bool) (h : (e && (decide b && decide d)) = v) (n : Nat) (w : World) (hn : w.heap.size = n) (t : TypeId) : Calls Try.prog 26 #[.slice (some ⟨n, 0, none⟩) 3 3] (w.alloc (.cells #[.bool e, .bool (decide b), .bool (decide d)] t)) fun x w' => x = .returned (.bool v) ∧ Fr0 (w.alloc (.cells #[.bool e, .bool (decide b), .bool (decide d)] t)) w' := by
  subst hn
  have h2 := sall3_calls e (decide b) (decide d) w t
  rw [h] at h2
  exact h2
end Go.Proofs.Ytmnadploikcljaa
