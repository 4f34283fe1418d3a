/- Chapter 15: slices.Equal, Same. -/
import Derived.Test.YtfiiikgjgcnjgaaFfL
set_option linter.unusedVariables false
set_option linter.unusedSimpArgs false
namespace Go.Proofs.Ytfiiikgjgcnjgaa
open Go.RowKit

theorem pk_ext {p q : Pk} (h : p = q) : p.id = q.id ∧ p.flow = q.flow ∧ p.size = q.size := by subst h; exact ⟨rfl, rfl, rfl⟩
theorem fequal_calls (A B : Option Addr) (c d : Nat) (l m : List Pk) (w : World) (hA : Rd (fun _ => False) w A (pks l)) (hB : Rd (fun _ => False) w B (pks m)) (hl : l.length ≤ 1000000) (hm : m.length ≤ 1000000) :
    Calls Try.prog 36 #[.slice A l.length c, .slice B m.length d] w fun e w' => e = .returned (.bool (decide (l = m))) ∧ Fr0 w w' := by
  have HA := Lib.hid hA
  have HB := Lib.hid hB
  clear hA hB
  by_cases hlen : l.length = m.length
  · have HLN := Lib.hid hlen
    have hq1 : ((l.length : Int) == (m.length : Int)) = true := by rw [hlen]; simp
    have hq2 : ((l.length : Int) != (m.length : Int)) = false := by rw [hlen]; simp
    clear hlen
    go_enter Try.func36, Try.ntmps36
    go_wp2_with fail
    go_loopw [5, 13] (fun j i wr => ∃ (k : Nat), k ≤ l.length ∧ i = .int .i64 (k : Int) ∧ Hid (l.take k = m.take k) ∧ Hid (Fr0 w wr)) (fun _ i _ => l.length - (intOf i).toNat)
    case atStart => exact ⟨0, by omega, rfl, by simp [Hid], Fr.refl _ _⟩
    case round =>
      obtain ⟨k, hk, rfl, HT, HF⟩ := hrel
      by_cases hlt : k < l.length
      · have hlt2 : k < m.length := by have := HLN.out; omega
        have hr := HA.out.kept HF.out
        have hs := HB.out.kept HF.out
        obtain ⟨b, off, rfl⟩ := hr.some_ (by rw [pks_length]; omega)
        obtain ⟨b2, off2, rfl⟩ := hs.some_ (by rw [pks_length]; omega)
        obtain ⟨d0, d1, d2⟩ := rd_pk hr k hlt
        obtain ⟨e0, e1, e2⟩ := rd_pk hs k hlt2
        have hi1 : (0 : Int) ≤ (k : Int) := by omega
        have hi2 : (k : Int) < (l.length : Int) := by omega
        have hi3 : (k : Int) < (m.length : Int) := by omega
        have HSN := Lib.hid (fun (h : l[k] = m[k]) => show l.take (k + 1) = m.take (k + 1) by rw [List.take_succ_eq_append_getElem hlt, List.take_succ_eq_append_getElem hlt2, HT.out, h])
        have HNE := Lib.hid (fun (h : l[k] ≠ m[k]) => show l ≠ m from fun e => h (by subst e; rfl))
        generalize l[k] = x at *
        generalize m[k] = y at *
        obtain ⟨x0, x1, x2⟩ := x
        obtain ⟨y0, y1, y2⟩ := y
        clear hr hs
        dsimp only at *
        by_cases h0 : x0 = y0
        · subst h0
          by_cases h1 : x1 = y1
          · subst h1
            by_cases h2 : x2 = y2
            · subst h2
              have HS := Lib.hid (HSN.out rfl)
              clear HSN HNE
              go_wp2_with fail
              go_quiet (fail)
              go_wp2_with fail
              go_roundw
              case rel => exact ⟨k + 1, by omega, by go_num, HS.out, HF.out.drewN nq⟩
              case measure => simp [intOf]; omega
            · have hq3 : (x2 == y2) = false := by simpa using h2
              have HS := Lib.hid (decide_eq_false (HNE.out (fun e => h2 (by injection e))))
              clear HSN HNE h2
              go_wp2_with fail
              go_quiet (fail)
              go_wp2_with fail
              go_ret
              exact ⟨by rw [HS.out]; rfl, HF.out.drewN nq⟩
          · have hq3 : (x1 == y1) = false := by simpa using h1
            have HS := Lib.hid (decide_eq_false (HNE.out (fun e => h1 (by injection e))))
            clear HSN HNE h1
            go_wp2_with fail
            go_quiet (fail)
            go_wp2_with fail
            go_ret
            exact ⟨by rw [HS.out]; rfl, HF.out.drewN nq⟩
        · have hq3 : (x0 == y0) = false := by simpa using h0
          have HS := Lib.hid (decide_eq_false (HNE.out (fun e => h0 (by injection e))))
          clear HSN HNE h0
          go_wp2_with fail
          go_quiet (fail)
          go_wp2_with fail
          go_ret
          exact ⟨by rw [HS.out]; rfl, HF.out.drewN nq⟩
      · have hkm : k = l.length := by omega
        subst hkm
        go_wp2_with fail
        go_ret
        have he : l = m := by have h1 := HT.out; have h2 := HLN.out; rw [h2, List.take_length, ← h2, List.take_length] at h1; exact h1
        exact ⟨by rw [decide_eq_true he]; rfl, HF.out⟩
  · have hq2 : ((l.length : Int) != (m.length : Int)) = true := by simp; omega
    have HNE := Lib.hid (decide_eq_false (fun e : l = m => hlen (by rw [e])))
    clear hlen
    go_enter Try.func36, Try.ntmps36
    go_wp2_with fail
    go_ret
    exact ⟨by rw [HNE.out]; rfl, Fr.refl _ _⟩

/-- Are two lines the same? -/
def lnSame (X Y : Ln) : Bool := decide (X.lp = Y.lp ∧ X.lb = Y.lb ∧ X.room = Y.room ∧ X.all = Y.all)
set_option maxHeartbeats 1000000 in
theorem fsame_calls (b g b2 g2 : Nat) (X Y : Ln) (w : World) (hX : IsLn w b g X) (hY : IsLn w b2 g2 Y) :
    Calls Try.prog 20 #[.pointer (some ⟨b, 0, none⟩), .pointer (some ⟨b2, 0, none⟩)] w fun e w' => e = .returned (.bool (lnSame X Y)) ∧ Fr0 w w' := by
  have HNX := Lib.hid (fnone_calls b g X w hX)
  have HNY := Lib.hid (fnone_calls b2 g2 Y w hY)
  obtain ⟨c, _, _, hbX⟩ := hX.blk
  obtain ⟨d, _, _, hbY⟩ := hY.blk
  obtain ⟨c0, c1, c2, c3, c4, c5, c6⟩ := ln_cells hbX
  obtain ⟨d0, d1, d2, d3, d4, d5, d6⟩ := ln_cells hbY
  have HAX := Lib.hid (fun w' (h : Fr0 w w') => fall_calls b g X w' (hX.kept0 h))
  have HAY := Lib.hid (fun w' (h : Fr0 w w') => fall_calls b2 g2 Y w' (hY.kept0 h))
  have HLX := Lib.hid (show X.all.length ≤ 1000000 by rw [X.all_length]; have := hX.ok.many; have := hX.max; omega)
  have HLY := Lib.hid (show Y.all.length ≤ 1000000 by rw [Y.all_length]; have := hY.ok.many; have := hY.max; omega)
  have HS := Lib.hid (show lnSame X Y = decide (X.lp = Y.lp ∧ X.lb = Y.lb ∧ X.room = Y.room ∧ X.all = Y.all) from rfl)
  clear hbX hbY hX hY c3 c4 c5 c6 d3 d4 d5 d6
  by_cases h0 : X.lp = Y.lp
  · by_cases h1 : X.lb = Y.lb
    · by_cases h2 : X.room = Y.room
      · have e0 : (X.lp == Y.lp) = true := by simpa using h0
        have e1 : (X.lb == Y.lb) = true := by simpa using h1
        have e2 : (X.room == Y.room) = true := by simpa using h2
        have hs : lnSame X Y = decide (X.all = Y.all) := by rw [HS.out]; simp [h0, h1, h2]
        have HS2 := Lib.hid hs
        clear h0 h1 h2 hs HS
        go_enter Try.func20, Try.ntmps20
        go_wp2_with (first
          | (go_at_call 28; (with_reducible refine HNX.out.mono ?_); rintro e w' ⟨rfl, rfl⟩)
          | (go_at_call 28; (with_reducible refine HNY.out.mono ?_); rintro e w' ⟨rfl, rfl⟩))
        have HK := Lib.hid (fun U (h : Fr0 w U) => (show U.cell? ⟨b, 0, none⟩ = some (.int .i64 X.lp) ∧ U.cell? ⟨b, 1, none⟩ = some (.int .i64 X.lb) ∧ U.cell? ⟨b, 2, none⟩ = some (.int .i64 X.room) ∧ U.cell? ⟨b2, 0, none⟩ = some (.int .i64 Y.lp) ∧ U.cell? ⟨b2, 1, none⟩ = some (.int .i64 Y.lb) ∧ U.cell? ⟨b2, 2, none⟩ = some (.int .i64 Y.room) from ⟨h.cell c0 (fun h => h), h.cell c1 (fun h => h), h.cell c2 (fun h => h), h.cell d0 (fun h => h), h.cell d1 (fun h => h), h.cell d2 (fun h => h)⟩))
        clear c0 c1 c2 d0 d1 d2
        go_region_held3 (fun U => U.cell? ⟨b, 0, none⟩ = some (.int .i64 X.lp) ∧ U.cell? ⟨b, 1, none⟩ = some (.int .i64 X.lb) ∧ U.cell? ⟨b, 2, none⟩ = some (.int .i64 X.room) ∧ U.cell? ⟨b2, 0, none⟩ = some (.int .i64 Y.lp) ∧ U.cell? ⟨b2, 1, none⟩ = some (.int .i64 Y.lb) ∧ U.cell? ⟨b2, 2, none⟩ = some (.int .i64 Y.room))
          (exact HK.out _ (by first | exact hfn5 | exact hfn4 | exact hfn3 | exact hfn2 | exact hfn1 | exact (Fr.refl _ w).drew))
          ((first
          | (go_at_call 19; (with_reducible refine (HAX.out _ (Fr.refl _ w).drew).mono ?_); rintro e wA ⟨⟨f, rfl, hq⟩, hfA⟩; have hfn1 : Fr0 w wA := (Fr.refl _ w).drew.trans hfA)
          | (go_at_call 30; (with_reducible refine (fcollect_calls _ f X.all wA hq HLX.out).mono ?_); rintro e wC ⟨⟨v, rfl, hown⟩, hfC⟩; have hfn2 : Fr0 w wC := hfn1.trans hfC)
          | (go_at_call 19; (with_reducible refine (HAY.out _ hfn2).mono ?_); rintro e wB ⟨⟨f2, rfl, hq2⟩, hfB⟩; have hfn3 : Fr0 w wB := hfn2.trans hfB; have hown3 := own_kept0 hown hfB)
          | (go_at_call 30; (with_reducible refine (fcollect_calls _ f2 Y.all wB hq2 HLY.out).mono ?_); rintro e wD ⟨⟨v2, rfl, hown2⟩, hfD⟩; have hfn4 : Fr0 w wD := hfn3.trans hfD; obtain ⟨A1, cA, rfl, hx1, hx2⟩ := own_form hown; obtain ⟨A2, cB, rfl, hx3, hx4⟩ := own_form hown2; have hown4 := own_kept0 hown3 hfD)
          | (go_at_call 36; (with_reducible refine (fequal_calls A1 A2 cA cB X.all Y.all wD (own_rd _ hown4 (fun _ _ _ h => h)) (own_rd _ hown2 (fun _ _ _ h => h)) HLX.out HLY.out).mono ?_); rintro e wE ⟨rfl, hfE⟩; have hfn5 : Fr0 w wE := hfn4.trans hfE)))
        all_goals
          go_wp2_with fail
          go_ret
          exact ⟨by rw [HS2.out]; rfl, hfn5⟩
      · have e0 : (X.lp == Y.lp) = true := by simpa using h0
        have e1 : (X.lb == Y.lb) = true := by simpa using h1
        have e2 : (X.room == Y.room) = false := by simpa using h2
        have hs : lnSame X Y = false := by rw [HS.out]; simp [h2]
        have HS2 := Lib.hid hs
        clear h0 h1 h2 hs HS
        go_enter Try.func20, Try.ntmps20
        go_wp2_with (first
          | (go_at_call 28; (with_reducible refine HNX.out.mono ?_); rintro e w' ⟨rfl, rfl⟩)
          | (go_at_call 28; (with_reducible refine HNY.out.mono ?_); rintro e w' ⟨rfl, rfl⟩))
        go_quiet (fail)
        go_wp2_with fail
        go_ret
        exact ⟨by rw [HS2.out]; rfl, (Fr.refl _ w).drewN nq⟩
    · have e0 : (X.lp == Y.lp) = true := by simpa using h0
      have e1 : (X.lb == Y.lb) = false := by simpa using h1
      have hs : lnSame X Y = false := by rw [HS.out]; simp [h1]
      have HS2 := Lib.hid hs
      clear h0 h1 hs HS
      go_enter Try.func20, Try.ntmps20
      go_wp2_with (first
        | (go_at_call 28; (with_reducible refine HNX.out.mono ?_); rintro e w' ⟨rfl, rfl⟩)
        | (go_at_call 28; (with_reducible refine HNY.out.mono ?_); rintro e w' ⟨rfl, rfl⟩))
      go_quiet (fail)
      go_wp2_with fail
      go_ret
      exact ⟨by rw [HS2.out]; rfl, (Fr.refl _ w).drewN nq⟩
  · have e0 : (X.lp == Y.lp) = false := by simpa using h0
    have hs : lnSame X Y = false := by rw [HS.out]; simp [h0]
    have HS2 := Lib.hid hs
    clear h0 hs HS
    go_enter Try.func20, Try.ntmps20
    go_wp2_with (first
      | (go_at_call 28; (with_reducible refine HNX.out.mono ?_); rintro e w' ⟨rfl, rfl⟩)
      | (go_at_call 28; (with_reducible refine HNY.out.mono ?_); rintro e w' ⟨rfl, rfl⟩))
    go_quiet (fail)
    go_wp2_with fail
    go_ret
    exact ⟨by rw [HS2.out]; rfl, (Fr.refl _ w).drewN nq⟩
theorem fsame_no (v u : Value) (w : World) (h : NoLn w v) (h2 : NoLn w u) : Calls Try.prog 20 #[v, u] w fun e w' => e = .returned (.bool true) ∧ w = w' := by
  have HN := Lib.hid (fnone_no v _ h)
  have HN2 := Lib.hid (fnone_no u _ h2)
  clear h h2
  go_enter Try.func20, Try.ntmps20
  go_wp2_with (first
    | (go_at_call 28; (with_reducible refine HN.out.mono ?_); rintro e w' ⟨rfl, rfl⟩)
    | (go_at_call 28; (with_reducible refine HN2.out.mono ?_); rintro e w' ⟨rfl, rfl⟩))
  go_ret
  exact ⟨rfl, rfl⟩
end Go.Proofs.Ytfiiikgjgcnjgaa
