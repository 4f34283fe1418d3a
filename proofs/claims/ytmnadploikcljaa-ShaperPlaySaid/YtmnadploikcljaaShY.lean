/- Chapter 13: the statement ShaperPlay walked. -/
import Derived.Test.YtmnadploikcljaaShT
import Derived.Test.YtmnadploikcljaaShP
import Derived.Test.YtmnadploikcljaaShX
import Derived.Test.YtmnadploikcljaaShZ
set_option linter.unusedVariables false
set_option linter.unusedSimpArgs false
namespace Go.Proofs.Ytmnadploikcljaa
open Go.RowKit
attribute [local go_sem] Oper.semAt_some

theorem step_rs {X X' : Sh} {k id z : Int} (h : StepX X k id z X') : X.rs.act k id z = X'.rs ∧ X'.s = X.s ∧ X'.t.length + X'.L.length ≤ X.t.length + X.L.length + 1 := by
  unfold StepX at h
  unfold Rs.act
  split at h
  · rename_i h1
    subst h
    rw [if_pos h1, rs_put]
    refine ⟨rfl, ?_, ?_⟩
    · unfold putX; split <;> rfl
    · unfold putX; split <;> simp <;> omega
  · rename_i h1
    rw [if_neg h1]
    split at h
    · rename_i h2
      obtain ⟨O, er, hg⟩ := h
      rw [if_pos h2]
      refine ⟨hg.rs.2.2, ?_, ?_⟩
      · unfold GoS at hg; split at hg
        · obtain ⟨_, _, B, _, rfl⟩ := hg; rfl
        · rw [hg.2.2]
      · unfold GoS at hg; split at hg
        · obtain ⟨_, _, B, _, rfl⟩ := hg
          simp only [goX, List.length_append, tag_length, List.length_take, List.length_drop]
          omega
        · rw [hg.2.2]; omega
    · rename_i h2
      rw [if_neg h2, h]
      exact ⟨rfl, rfl, by omega⟩
theorem acs_length (l : List (Int × Int × Int)) : (l.flatMap acL).length = l.length * 3 := by
  induction l with
  | nil => rfl
  | cons x l ih => simp [List.flatMap_cons, acL, ih]; omega
theorem acs_at : ∀ (l : List (Int × Int × Int)) (k : Nat) (h : k < l.length), (l.flatMap acL)[k * 3]? = some (.int .i64 l[k].1) ∧ (l.flatMap acL)[k * 3 + 1]? = some (.int .i64 l[k].2.1) ∧ (l.flatMap acL)[k * 3 + 2]? = some (.int .i64 l[k].2.2)
  | x :: l, 0, h => ⟨rfl, rfl, rfl⟩
  | x :: l, k + 1, h => by
    have ih := acs_at l k (by simpa using h)
    have e : ∀ j, ((x :: l).flatMap acL)[(k + 1) * 3 + j]? = (l.flatMap acL)[k * 3 + j]? := fun j => by
      rw [List.flatMap_cons, List.getElem?_append_right (by simp [acL]; omega)]
      congr 1
      simp [acL]; omega
    have e0 := e 0
    simp only [Nat.add_zero] at e0
    rw [e0, e 1, e 2]
    simpa using ih
theorem rd_ac {S : Nat → Prop} {w : World} {p off : Nat} {l : List (Int × Int × Int)} (h : Rd S w (some ⟨p, off, none⟩) (l.flatMap acL)) (k : Nat) (hk : k < l.length) :
    w.cell? ⟨p, off + k * 3, none⟩ = some (.int .i64 l[k].1) ∧ w.cell? ⟨p, off + k * 3 + 1, none⟩ = some (.int .i64 l[k].2.1) ∧ w.cell? ⟨p, off + k * 3 + 2, none⟩ = some (.int .i64 l[k].2.2) := by
  obtain ⟨e0, e1, e2⟩ := acs_at l k hk
  have key : ∀ j v, (l.flatMap acL)[j]? = some v → w.cell? ⟨p, off + j, none⟩ = some v := fun j v hj => by
    obtain ⟨hj1, rfl⟩ := List.getElem?_eq_some_iff.1 hj
    exact h.at_ j hj1
  exact ⟨key _ _ e0, key _ _ e1, key _ _ e2⟩
set_option maxRecDepth 100000 in
set_option maxHeartbeats 8000000 in
theorem play_walk (s : Sp) (room : Int) (A : Option Addr) (c : Nat) (l : List (Int × Int × Int)) (w : World) (hR : Rd (fun _ => False) w A (l.flatMap acL)) (hl : l.length ≤ 140737488351232) :
    Calls Try.prog 6 #[spv s, .int .i64 room, .slice A l.length c] w (Yes w) := by
  have HR := Lib.hid hR
  clear hR
  have HKN := Lib.hid known13_calls
  have HBS := Lib.hid (heap_alloc_new w (.cells (spc s) 23))
  have HF0 := Lib.hid ((Fr.refl (fun _ => False) w).alloc (.cells (spc s) 23))
  have hmx : Try.prog.follows .mixedOrders = true := by kernel_rfl
  obtain ⟨c0, c1, c2, c3, c4⟩ := sp_cells HBS.out
  by_cases h40 : 40 < l.length
  · have h40d : decide ((40 : Int) < (l.length : Int)) = true := decide_eq_true (by omega)
    go_enter Try.func6, Try.ntmps6
    go_wp2_with (go_at_call 9; refine (HKN.out _).mono ?_; rintro e w6 ⟨rfl, hf6⟩)
    go_ret
    exact ⟨rfl, HF0.out.trans hf6⟩
  have h40d : decide ((40 : Int) < (l.length : Int)) = false := decide_eq_false (by omega)
  have HRN := Lib.hid (rsnew_calls s room)
  by_cases hr : s.Right ∧ 0 ≤ room ∧ room ≤ 1000000000
  · rw [decide_eq_true hr] at HRN
    have HN := Lib.hid (snew_yes s room hr.1 hr.2)
    clear hr
    go_enter Try.func6, Try.ntmps6
    go_wp2_with (first
      | (go_at_call 10; refine (HN.out _).mono ?_; rintro e w2 ⟨⟨b, m, rfl, hb, hm, hx⟩, hf2⟩; have HF2 := Lib.hid (HF0.out.trans hf2); have HS2 := Lib.hid (hf2.blk HBS.out (fun h => h)); have HX2 := Lib.hid hx; have HBM := Lib.hid (show w.heap.size + 1 ≤ b ∧ w.heap.size + 1 ≤ m from (by simp at hb hm; exact ⟨hb, hm⟩)); clear hf2 hx hb hm c0 c1 c2 c3 c4; obtain ⟨c0, c1, c2, c3, c4⟩ := sp_cells HS2.out)
      | (go_at_call 19; refine (HRN.out _).mono ?_; rintro e w3 ⟨rfl, hf3⟩; have HF3 := Lib.hid (HF2.out.trans hf3); have HS3 := Lib.hid (hf3.blk HS2.out (fun h => h)); have HX3 := Lib.hid (HX2.out.kept0 hf3); clear hf3 c0 c1 c2 c3 c4))
    have HR9 := Lib.hid (heap_alloc_new w3 (.cells (rsc s none 0 0 0 room none 0 0) 51))
    have HF4 := Lib.hid (HF3.out.alloc (.cells (rsc s none 0 0 0 room none 0 0) 51))
    have HS4 := Lib.hid (blk_alloc HS3.out (.cells (rsc s none 0 0 0 room none 0 0) 51))
    have HX4 := Lib.hid (HX3.out.t0.mono (T' := fun q => q = w3.heap.size) (fun k hk e => by omega))
    have HX4 := Lib.hid (HX4.out.kept0 ((Fr.refl _ w3).alloc (.cells (rsc s none 0 0 0 room none 0 0) 51)))
    have HLT := Lib.hid (show b < w3.heap.size ∧ m < w3.heap.size ∧ w.heap.size + 1 ≤ w3.heap.size from ⟨HX3.out.lt.1, HX3.out.lt.2, lt_of_block HS3.out⟩)
    clear HN HRN HBS HF0
    generalize w3.alloc (.cells (rsc s none 0 0 0 room none 0 0) 51) = w4 at *
    generalize w3.heap.size = r9 at *
    go_loopw [11, 12, 13, 14] (fun s11 _ _ _ wr => ∃ (k : Nat) (X : Sh) (A1 : Option Addr) (k1 : Nat) (A2 : Option Addr) (k2 : Nat), k ≤ l.length ∧ s11 = .int .i64 (k : Int) ∧ X.t.length + X.L.length ≤ k ∧ Hid (X.s = s) ∧ Hid (IsShT (fun q => q = r9) wr b m X) ∧
      Hid (wr.heap[r9]? = some (.cells (rsc X.s A1 X.t.length k1 X.B.now X.room A2 X.L.length k2) 51 (0, 0))) ∧ Hid (IsRs wr (ShU (fun q => q = r9) b m) (rsv X.s A1 X.t.length k1 X.B.now X.room A2 X.L.length k2) X.rs) ∧ Hid (Fr (fun q => ShS b m q ∨ q = r9) w4 wr)) (fun s11 _ _ _ _ => l.length - (intOf s11).toNat)
    case atStart => exact ⟨0, shNew s room, none, 0, none, 0, Nat.zero_le _, rfl, by simp, rfl, HX4.out, HR9.out, ⟨none, 0, none, 0, rfl, Rd.nil _ _ _, Nat.le_refl 0, Rd.nil _ _ _, Nat.le_refl 0, by simp [maxLen]⟩, Fr.refl _ _⟩
    case round =>
      obtain ⟨k, X, A1, k1, A2, k2, hk, rfl, hXk, HXS, HX, HB9, HIR, HFR⟩ := hrel
      have HFW := Lib.hid (HF4.out.then HFR.out (fun i hi e => by have := HLT.out; have := HBM.out; rcases e with (e | e) | e <;> omega))
      by_cases hlt : k < l.length
      · have HRW := Lib.hid (HR.out.kept HFW.out)
        obtain ⟨p, off, rfl⟩ := HRW.out.some_ (by rw [acs_length]; omega)
        have hi1 : (0 : Int) ≤ (k : Int) := by omega
        have hi2 : (k : Int) < (l.length : Int) := by omega
        have HY := Lib.hid (fun U (h : Fr0 w U) => rd_ac (HR.out.kept h) k hlt)
        generalize l[k] = y at *
        have HKC := Lib.hid (fun U (h : Fr (ShS b m) wr U) => (show (U.cell? ⟨r9, 0, none⟩ = some (.int .i64 X.s.peak) ∧ U.cell? ⟨r9, 1, none⟩ = some (.int .i64 X.s.rate) ∧ U.cell? ⟨r9, 2, none⟩ = some (.int .i64 X.s.burst) ∧ U.cell? ⟨r9, 3, none⟩ = some (.int .i64 X.s.most) ∧ U.cell? ⟨r9, 4, none⟩ = some (.int .i64 X.s.least) ∧ U.cell? ⟨r9, 5, none⟩ = some (.slice A1 X.t.length k1) ∧ U.cell? ⟨r9, 6, none⟩ = some (.int .i64 X.B.now) ∧ U.cell? ⟨r9, 7, none⟩ = some (.int .i64 X.room) ∧ U.cell? ⟨r9, 8, none⟩ = some (.slice A2 X.L.length k2)) ∧ (U.cell? ⟨p, off + k * 3, none⟩ = some (.int .i64 y.1) ∧ U.cell? ⟨p, off + k * 3 + 1, none⟩ = some (.int .i64 y.2.1) ∧ U.cell? ⟨p, off + k * 3 + 2, none⟩ = some (.int .i64 y.2.2)) from by
          have hb := rs_cells (h.blk HB9.out (fun e => by have := HLT.out; rcases e with e | e <;> omega))
          exact ⟨⟨hb.x0, hb.x1, hb.x2, hb.x3, hb.x4, hb.x5, hb.x6, hb.x7, hb.x8⟩, HY.out U (HFW.out.then h (fun i hi e => by have := HBM.out; rcases e with e | e <;> omega))⟩))
        have HOK := Lib.hid (HX.out.sh.ok.rs (by omega))
        have HRR := Lib.hid (lt_of_block HB9.out)
        have HDO := Lib.hid (fun U (h : Fr0 wr U) => does_any (fun j => j = r9 ∨ (wr.heap.size ≤ j ∧ j < U.heap.size)) b m X (rsv X.s A1 X.t.length k1 X.B.now X.room A2 X.L.length k2) X.rs y.1 y.2.1 y.2.2 U
          (((HX.out.mono (T' := fun j => j = r9 ∨ wr.heap.size ≤ j) (fun k hk e => by rcases e with e | e; exact e; omega)).kept0 h).mono (fun k _ e => e.elim .inl (fun e => .inr e.1)))
          (((HIR.out.mono (T := ShU (fun j => j = r9 ∨ wr.heap.size ≤ j) b m) (fun k hk e => by rcases e with e | e | e; exact .inl e; exact .inr e; omega)).kept (Fr0.any h)).mono (fun k _ e => e.elim .inl (fun e => .inr (e.elim .inl (fun e => .inr e.1)))))
          HOK.out (fun k hk e => by have := HRR.out; have := h.size; rcases e with e | e <;> omega))
        go_wp2_with fail
        go_cut [12, 13, 14] (fun s12 _ s14 wx => ∃ (X' : Sh) (q : Nat) (A3 : Option Addr) (k3 : Nat) (A4 : Option Addr) (k4 : Nat), s12 = .pointer (some ⟨q, 0, none⟩) ∧ s14 = .bool true ∧ wr.heap.size ≤ q ∧ Hid (StepX X y.1 y.2.1 y.2.2 X') ∧ Hid (wx.heap[q]? = some (.cells (rsc X'.s A3 X'.t.length k3 X'.B.now X'.room A4 X'.L.length k4) 51 (0, 0))) ∧
          Hid (IsShT (fun j => j = r9) wx b m X') ∧ Hid (IsRs wx (ShU (fun j => j = r9) b m) (rsv X'.s A3 X'.t.length k3 X'.B.now X'.room A4 X'.L.length k4) X'.rs) ∧ Hid (Fr (ShS b m) wr wx))
        case first =>
          go_region_held3 (fun U => (U.cell? ⟨r9, 0, none⟩ = some (.int .i64 X.s.peak) ∧ U.cell? ⟨r9, 1, none⟩ = some (.int .i64 X.s.rate) ∧ U.cell? ⟨r9, 2, none⟩ = some (.int .i64 X.s.burst) ∧ U.cell? ⟨r9, 3, none⟩ = some (.int .i64 X.s.most) ∧ U.cell? ⟨r9, 4, none⟩ = some (.int .i64 X.s.least) ∧ U.cell? ⟨r9, 5, none⟩ = some (.slice A1 X.t.length k1) ∧ U.cell? ⟨r9, 6, none⟩ = some (.int .i64 X.B.now) ∧ U.cell? ⟨r9, 7, none⟩ = some (.int .i64 X.room) ∧ U.cell? ⟨r9, 8, none⟩ = some (.slice A2 X.L.length k2)) ∧ (U.cell? ⟨p, off + k * 3, none⟩ = some (.int .i64 y.1) ∧ U.cell? ⟨p, off + k * 3 + 1, none⟩ = some (.int .i64 y.2.1) ∧ U.cell? ⟨p, off + k * 3 + 2, none⟩ = some (.int .i64 y.2.2)))
            ((refine HKC.out _ ?_; with_reducible repeat (first | exact hfB | exact Fr.refl _ _ | refine Fr.drew ?_ | refine Fr.alloc ?_ _ | refine Fr.setCell ?_ (fun h => by exfalso; have hs := Fr.size hfB; dsimp only at h; omega) _)))
            ((go_at_call 17; refine (HDO.out _ (by with_reducible repeat (first | exact Fr.refl _ _ | refine Fr.drew ?_ | refine Fr.alloc ?_ _))).mono ?_; rintro e wA ⟨X', v', u, ok, rfl, hx', hst', hr', hok', hfA⟩; have hfB : Fr (ShS b m) wr wA := Fr.trans (by with_reducible repeat (first | exact Fr.refl _ _ | refine Fr.drew ?_ | refine Fr.alloc ?_ _)) hfA; obtain rfl := hok' rfl; obtain ⟨hs1, hs23⟩ := step_rs hst'; have HS23 := Lib.hid hs23; clear hs23; rw [hs1] at hr'; obtain ⟨A3, k3, A4, k4, hv, hrest⟩ := hr'.ex; clear hrest; have hv' : v' = rsv X'.s A3 X'.t.length k3 X'.B.now X'.room A4 X'.L.length k4 := hv; subst hv'; clear hv; try (have hzz : wA.heap[wr.heap.size]? = some (.cells rsz 51 (0, 0)) := hfA.blk (heap_alloc_new _ _) (fun e => by have h1 := HLT.out; have h2 := HRR.out; rcases e with e | e <;> omega); obtain ⟨x0, x1, x2, x3, x4, x5, x6, x7, x8⟩ := rs_cells hzz; obtain ⟨y0, y1, y2, y3, y4, y5, y6, y7, y8⟩ := rs_free hzz)))
          · have HX' := Lib.hid ((hx'.mono (T' := fun j => j = r9) (fun _ _ h => .inl h)).kept0 ((Fr.refl _ wA).alloc (.cells (rsc X'.s A3 X'.t.length k3 X'.B.now X'.room A4 X'.L.length k4) 51)))
            have HR' := Lib.hid ((hr'.mono (T := ShU (fun j => j = r9) b m) (fun _ _ h => h.elim .inl (fun h => .inr (.inl h)))).kept (Fr0.any ((Fr.refl _ wA).alloc (.cells (rsc X'.s A3 X'.t.length k3 X'.B.now X'.room A4 X'.L.length k4) 51))))
            have HY' := Lib.hid (heap_alloc_new wA (.cells (rsc X'.s A3 X'.t.length k3 X'.B.now X'.room A4 X'.L.length k4) 51))
            have HZ' := Lib.hid (hfB.alloc (.cells (rsc X'.s A3 X'.t.length k3 X'.B.now X'.room A4 X'.L.length k4) 51))
            clear hx' hr'
            go_wp2_with fail
            go_meet
            exact ⟨X', wA.heap.size, A3, k3, A4, k4, rfl, rfl, Fr.size hfB, hst', HY', HX', HR', HZ'⟩
          · have hP := putRs_fr (S := fun j => j = wr.heap.size) (Fr.refl _ wA) (b := wr.heap.size) (fun _ => rfl) X'.s A3 X'.t.length k3 X'.B.now X'.room A4 X'.L.length k4
            have e1 : wr.heap.size < (wr.drew.alloc (.cells rsz 51)).heap.size := by rw [World.size_alloc]; exact Nat.lt_succ_self _
            have hq' : ∀ j, j = wr.heap.size → (j = r9 ∨ (wr.heap.size ≤ j ∧ j < (wr.drew.alloc (.cells rsz 51)).heap.size)) := fun j e => .inr ⟨by omega, by rw [e]; exact e1⟩
            have hbm : b < wr.heap.size ∧ m < wr.heap.size := by have h1 := HLT.out; have h2 := HRR.out; omega
            have HX' := Lib.hid ((hx'.kept hP hq' (fun e => by omega) (fun e => by omega)).mono (T' := fun j => j = r9) (fun _ _ h => .inl h))
            have HR' := Lib.hid ((hr'.kept (hP.mono (fun j _ e => .inr (hq' j e)))).mono (T := ShU (fun j => j = r9) b m) (fun _ _ h => h.elim .inl (fun h => .inr (.inl h))))
            have HY' := Lib.hid (putRs_blk hzz X'.s A3 X'.t.length k3 X'.B.now X'.room A4 X'.L.length k4)
            have HZ' := Lib.hid (hfB.then hP (fun j hj e => by omega))
            clear hx' hr' hzz hP hq' e1
            generalize hch : (((((((((wA.setCell ⟨wr.heap.size, 0, none⟩ (.int .i64 X'.s.peak)).setCell ⟨wr.heap.size, 1, none⟩ (.int .i64 X'.s.rate)).setCell ⟨wr.heap.size, 2, none⟩ (.int .i64 X'.s.burst)).setCell ⟨wr.heap.size, 3, none⟩ (.int .i64 X'.s.most)).setCell ⟨wr.heap.size, 4, none⟩ (.int .i64 X'.s.least)).setCell ⟨wr.heap.size, 5, none⟩ (.slice A3 X'.t.length k3)).setCell ⟨wr.heap.size, 6, none⟩ (.int .i64 X'.B.now)).setCell ⟨wr.heap.size, 7, none⟩ (.int .i64 X'.room)).setCell ⟨wr.heap.size, 8, none⟩ (.slice A4 X'.L.length k4)) = Wf at *
            have hW : putRs wA wr.heap.size X'.s A3 X'.t.length k3 X'.B.now X'.room A4 X'.L.length k4 = Wf := hch
            rw [hW] at HX' HR' HY' HZ'
            clear hW hch x0 x1 x2 x3 x4 x5 x6 x7 x8 y0 y1 y2 y3 y4 y5 y6 y7 y8
            go_wp2_with fail
            go_meet
            exact ⟨X', wr.heap.size, A3, k3, A4, k4, rfl, rfl, Nat.le_refl _, hst', HY', HX', HR', HZ'⟩
        case rest =>
          obtain ⟨X', q, A3, k3, A4, k4, rfl, rfl, hq, HST, HBQ, HX', HR', HFc⟩ := hcut
          obtain ⟨hs1, hs23⟩ := step_rs HST.out
          have HS23 := Lib.hid hs23
          clear hs1 hs23
          have HSM := Lib.hid (fun U (h : Fr0 wc U) => same_yes b m X' (rsv X'.s A3 X'.t.length k3 X'.B.now X'.room A4 X'.L.length k4) U (HX'.out.sh.kept0 h) ((HR'.out.mono (T := ShS b m) (fun _ _ e => .inl e)).kept (Fr0.any h)) (by have := HS23.out.2; omega))
          have HB9c := Lib.hid (HFc.out.blk HB9.out (fun e => by have := HLT.out; rcases e with e | e <;> omega))
          have hqr : q ≠ r9 := by have := HRR.out; omega
          obtain ⟨c0, c1, c2_, c3, c4, c5, c6, c7, c8⟩ := rs_cells HBQ.out
          go_wp2_with (go_at_call 20; refine (HSM.out _ (Fr.refl _ _)).mono ?_; rintro e wS ⟨rfl, hfS⟩; have HBQS := Lib.hid (hfS.blk HBQ.out (fun h => h)); have HB9S := Lib.hid (hfS.blk HB9c.out (fun h => h)); have HFS := Lib.hid hfS; clear c0 c1 c2_ c3 c4 c5 c6 c7 c8 hfS; obtain ⟨c0, c1, c2_, c3, c4, c5, c6, c7, c8⟩ := rs_cells HBQS.out; obtain ⟨x0, x1, x2, x3, x4, x5, x6, x7, x8⟩ := rs_cells HB9S.out; obtain ⟨y0, y1, y2, y3, y4, y5, y6, y7, y8⟩ := rs_free HB9S.out)
          have hP := putRs_fr (S := fun j => j = r9) (Fr.refl _ wS) (b := r9) (fun _ => rfl) X'.s A3 X'.t.length k3 X'.B.now X'.room A4 X'.L.length k4
          have hB := putRs_blk HB9S.out X'.s A3 X'.t.length k3 X'.B.now X'.room A4 X'.L.length k4
          have HX6 := Lib.hid ((HX'.out.kept0 HFS.out).kept hP (fun j e => e) (fun e => by have := HLT.out; omega) (fun e => by have := HLT.out; omega))
          have HR6 := Lib.hid ((HR'.out.kept (Fr0.any HFS.out)).kept (hP.mono (T := ShU (fun j => j = r9) b m) (fun j _ e => .inr e)))
          have HF6 := Lib.hid ((HFR.out.trans (((HFc.out.mono (T := fun q => ShS b m q ∨ q = r9) (fun _ _ e => .inl e)).trans (Fr0.any HFS.out)))).trans (hP.mono (T := fun q => ShS b m q ∨ q = r9) (fun _ _ e => .inr e)))
          have HB6 := Lib.hid hB
          clear hP hB
          generalize hch : (((((((((wS.setCell ⟨r9, 0, none⟩ (.int .i64 X'.s.peak)).setCell ⟨r9, 1, none⟩ (.int .i64 X'.s.rate)).setCell ⟨r9, 2, none⟩ (.int .i64 X'.s.burst)).setCell ⟨r9, 3, none⟩ (.int .i64 X'.s.most)).setCell ⟨r9, 4, none⟩ (.int .i64 X'.s.least)).setCell ⟨r9, 5, none⟩ (.slice A3 X'.t.length k3)).setCell ⟨r9, 6, none⟩ (.int .i64 X'.B.now)).setCell ⟨r9, 7, none⟩ (.int .i64 X'.room)).setCell ⟨r9, 8, none⟩ (.slice A4 X'.L.length k4)) = Wf at *
          have hW : putRs wS r9 X'.s A3 X'.t.length k3 X'.B.now X'.room A4 X'.L.length k4 = Wf := hch
          rw [hW] at HX6 HR6 HF6 HB6
          clear hW hch x0 x1 x2 x3 x4 x5 x6 x7 x8 y0 y1 y2 y3 y4 y5 y6 y7 y8 c0 c1 c2_ c3 c4 c5 c6 c7 c8
          go_roundw
          case rel => exact ⟨k + 1, X', A3, k3, A4, k4, by omega, by go_num, by have := HS23.out.2; omega, HS23.out.1.trans HXS.out, HX6.out, HB6.out, HR6.out, HF6.out⟩
          case measure => simp [intOf]; omega
      · have hkl : k = l.length := by omega
        subst hkl
        have HSP := Lib.hid (fun U (h : Fr0 wr U) => sspec_calls b m X U (HX.out.sh.kept0 h))
        have HSW := Lib.hid (HFR.out.blk HS4.out (fun e => by have := HLT.out; have := HBM.out; rcases e with (e | e) | e <;> omega))
        have hxs := HXS.out
        rw [hxs] at HSP
        obtain ⟨c0, c1, c2, c3, c4⟩ := sp_cells HSW.out
        have r0 := cg_cell (W := wr) c0
        have r1 := cg_cell (W := wr) c1
        have r2 := cg_cell (W := wr) c2
        have r3 := cg_cell (W := wr) c3
        have r4 := cg_cell (W := wr) c4
        clear hxs
        go_wp2_with fail
        refine wp_region_cg hmx (by kernel_rfl) ?_
        repeat (first
          | go_big_quiet_step (fail)
          | go_big_quiet_step (first
            | (go_at_call 21; exact quiet_cg (HSP.out _ (Wx.fr _)))
            | (go_at_call 9; exact quiet_cg (HKN.out _))))
        refine wpQuiet_nil ?_
        intro w9 hf9
        go_wp2_with fail
        go_ret
        exact ⟨rfl, HFW.out.trans hf9⟩
  · rw [decide_eq_false hr] at HRN
    have HN := Lib.hid (snew_no s room hr)
    clear hr
    go_enter Try.func6, Try.ntmps6
    go_wp2_with (first
      | (go_at_call 10; refine (HN.out _).mono ?_; rintro e w2 ⟨rfl, hf2⟩; have HF2 := Lib.hid (HF0.out.trans hf2); have HS2 := Lib.hid (hf2.blk HBS.out (fun h => h)); clear hf2 c0 c1 c2 c3 c4; obtain ⟨c0, c1, c2, c3, c4⟩ := sp_cells HS2.out)
      | (go_at_call 19; refine (HRN.out _).mono ?_; rintro e w3 ⟨rfl, hf3⟩; have HF3 := Lib.hid ((HF2.out.trans hf3).alloc (.cells (rsc s none 0 0 0 room none 0 0) 51)); clear hf3)
      | (go_at_call 9; refine (HKN.out _).mono ?_; rintro e w6 ⟨rfl, hf6⟩))
    go_ret
    exact ⟨rfl, HF3.out.trans hf6⟩
end Go.Proofs.Ytmnadploikcljaa
