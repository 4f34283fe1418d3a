/- Chapter 13: the statement ShaperCopies walked. Written by tools/gencopies.py. -/
import Derived.Test.YtmnadploikcljaaShYa
import Derived.Test.YtmnadploikcljaaShP
import Derived.Test.YtmnadploikcljaaShX
set_option linter.unusedVariables false
set_option linter.unusedSimpArgs false
namespace Go.Proofs.Ytmnadploikcljaa
open Go.RowKit
attribute [local go_sem] Oper.semAt_some

set_option maxRecDepth 100000 in
set_option maxHeartbeats 8000000 in
theorem copies_walk (s : Sp) (A : Option Addr) (c : Nat) (l : List (Int × Int × Int)) (A' : Option Addr) (c' : Nat) (l' : List (Int × Int × Int)) (w : World) (hR : Rd (fun _ => False) w A (l.flatMap acL)) (hl : l.length ≤ 140737488351232) (hR' : Rd (fun _ => False) w A' (l'.flatMap acL)) (hl' : l'.length ≤ 140737488351232) :
    Calls Try.prog 7 #[spv s, .slice A l.length c, .slice A' l'.length c'] w (Yes w) := by
  have HR := Lib.hid hR
  have HR' := Lib.hid hR'
  clear hR hR'
  have HKN := Lib.hid known13_calls
  have HBS := Lib.hid (heap_alloc_new w (.cells (spc s) 23))
  have HF0 := Lib.hid ((Fr.refl (fun _ => False) w).alloc (.cells (spc s) 23))
  have hmx : Try.prog.follows .mixedOrders = true := by kernel_rfl
  have hwr : IntKind.i64.wrap ((l.length : Int) + (l'.length : Int)) = (l.length : Int) + (l'.length : Int) := by rw [IntKind.wrap_i64]; omega
  obtain ⟨c0, c1, c2, c3, c4⟩ := sp_cells HBS.out
  by_cases h40 : 40 < l.length + l'.length
  · have h40d : decide ((40 : Int) < (l.length : Int) + (l'.length : Int)) = true := decide_eq_true (by omega)
    go_enter Try.func7, Try.ntmps7
    go_wp2_with (go_at_call 9; refine (HKN.out _).mono ?_; rintro e w6 ⟨rfl, hf6⟩)
    go_ret
    exact ⟨rfl, HF0.out.trans hf6⟩
  have h40d : decide ((40 : Int) < (l.length : Int) + (l'.length : Int)) = false := decide_eq_false (by omega)
  by_cases hr : s.Right
  · have HRN := Lib.hid (rsnew_calls s 5000)
    rw [decide_eq_true (show s.Right ∧ (0 : Int) ≤ 5000 ∧ (5000 : Int) ≤ 1000000000 from ⟨hr, by decide⟩)] at HRN
    have HN := Lib.hid (snew_yes s 5000 hr (by decide))
    clear hr
    go_enter Try.func7, Try.ntmps7
    go_wp2_with (first
      | (go_at_call 10; refine (HN.out _).mono ?_; rintro e w2 ⟨⟨b, m, rfl, hb, hm, hx⟩, hf2⟩; have HF2 := Lib.hid (HF0.out.trans hf2); have HS2 := Lib.hid (hf2.blk HBS.out (fun h => h)); have HX2 := Lib.hid hx; have HBM := Lib.hid (show w.heap.size + 1 ≤ b ∧ w.heap.size + 1 ≤ m from (by simp at hb hm; exact ⟨hb, hm⟩)); clear hf2 hx hb hm c0 c1 c2 c3 c4; obtain ⟨c0, c1, c2, c3, c4⟩ := sp_cells HS2.out)
      | (go_at_call 19; refine (HRN.out _).mono ?_; rintro e w3 ⟨rfl, hf3⟩; have HF3 := Lib.hid (HF2.out.trans hf3); have HS3 := Lib.hid (hf3.blk HS2.out (fun h => h)); have HX3 := Lib.hid (HX2.out.kept0 hf3); clear hf3 c0 c1 c2 c3 c4))
    have HR9 := Lib.hid (heap_alloc_new w3 (.cells (rsc s none 0 0 0 5000 none 0 0) 51))
    have HF4 := Lib.hid (HF3.out.alloc (.cells (rsc s none 0 0 0 5000 none 0 0) 51))
    have HX4 := Lib.hid (HX3.out.t0.mono (T' := fun q => q = w3.heap.size) (fun k hk e => by omega))
    have HX4 := Lib.hid (HX4.out.kept0 ((Fr.refl _ w3).alloc (.cells (rsc s none 0 0 0 5000 none 0 0) 51)))
    have HLT := Lib.hid (show b < w3.heap.size ∧ m < w3.heap.size ∧ w.heap.size + 1 ≤ w3.heap.size from ⟨HX3.out.lt.1, HX3.out.lt.2, lt_of_block HS3.out⟩)
    clear HN HRN HBS HF0
    generalize w3.alloc (.cells (rsc s none 0 0 0 5000 none 0 0) 51) = w4 at *
    generalize w3.heap.size = r9 at *
    go_loopw [11] (fun s11 wr => ∃ (k : Nat) (X : Sh) (A1 : Option Addr) (k1 : Nat) (A2 : Option Addr) (k2 : Nat), k ≤ l.length ∧ s11 = .int .i64 (k : Int) ∧ X.t.length + X.L.length ≤ k ∧ Hid (X.s = s) ∧ Hid (IsShT (fun q => q = r9) wr b m X) ∧
      Hid (wr.heap[r9]? = some (.cells (rsc X.s A1 X.t.length k1 X.B.now X.room A2 X.L.length k2) 51 (0, 0))) ∧ Hid (IsRs wr (ShU (fun q => q = r9) b m) (rsv X.s A1 X.t.length k1 X.B.now X.room A2 X.L.length k2) X.rs) ∧ Hid (Fr (fun q => ShS b m q ∨ q = r9) w4 wr)) (fun s11 _ => l.length - (intOf s11).toNat)
    case atStart => exact ⟨0, shNew s 5000, none, 0, none, 0, Nat.zero_le _, rfl, by simp, rfl, HX4.out, HR9.out, ⟨none, 0, none, 0, rfl, Rd.nil _ _ _, Nat.le_refl 0, Rd.nil _ _ _, Nat.le_refl 0, by simp [maxLen]⟩, Fr.refl _ _⟩
    case round =>
      obtain ⟨k, X, A1, k1, A2, k2, hk, rfl, hXk, HXS, HX, HB9, HIR, HFR⟩ := hrel
      have HFW := Lib.hid (HF4.out.then HFR.out (fun i hi e => by have := HLT.out; have := HBM.out; rcases e with (e | e) | e <;> omega))
      by_cases hlt : k < l.length
      · have HRW := Lib.hid (HR.out.kept HFW.out)
        obtain ⟨p, off, rfl⟩ := HRW.out.some_ (by rw [acs_length]; omega)
        have hi1 : (0 : Int) ≤ (k : Int) := by omega
        have hi2 : (k : Int) < (l.length : Int) := by omega
        obtain ⟨d0, d1, d2⟩ := rd_ac HRW.out k hlt
        generalize l[k] = y at *
        have HOK := Lib.hid (HX.out.sh.ok.rs (by omega))
        have HDO := Lib.hid (does_any (fun j => j = r9) b m X (rsv X.s A1 X.t.length k1 X.B.now X.room A2 X.L.length k2) X.rs y.1 y.2.1 y.2.2 wr.drew (HX.out.kept0 (Fr.refl _ wr).drew) (HIR.out.kept (Fr.refl _ wr).drew) HOK.out (fun q hq e => by have := lt_of_block HB9.out; have hq' : wr.heap.size ≤ q := hq; omega))
        obtain ⟨c0, c1, c2_, c3, c4, c5, c6, c7, c8⟩ := rs_cells HB9.out
        go_wp2_with fail
        go_region_law (go_simp; go_at_call 17; (with_reducible refine HDO.out.mono ?_); rintro e wA ⟨X', v', u, ok, rfl, hx', hst', hr', _, hfA⟩; obtain ⟨hs1, hs23⟩ := step_rs hst'; have HS23 := Lib.hid hs23; clear hs23; rw [hs1] at hr'; obtain ⟨A3, k3, A4, k4, hv, hrest⟩ := hr'.ex; clear hrest; have hv' : v' = rsv X'.s A3 X'.t.length k3 X'.B.now X'.room A4 X'.L.length k4 := hv; subst hv'; clear hv; have HZZ := Lib.hid (hfA.blk (show wr.drew.heap[r9]? = _ from HB9.out) (fun e => by have := HLT.out; rcases e with e | e <;> omega)); obtain ⟨x0, x1, x2, x3, x4, x5, x6, x7, x8⟩ := rs_cells HZZ.out; obtain ⟨y0, y1, y2, y3, y4, y5, y6, y7, y8⟩ := rs_free HZZ.out)
        all_goals
          have hP := putRs_fr (S := fun j => j = r9) (Fr.refl _ wA) (b := r9) (fun _ => rfl) X'.s A3 X'.t.length k3 X'.B.now X'.room A4 X'.L.length k4
          have hB := putRs_blk HZZ.out X'.s A3 X'.t.length k3 X'.B.now X'.room A4 X'.L.length k4
          have HX6 := Lib.hid (hx'.kept hP (fun j e => e) (fun e => by have := HLT.out; omega) (fun e => by have := HLT.out; omega))
          have HR6 := Lib.hid (hr'.kept (hP.mono (T := ShU (fun j => j = r9) b m) (fun j _ e => .inr e)))
          have HF6 := Lib.hid ((HFR.out.trans ((Fr.refl (fun q => ShS b m q ∨ q = r9) wr).drew.trans (hfA.mono (T := fun q => ShS b m q ∨ q = r9) (fun _ _ e => .inl e)))).trans (hP.mono (T := fun q => ShS b m q ∨ q = r9) (fun _ _ e => .inr e)))
          have HB6 := Lib.hid hB
          clear hP hB hx' hr' hst' hs1 hfA HDO
          go_wp2_with fail
          generalize hch : (((((((((wA.setCell ⟨r9, 0, none⟩ (.int .i64 X'.s.peak)).setCell ⟨r9, 1, none⟩ (.int .i64 X'.s.rate)).setCell ⟨r9, 2, none⟩ (.int .i64 X'.s.burst)).setCell ⟨r9, 3, none⟩ (.int .i64 X'.s.most)).setCell ⟨r9, 4, none⟩ (.int .i64 X'.s.least)).setCell ⟨r9, 5, none⟩ (.slice A3 X'.t.length k3)).setCell ⟨r9, 6, none⟩ (.int .i64 X'.B.now)).setCell ⟨r9, 7, none⟩ (.int .i64 X'.room)).setCell ⟨r9, 8, none⟩ (.slice A4 X'.L.length k4)) = Wf at *
          have hW : putRs wA r9 X'.s A3 X'.t.length k3 X'.B.now X'.room A4 X'.L.length k4 = Wf := hch
          rw [hW] at HX6 HR6 HF6 HB6
          clear hW hch x0 x1 x2 x3 x4 x5 x6 x7 x8 y0 y1 y2 y3 y4 y5 y6 y7 y8 d0 d1 d2 c0 c1 c2_ c3 c4 c5 c6 c7 c8
          go_roundw
          case rel => exact ⟨k + 1, X', A3, k3, A4, k4, by omega, by go_num, by have := HS23.out.2; omega, HS23.out.1.trans HXS.out, HX6.out, HB6.out, HR6.out, HF6.out⟩
          case measure => simp [intOf]; omega
      · obtain rfl : k = l.length := by omega
        clear hlt hk HFR HX4 HR9 HF4
        have HCP := Lib.hid (scopy_calls b m X wr HX.out.sh)
        obtain ⟨c0, c1, c2_, c3, c4, c5, c6, c7, c8⟩ := rs_cells HB9.out
        go_wp2_with (go_at_call 18; (with_reducible refine HCP.out.mono ?_); rintro e w5 ⟨⟨b2, m2, rfl, hb2, hm2, hx5⟩, hf5⟩; have HX5 := Lib.hid hx5; have HBM2 := Lib.hid (And.intro hb2 hm2); have HF5 := Lib.hid hf5; have HB95 := Lib.hid (hf5.blk HB9.out (fun h => h)); clear hb2 hm2 hx5 hf5 c0 c1 c2_ c3 c4 c5 c6 c7 c8; obtain ⟨c0, c1, c2_, c3, c4, c5, c6, c7, c8⟩ := rs_cells HB95.out)
        have HN := Lib.hid (show wr.heap.size ≤ w5.heap.size from HF5.out.size)
        have HLT2 := Lib.hid (show b2 < w5.heap.size ∧ m2 < w5.heap.size from HX5.out.lt)
        have HRR := Lib.hid (lt_of_block HB9.out)
        have HXA := Lib.hid ((HX.out.mono (T' := fun q => wr.heap.size ≤ q) (fun q hq e => by omega)).kept0 (HF5.out.alloc (.cells (rsc X.s A1 X.t.length k1 X.B.now X.room A2 X.L.length k2) 51)))
        have HIA := Lib.hid ((HIR.out.mono (T := fun q => ShS b m q ∨ wr.heap.size ≤ q) (fun q hq e => by rcases e with e | e; exact .inl e; omega)).kept (Fr0.any (HF5.out.alloc (.cells (rsc X.s A1 X.t.length k1 X.B.now X.room A2 X.L.length k2) 51))))
        have HI2 := Lib.hid (HIA.out.mono (T := ShU (fun q => q = w5.heap.size) b2 m2) (fun q hq e => by have := HBM2.out; have := HN.out; rcases e with (e | e) | e <;> exact .inr (by omega)))
        have HB9A := Lib.hid (blk_alloc HB95.out (.cells (rsc X.s A1 X.t.length k1 X.B.now X.room A2 X.L.length k2) 51))
        have HB13 := Lib.hid (heap_alloc_new w5 (.cells (rsc X.s A1 X.t.length k1 X.B.now X.room A2 X.L.length k2) 51))
        have HX13 := Lib.hid ((HX5.out.t0.mono (T' := fun q => q = w5.heap.size) (fun q hq e => by omega)).kept0 ((Fr.refl _ w5).alloc (.cells (rsc X.s A1 X.t.length k1 X.B.now X.room A2 X.L.length k2) 51)))
        have HFA := Lib.hid (HFW.out.trans (HF5.out.alloc (.cells (rsc X.s A1 X.t.length k1 X.B.now X.room A2 X.L.length k2) 51)))
        have HXY := Lib.hid hXk
        have HXSX := Lib.hid HXS.out
        clear HCP HX HIR HB9 HB95 HFW HXS hXk c0 c1 c2_ c3 c4 c5 c6 c7 c8 HX5 HF5
        go_wp2_with fail
        generalize w5.alloc (.cells (rsc X.s A1 X.t.length k1 X.B.now X.room A2 X.L.length k2) 51) = w6 at *
        generalize wr.heap.size = n0 at *
        generalize w5.heap.size = r13 at *
        go_loopw [14] (fun s11 wr => ∃ (k : Nat) (Y : Sh) (B1 : Option Addr) (j1 : Nat) (B2 : Option Addr) (j2 : Nat), k ≤ l'.length ∧ s11 = .int .i64 (k : Int) ∧ Y.t.length + Y.L.length ≤ l.length + k ∧ Hid (Y.s = s) ∧ Hid (IsShT (fun q => q = r13) wr b2 m2 Y) ∧
      Hid (wr.heap[r13]? = some (.cells (rsc Y.s B1 Y.t.length j1 Y.B.now Y.room B2 Y.L.length j2) 51 (0, 0))) ∧ Hid (IsRs wr (ShU (fun q => q = r13) b2 m2) (rsv Y.s B1 Y.t.length j1 Y.B.now Y.room B2 Y.L.length j2) Y.rs) ∧ Hid (Fr (fun q => ShS b2 m2 q ∨ q = r13) w6 wr)) (fun s11 _ => l'.length - (intOf s11).toNat)
        case atStart => exact ⟨0, X, A1, k1, A2, k2, Nat.zero_le _, rfl, by have := HXY.out; omega, HXSX.out, HX13.out, HB13.out, HI2.out, Fr.refl _ _⟩
        case round =>
          obtain ⟨k, Y, B1, j1, B2, j2, hk, rfl, hXk, HXS, HX, HB9, HIR, HFR⟩ := hrel
          have HFN := Lib.hid (HFR.out.mono (T := fun q => n0 ≤ q) (fun q _ e => by have := HBM2.out; have := HN.out; rcases e with (e | e) | e <;> omega))
          have HFW := Lib.hid (HFA.out.then HFN.out (fun i hi e => by have := HRR.out; have := HLT.out; omega))
          have HLTS := HLT
          have HLT := Lib.hid (show b2 < r13 ∧ m2 < r13 from HLT2.out)
          by_cases hlt : k < l'.length
          · have HRW := Lib.hid (HR'.out.kept HFW.out)
            obtain ⟨p, off, rfl⟩ := HRW.out.some_ (by rw [acs_length]; omega)
            have hi1 : (0 : Int) ≤ (k : Int) := by omega
            have hi2 : (k : Int) < (l'.length : Int) := by omega
            obtain ⟨d0, d1, d2⟩ := rd_ac HRW.out k hlt
            generalize l'[k] = y at *
            have HOK := Lib.hid (HX.out.sh.ok.rs (by omega))
            have HDO := Lib.hid (does_any (fun j => j = r13) b2 m2 Y (rsv Y.s B1 Y.t.length j1 Y.B.now Y.room B2 Y.L.length j2) Y.rs y.1 y.2.1 y.2.2 wr.drew (HX.out.kept0 (Fr.refl _ wr).drew) (HIR.out.kept (Fr.refl _ wr).drew) HOK.out (fun q hq e => by have := lt_of_block HB9.out; have hq' : wr.heap.size ≤ q := hq; omega))
            obtain ⟨c0, c1, c2_, c3, c4, c5, c6, c7, c8⟩ := rs_cells HB9.out
            go_wp2_with fail
            go_region_law (go_simp; go_at_call 17; (with_reducible refine HDO.out.mono ?_); rintro e wA ⟨Y', v', u, ok, rfl, hx', hst', hr', _, hfA⟩; obtain ⟨hs1, hs23⟩ := step_rs hst'; have HS23 := Lib.hid hs23; clear hs23; rw [hs1] at hr'; obtain ⟨A3, k3, A4, k4, hv, hrest⟩ := hr'.ex; clear hrest; have hv' : v' = rsv Y'.s A3 Y'.t.length k3 Y'.B.now Y'.room A4 Y'.L.length k4 := hv; subst hv'; clear hv; have HZZ := Lib.hid (hfA.blk (show wr.drew.heap[r13]? = _ from HB9.out) (fun e => by have := HLT.out; rcases e with e | e <;> omega)); obtain ⟨x0, x1, x2, x3, x4, x5, x6, x7, x8⟩ := rs_cells HZZ.out; obtain ⟨y0, y1, y2, y3, y4, y5, y6, y7, y8⟩ := rs_free HZZ.out)
            all_goals
              have hP := putRs_fr (S := fun j => j = r13) (Fr.refl _ wA) (b := r13) (fun _ => rfl) Y'.s A3 Y'.t.length k3 Y'.B.now Y'.room A4 Y'.L.length k4
              have hB := putRs_blk HZZ.out Y'.s A3 Y'.t.length k3 Y'.B.now Y'.room A4 Y'.L.length k4
              have HX6 := Lib.hid (hx'.kept hP (fun j e => e) (fun e => by have := HLT.out; omega) (fun e => by have := HLT.out; omega))
              have HR6 := Lib.hid (hr'.kept (hP.mono (T := ShU (fun j => j = r13) b2 m2) (fun j _ e => .inr e)))
              have HF6 := Lib.hid ((HFR.out.trans ((Fr.refl (fun q => ShS b2 m2 q ∨ q = r13) wr).drew.trans (hfA.mono (T := fun q => ShS b2 m2 q ∨ q = r13) (fun _ _ e => .inl e)))).trans (hP.mono (T := fun q => ShS b2 m2 q ∨ q = r13) (fun _ _ e => .inr e)))
              have HB6 := Lib.hid hB
              clear hP hB hx' hr' hst' hs1 hfA HDO
              go_wp2_with fail
              generalize hch : (((((((((wA.setCell ⟨r13, 0, none⟩ (.int .i64 Y'.s.peak)).setCell ⟨r13, 1, none⟩ (.int .i64 Y'.s.rate)).setCell ⟨r13, 2, none⟩ (.int .i64 Y'.s.burst)).setCell ⟨r13, 3, none⟩ (.int .i64 Y'.s.most)).setCell ⟨r13, 4, none⟩ (.int .i64 Y'.s.least)).setCell ⟨r13, 5, none⟩ (.slice A3 Y'.t.length k3)).setCell ⟨r13, 6, none⟩ (.int .i64 Y'.B.now)).setCell ⟨r13, 7, none⟩ (.int .i64 Y'.room)).setCell ⟨r13, 8, none⟩ (.slice A4 Y'.L.length k4)) = Wf at *
              have hW : putRs wA r13 Y'.s A3 Y'.t.length k3 Y'.B.now Y'.room A4 Y'.L.length k4 = Wf := hch
              rw [hW] at HX6 HR6 HF6 HB6
              clear hW hch x0 x1 x2 x3 x4 x5 x6 x7 x8 y0 y1 y2 y3 y4 y5 y6 y7 y8 d0 d1 d2 c0 c1 c2_ c3 c4 c5 c6 c7 c8
              go_roundw
              case rel => exact ⟨k + 1, Y', A3, k3, A4, k4, by omega, by go_num, by have := HS23.out.2; omega, HS23.out.1.trans HXS.out, HX6.out, HB6.out, HR6.out, HF6.out⟩
              case measure => simp [intOf]; omega
          · obtain rfl : k = l'.length := by omega
            have hbn : b < n0 ∧ m < n0 := by have := HLTS.out; have := HRR.out; omega
            have HXW := Lib.hid ((HXA.out.kept HFN.out (fun _ h => h) (fun h => by omega) (fun h => by omega)).sh)
            have HIW := Lib.hid ((HIA.out.kept (HFN.out.mono (fun _ _ h => .inr h))).mono (T := ShS b m) (fun _ _ h => .inl h))
            have HK9 := Lib.hid (fun U (h : Fr0 wr U) => rs_cells (h.blk (HFN.out.blk HB9A.out (fun h => by have := HRR.out; omega)) (fun h => h)))
            have HK13 := Lib.hid (fun U (h : Fr0 wr U) => rs_cells (h.blk HB9.out (fun h => h)))
            have HLX : Hid (X.L.length ≤ 40 ∧ Y.L.length ≤ 40) := Lib.hid (by have := HXY.out; omega)
            have HS1 := Lib.hid (fun U (h : Fr0 wr U) => same_yes b m X (rsv X.s A1 X.t.length k1 X.B.now X.room A2 X.L.length k2) U (HXW.out.kept0 h) (HIW.out.kept (Fr0.any h)) (by have := HLX.out; omega))
            have HS2 := Lib.hid (fun U (h : Fr0 wr U) => same_yes b2 m2 Y (rsv Y.s B1 Y.t.length j1 Y.B.now Y.room B2 Y.L.length j2) U (HX.out.sh.kept0 h) ((HIR.out.mono (T := ShS b2 m2) (fun _ _ e => .inl e)).kept (Fr0.any h)) (by have := HLX.out; omega))
            have HL1 := Lib.hid (show Rd (fun _ => False) wr A2 (sends X.L) from by
              obtain ⟨_, _, _, _, e, _, _, h4, _⟩ := HIW.out.ex
              simp only [rsv, Value.agg.injEq, Array.mk.injEq, List.cons.injEq, Value.slice.injEq] at e
              obtain ⟨_, _, _, _, _, _, _, _, ⟨rfl, _, _⟩, _⟩ := e
              exact h4.mono (fun _ _ h => h.elim))
            have HL2 := Lib.hid (show Rd (fun _ => False) wr B2 (sends Y.L) from by
              obtain ⟨_, _, _, _, e, _, _, h4, _⟩ := HIR.out.ex
              simp only [rsv, Value.agg.injEq, Array.mk.injEq, List.cons.injEq, Value.slice.injEq] at e
              obtain ⟨_, _, _, _, _, _, _, _, ⟨rfl, _, _⟩, _⟩ := e
              exact h4.mono (fun _ _ h => h.elim))
            have HSM := Lib.hid (fun U (h : Fr0 wr U) => wsame_calls A2 B2 k2 j2 X.L Y.L U (HL1.out.kept h) (HL2.out.kept h) (by have := HLX.out; omega) (by have := HLX.out; omega))
            have HSS := Lib.hid (fun U (h : Fr0 wr U) => ssame_calls b m b2 m2 X Y U (HXW.out.kept0 h) (HX.out.sh.kept0 h))
            have HCC := Lib.hid (fun U (h : Fr0 wr U) => scopy_calls b m X U (HXW.out.kept0 h))
            have HSX := Lib.hid (fun b3 m3 U (h : Fr0 wr U) (h3 : IsSh U b3 m3 X) => ssame_calls b m b3 m3 X X U (HXW.out.kept0 h) h3)
            rw [show shSame X X = true from by simp [shSame]] at HSX
            have HSN := Lib.hid (fun U (h : Fr0 wr U) => ssame_nil b m X (.pointer none) U (HXW.out.kept0 h) (.inl rfl))
            obtain ⟨c0, c1, c2_, c3, c4, c5, c6, c7, c8⟩ := HK9.out _ (Fr.refl _ wr)
            have HU := Lib.hid (Fr.refl (fun _ => False) wr)
            clear hbn hXk hk hlt
            by_cases hxy : X.L = Y.L
            · rw [decide_eq_true hxy] at HSM
              clear hxy
              go_wp2_with (first
                | (go_at_call 20; (with_reducible refine (HS1.out _ HU.out).mono ?_); rintro e u1 ⟨rfl, hu⟩; replace HU := Lib.hid (HU.out.trans hu); clear hu c0 c1 c2_ c3 c4 c5 c6 c7 c8; obtain ⟨c0, c1, c2_, c3, c4, c5, c6, c7, c8⟩ := HK13.out _ HU.out)
                | (go_at_call 20; (with_reducible refine (HS2.out _ HU.out).mono ?_); rintro e u2 ⟨rfl, hu⟩; replace HU := Lib.hid (HU.out.trans hu); clear hu c0 c1 c2_ c3 c4 c5 c6 c7 c8; have c8 := (HK13.out _ HU.out).x8; have d8 := (HK9.out _ HU.out).x8)
                | (go_at_call 14; (with_reducible refine (HSM.out _ HU.out).mono ?_); rintro e u3 ⟨rfl, hu⟩; replace HU := Lib.hid (HU.out.trans hu); clear hu c8 d8)
                | (go_at_call 22; (with_reducible refine (HSS.out _ HU.out).mono ?_); rintro e u4 ⟨rfl, hu⟩; replace HU := Lib.hid (HU.out.trans hu); clear hu)
                | (go_at_call 18; (with_reducible refine (HCC.out _ HU.out).mono ?_); rintro e u5 ⟨⟨b3, m3, rfl, _, _, hx3⟩, hu⟩; replace HU := Lib.hid (HU.out.trans hu); have HX3 := Lib.hid hx3; clear hu hx3)
                | (go_at_call 22; (with_reducible refine (HSX.out _ _ _ HU.out HX3.out).mono ?_); rintro e u6 ⟨rfl, hu⟩; replace HU := Lib.hid (HU.out.trans hu); clear hu)
                | (go_at_call 22; (with_reducible refine (HSN.out _ HU.out).mono ?_); rintro e u7 ⟨rfl, rfl⟩)
                | (go_at_call 9; refine (HKN.out _).mono ?_; rintro e u8 ⟨rfl, hu⟩; replace HU := Lib.hid (HU.out.trans hu)))
              go_ret
              exact ⟨rfl, HFW.out.trans HU.out⟩
            · rw [decide_eq_false hxy] at HSM
              rw [show shSame X Y = false from by simp [shSame, hxy]] at HSS
              clear hxy
              go_wp2_with (first
                | (go_at_call 20; (with_reducible refine (HS1.out _ HU.out).mono ?_); rintro e u1 ⟨rfl, hu⟩; replace HU := Lib.hid (HU.out.trans hu); clear hu c0 c1 c2_ c3 c4 c5 c6 c7 c8; obtain ⟨c0, c1, c2_, c3, c4, c5, c6, c7, c8⟩ := HK13.out _ HU.out)
                | (go_at_call 20; (with_reducible refine (HS2.out _ HU.out).mono ?_); rintro e u2 ⟨rfl, hu⟩; replace HU := Lib.hid (HU.out.trans hu); clear hu c0 c1 c2_ c3 c4 c5 c6 c7 c8; have c8 := (HK13.out _ HU.out).x8; have d8 := (HK9.out _ HU.out).x8)
                | (go_at_call 14; (with_reducible refine (HSM.out _ HU.out).mono ?_); rintro e u3 ⟨rfl, hu⟩; replace HU := Lib.hid (HU.out.trans hu); clear hu c8 d8)
                | (go_at_call 22; (with_reducible refine (HSS.out _ HU.out).mono ?_); rintro e u4 ⟨rfl, hu⟩; replace HU := Lib.hid (HU.out.trans hu); clear hu)
                | (go_at_call 18; (with_reducible refine (HCC.out _ HU.out).mono ?_); rintro e u5 ⟨⟨b3, m3, rfl, _, _, hx3⟩, hu⟩; replace HU := Lib.hid (HU.out.trans hu); have HX3 := Lib.hid hx3; clear hu hx3)
                | (go_at_call 22; (with_reducible refine (HSX.out _ _ _ HU.out HX3.out).mono ?_); rintro e u6 ⟨rfl, hu⟩; replace HU := Lib.hid (HU.out.trans hu); clear hu)
                | (go_at_call 22; (with_reducible refine (HSN.out _ HU.out).mono ?_); rintro e u7 ⟨rfl, rfl⟩)
                | (go_at_call 9; refine (HKN.out _).mono ?_; rintro e u8 ⟨rfl, hu⟩; replace HU := Lib.hid (HU.out.trans hu)))
              go_ret
              exact ⟨rfl, HFW.out.trans HU.out⟩
  · have HN := Lib.hid (snew_no s 5000 (fun h => hr h.1))
    clear hr
    go_enter Try.func7, Try.ntmps7
    go_wp2_with (first
      | (go_at_call 10; refine (HN.out _).mono ?_; rintro e w2 ⟨rfl, hf2⟩)
      | (go_at_call 9; refine (HKN.out _).mono ?_; rintro e w6 ⟨rfl, hf6⟩))
    go_ret
    exact ⟨rfl, (HF0.out.trans hf2).trans hf6⟩
end Go.Proofs.Ytmnadploikcljaa
