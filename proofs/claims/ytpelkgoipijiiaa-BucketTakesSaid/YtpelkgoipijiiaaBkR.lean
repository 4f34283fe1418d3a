/- Chapter 12: the statement BucketTakes walked. -/
import Derived.Test.YtpelkgoipijiiaaBkQ
set_option linter.unusedVariables false
set_option linter.unusedSimpArgs false
namespace Go.Proofs.Ytpelkgoipijiiaa
open Go.RowKit

theorem lTk_length (s : Sp) (l : List (Int × Int)) (B : Bk) (t z : Int) : (lTk s l B t z).length ≤ l.length + 1 := by
  unfold lTk lTake
  split
  · split <;> simp
  · simp
set_option maxRecDepth 100000 in
set_option maxHeartbeats 1000000 in
theorem btakes_walk (s : Sp) (A : Option Addr) (c : Nat) (l : List (Int × Int)) (w : World) (hR : Rd (fun _ => False) w A (sends l)) (hl : l.length ≤ 140737488351232) :
    Calls Try.prog 3 #[spv s, .slice A l.length c] w (Yes w) := by
  have HR := Lib.hid hR
  clear hR
  have HKN := Lib.hid known12_calls
  have HBS := Lib.hid (heap_alloc_new w (.cells (spc s) 23))
  have HF0 := Lib.hid ((Fr.refl (fun _ => False) w).alloc (.cells (spc s) 23))
  have hmx : Try.prog.follows .mixedOrders = true := by kernel_rfl
  have HRI := Lib.hid (rright_calls s)
  by_cases h40 : 40 < l.length
  · go_enter Try.func3, Try.ntmps3
    go_wp2_with (go_at_call 9; refine (HKN.out _).mono ?_; rintro e w6 ⟨rfl, hf6⟩)
    go_ret
    exact ⟨rfl, HF0.out.trans hf6⟩
  obtain ⟨c0, c1, c2, c3, c4⟩ := sp_cells HBS.out
  by_cases hr : s.Right
  · have HN := Lib.hid (new_yes s hr)
    rw [decide_eq_true hr] at HRI
    go_enter Try.func3, Try.ntmps3
    go_wp2_with fail
    refine (HN.out _).mono ?_
    rintro e w2 ⟨⟨g, rfl, hg, hb2⟩, hf2⟩
    have HF := Lib.hid (HF0.out.trans hf2)
    have HG := Lib.hid (show w.heap.size + 1 ≤ g by simp at hg; omega)
    have HB := Lib.hid hb2
    have HS2 := Lib.hid (hf2.blk HBS.out (fun h => h))
    clear hf2 hg hb2 HN HBS HF0 c0 c1 c2 c3 c4
    obtain ⟨c0, c1, c2, c3, c4⟩ := sp_cells HS2.out
    go_wp2_with fail
    refine (HRI.out _).mono ?_
    rintro e w3 ⟨rfl, hf3⟩
    have HF := Lib.hid (HF.out.trans hf3)
    have HB := Lib.hid (HB.out.kept0 hf3)
    have HS3 := Lib.hid (hf3.blk HS2.out (fun h => h))
    have HGL := Lib.hid HB.out.lt
    clear hf3 c0 c1 c2 c3 c4 HS2
    obtain ⟨c0, c1, c2, c3, c4⟩ := sp_cells HS3.out
    have HOF := Lib.hid (bkOf_new hr)
    have HR0 := Lib.hid (heap_alloc_new w3 (.cells (rbc s none 0 0 0) 32))
    have hfa := (Fr.refl (fun _ => False) w3).alloc (.cells (rbc s none 0 0 0) 32)
    have HF4 := Lib.hid (HF.out.trans hfa)
    have HB4 := Lib.hid (HB.out.kept0 hfa)
    have HS4 := Lib.hid (hfa.blk HS3.out (fun h => h))
    have HRL := Lib.hid (show g < w3.heap.size ∧ w.heap.size + 1 ≤ g from ⟨HGL.out, HG.out⟩)
    clear hfa
    go_wp2_with fail
    clear c0 c1 c2 c3 c4
    generalize hW4 : w3.alloc (.cells (rbc s none 0 0 0) 32) = w4 at *
    have HSZ := Lib.hid (show w4.heap.size = w3.heap.size + 1 by rw [← hW4]; simp)
    clear hW4
    generalize w3.heap.size = r at *
    go_loopw [8, 9, 10, 11, 12, 13] (fun i _ _ _ _ _ wr => ∃ (k : Nat) (L : List (Int × Int)) (B : Bk) (AL : Option Addr) (cL : Nat), k ≤ l.length ∧ i = .int .i64 (k : Int) ∧ L.length ≤ k ∧ L.length ≤ cL ∧ Hid (IsBk wr g B) ∧ Hid (BkOf s L B) ∧ Hid (wr.heap[r]? = some (.cells (rbc s AL L.length cL B.now) 32 (0, 0))) ∧ Hid (Rd (fun k => k = g ∨ k = r) wr AL (sends L)) ∧ Hid (Fr (fun k => k = g ∨ k = r) w4 wr)) (fun i _ _ _ _ _ _ => l.length - (intOf i).toNat)
    case atStart => exact ⟨0, [], bkNew s, none, 0, by omega, rfl, by simp, by simp, HB4.out, HOF.out, HR0.out, Rd.nil _ _ _, Fr.refl _ _⟩
    case round =>
      obtain ⟨k, L, B, AL, cL, hk, rfl, hLk, hLc, HBK, HOK, HRB, HRD, HFR⟩ := hrel
      have HFW := Lib.hid (HF4.out.then HFR.out (fun i hi e => by rcases e with e | e <;> · subst e; have := HRL.out; omega))
      by_cases hlt : k < l.length
      · have HRW := Lib.hid (HR.out.kept HFW.out)
        obtain ⟨p, off, rfl⟩ := HRW.out.some_ (by rw [sends_length]; omega)
        have HK := Lib.hid (fun U (h : Fr0 w U) => rdl_cells (HR.out.kept h) k hlt)
        have hi1 : (0 : Int) ≤ (k : Int) := by omega
        have hi2 : (k : Int) < (l.length : Int) := by omega
        have HTK := Lib.hid (fun w' hb => takeOf_calls HOK.out g (at_ l k) (sz_ l k) w' hb)
        have HBD := Lib.hid (show IsBk wr.drew g B from HBK.out)
        have HO2 := Lib.hid (HOK.out.tk (at_ l k) (sz_ l k))
        have HRT := Lib.hid (fun w' (hr : Rd (fun _ => False) w' AL (sends L)) => rtake_calls HOK.out AL cL (at_ l k) (sz_ l k) w' hr (by omega) hLc)
        have HLL := Lib.hid (lTk_length s L B (at_ l k) (sz_ l k))
        have HNB := Lib.hid (fun w' hb => now_calls g (B.tk (at_ l k) (sz_ l k)) w' hb HO2.out.rate)
        unfold RTk at HRT
        generalize lTk s L B (at_ l k) (sz_ l k) = L2 at *
        generalize B.tk (at_ l k) (sz_ l k) = B2 at *
        generalize decide (okTk s L B (at_ l k) (sz_ l k)) = ok at *
        generalize askA B (at_ l k) = ak at *
        go_wp2_with fail
        go_region_held3 (fun U => U.cell? ⟨p, off + k * 2, none⟩ = some (.int .i64 (at_ l k)) ∧ U.cell? ⟨p, off + k * 2 + 1, none⟩ = some (.int .i64 (sz_ l k)))
          (exact HK.out _ (by first | exact hfn | exact HFW.out.drew))
          ((go_at_call 12; refine (HTK.out _ HBD.out).mono ?_; rintro e w5 ⟨rfl, hb5, hf5⟩; have hfr5 := (Fr.refl (· = g) wr).drew.trans hf5; have hfn := HFW.out.then hfr5 (fun i hi e => by subst e; have := HRL.out; omega)))
        have HB5 := Lib.hid hb5
        have HF5 := Lib.hid (HFR.out.trans (hfr5.mono (fun _ _ h => .inl h)))
        have HRB5 := Lib.hid (hfr5.blk HRB.out (fun e => by have := HRL.out; omega))
        have HRD5 := Lib.hid (HRD.out.kept (hfr5.mono (fun _ _ h => .inl h)))
        have HFW5 := Lib.hid hfn
        clear hb5 hf5 hfr5 hfn
        have HK5 := Lib.hid (show ∀ U, Fr0 w5 U → ((U.cell? ⟨r, 0, none⟩ = some (.int .i64 s.peak) ∧ U.cell? ⟨r, 1, none⟩ = some (.int .i64 s.rate) ∧ U.cell? ⟨r, 2, none⟩ = some (.int .i64 s.burst) ∧ U.cell? ⟨r, 3, none⟩ = some (.int .i64 s.most) ∧ U.cell? ⟨r, 4, none⟩ = some (.int .i64 s.least) ∧ U.cell? ⟨r, 5, none⟩ = some (.slice AL L.length cL) ∧ U.cell? ⟨r, 6, none⟩ = some (.int .i64 B.now)) ∧ U.cell? ⟨p, off + k * 2, none⟩ = some (.int .i64 (at_ l k)) ∧ U.cell? ⟨p, off + k * 2 + 1, none⟩ = some (.int .i64 (sz_ l k))) from fun U h => ⟨rb_cells (h.blk HRB5.out (fun h => h)), HK.out U (HFW5.out.trans h)⟩)
        have HRT5 := Lib.hid (fun w' (h : Fr0 w5 w') => HRT.out w' ((HRD5.out.mono (fun _ _ h => h.elim)).kept h))
        have HLT := Lib.hid (show g < w5.heap.size ∧ r < w5.heap.size from ⟨HB5.out.lt, lt_of_block HRB5.out⟩)
        go_upto_region 11 with fail
        go_cut [11, 12, 13] (fun s11 s12 s13 wx => ∃ (ob : Nat) (A2 : Option Addr) (c2 : Nat), s11 = .pointer (some ⟨ob, 0, none⟩) ∧ s12 = .bool ok ∧ s13 = .int .i64 ak ∧ w5.heap.size ≤ ob ∧ L2.length ≤ c2 ∧ Hid (wx.heap[ob]? = some (.cells (rbc s A2 L2.length c2 B2.now) 32 (0, 0))) ∧ Hid (Rd (fun k => k = g ∨ k = r) wx A2 (sends L2)) ∧ Hid (Fr0 w5 wx))
        case first =>
          go_region_held3 (fun U => (U.cell? ⟨r, 0, none⟩ = some (.int .i64 s.peak) ∧ U.cell? ⟨r, 1, none⟩ = some (.int .i64 s.rate) ∧ U.cell? ⟨r, 2, none⟩ = some (.int .i64 s.burst) ∧ U.cell? ⟨r, 3, none⟩ = some (.int .i64 s.most) ∧ U.cell? ⟨r, 4, none⟩ = some (.int .i64 s.least) ∧ U.cell? ⟨r, 5, none⟩ = some (.slice AL L.length cL) ∧ U.cell? ⟨r, 6, none⟩ = some (.int .i64 B.now)) ∧ U.cell? ⟨p, off + k * 2, none⟩ = some (.int .i64 (at_ l k)) ∧ U.cell? ⟨p, off + k * 2 + 1, none⟩ = some (.int .i64 (sz_ l k)))
            ((refine HK5.out _ ?_; with_reducible repeat (first | exact hfB | exact Fr.refl _ _ | refine Fr.drew ?_ | refine Fr.alloc ?_ _ | refine Fr.setCell ?_ (fun h => by exfalso; have hs := Fr.size hfB; dsimp only at h; omega) _)))
            ((go_at_call 13; refine (HRT5.out _ (by with_reducible repeat (first | exact Fr.refl _ _ | refine Fr.drew ?_ | refine Fr.alloc ?_ _))).mono ?_; rintro e wA ⟨⟨A2, c2, rfl, hlc2, hrd2⟩, hfA⟩; have hfB : Fr0 w5 wA := Fr.trans (by repeat (first | exact Fr.refl _ _ | refine Fr.drew ?_ | refine Fr.alloc ?_ _)) hfA; try (have hzz : wA.heap[w5.heap.size]? = some (.cells (rbc ⟨0, 0, 0, 0, 0⟩ none 0 0 0) 32 (0, 0)) := hfA.blk (heap_alloc_new _ _) (fun h => h); obtain ⟨z0, z1, z2, z3, z4, z5, z6⟩ := rb_cells hzz; obtain ⟨f0, f1, f2, f3, f4, f5, f6⟩ := rb_free hzz)))
          · have hx := hrd2 (fun k => k = g ∨ k = r) (HRD5.out.kept (Fr.refl _ w5).drew) (fun k hk e => by have hk' : w5.heap.size ≤ k := hk; have := HLT.out; omega)
            have HX := Lib.hid (hx.kept ((Fr.refl _ wA).alloc (.cells (rbc s A2 L2.length c2 B2.now) 32)))
            have HY := Lib.hid (heap_alloc_new wA (.cells (rbc s A2 L2.length c2 B2.now) 32))
            have HZ := Lib.hid (hfB.alloc (.cells (rbc s A2 L2.length c2 B2.now) 32))
            clear hx hrd2
            go_wp2_with fail
            go_meet
            exact ⟨wA.heap.size, A2, c2, rfl, rfl, rfl, Fr.size hfB, hlc2, HY, HX, HZ⟩
          · have hx := hrd2 (fun k => (k = g ∨ k = r) ∨ k = w5.heap.size) ((HRD5.out.mono (fun k hk e => by rcases e with e | e; exact e; omega)).kept ((Fr.refl _ w5).drew.alloc _)) (fun k hk e => by have hk' : w5.heap.size + 1 ≤ k := (by simpa using hk); have := HLT.out; omega)
            have HX := Lib.hid ((hx.kept (putR_fr (Fr.refl _ wA) (b := w5.heap.size) (fun _ => .inr rfl) s A2 L2.length c2 B2.now)).mono (T := fun k => k = g ∨ k = r) (fun _ _ h => .inl h))
            have HY := Lib.hid (putR_blk hzz s A2 L2.length c2 B2.now)
            have HZ := Lib.hid (putR_fr hfB (b := w5.heap.size) (fun h => absurd h (Nat.lt_irrefl _)) s A2 L2.length c2 B2.now)
            clear hx hrd2 hzz
            generalize hch : (((((((wA.setCell ⟨w5.heap.size, 0, none⟩ (.int .i64 s.peak)).setCell ⟨w5.heap.size, 1, none⟩ (.int .i64 s.rate)).setCell ⟨w5.heap.size, 2, none⟩ (.int .i64 s.burst)).setCell ⟨w5.heap.size, 3, none⟩ (.int .i64 s.most)).setCell ⟨w5.heap.size, 4, none⟩ (.int .i64 s.least)).setCell ⟨w5.heap.size, 5, none⟩ (.slice A2 L2.length c2)).setCell ⟨w5.heap.size, 6, none⟩ (.int .i64 B2.now)) = Wf at *
            have hW : putR wA w5.heap.size s A2 L2.length c2 B2.now = Wf := hch
            rw [hW] at HX HY HZ
            clear hW hch z0 z1 z2 z3 z4 z5 z6 f0 f1 f2 f3 f4 f5 f6
            go_wp2_with fail
            go_meet
            exact ⟨w5.heap.size, A2, c2, rfl, rfl, rfl, Nat.le_refl _, hlc2, HY, HX, HZ⟩
        case rest =>
          obtain ⟨ob, A2, c2, rfl, rfl, rfl, hob, hlc2, HOB, HRDc, HFc⟩ := hcut
          have HBc := Lib.hid (HB5.out.kept0 HFc.out)
          have HRc := Lib.hid (HFc.out.blk HRB5.out (fun h => h))
          obtain ⟨o0, o1, o2, o3, o4, o5, o6⟩ := rb_cells HOB.out
          cases ok
          all_goals
            go_upto_region 12 with fail
            go_quiet ((go_at_call 14; refine Calls.quiet_of_same ((HNB.out _ (HBc.out.kept0 ((Fr.refl _ wc).drewN _))).mono fun e w' h => ⟨h.1, h.2.symm⟩)))
            obtain ⟨o0, o1, o2, o3, o4, o5, o6⟩ := rb_cells (Fr.blk ((Fr.refl (fun _ => False) wc).drewN nq) HOB.out (fun h => h))
            obtain ⟨r0, r1, r2, r3, r4, r5, r6⟩ := rb_cells (Fr.blk ((Fr.refl (fun _ => False) wc).drewN nq) HRc.out (fun h => h))
            obtain ⟨f0, f1, f2, f3, f4, f5, f6⟩ := rb_free (Fr.blk ((Fr.refl (fun _ => False) wc).drewN nq) HRc.out (fun h => h))
            go_wp2_with fail
            go_roundw
            case rel =>
              have hfd := (Fr.refl (fun _ => False) wc).drewN nq
              have HX := Lib.hid ((HRDc.out.kept (Fr0.any hfd)).kept (putR_fr (Fr.refl _ (wc.drewN nq)) (b := r) (fun _ => .inr rfl) s A2 L2.length c2 B2.now))
              have HY := Lib.hid (putR_blk (hfd.blk HRc.out (fun h => h)) s A2 L2.length c2 B2.now)
              have HI := Lib.hid ((HBc.out.kept0 hfd).kept (putR_fr (Fr.refl (· = r) (wc.drewN nq)) (b := r) (fun _ => rfl) s A2 L2.length c2 B2.now) (fun e => by have := HRL.out; omega))
              have HZ := Lib.hid (putR_fr ((HF5.out.trans (Fr0.any HFc.out)).trans (Fr0.any hfd)) (b := r) (fun _ => .inr rfl) s A2 L2.length c2 B2.now)
              clear hfd o0 o1 o2 o3 o4 o5 o6 r0 r1 r2 r3 r4 r5 r6 f0 f1 f2 f3 f4 f5 f6
              generalize hch : ((((((((wc.drewN nq).setCell ⟨r, 0, none⟩ (.int .i64 s.peak)).setCell ⟨r, 1, none⟩ (.int .i64 s.rate)).setCell ⟨r, 2, none⟩ (.int .i64 s.burst)).setCell ⟨r, 3, none⟩ (.int .i64 s.most)).setCell ⟨r, 4, none⟩ (.int .i64 s.least)).setCell ⟨r, 5, none⟩ (.slice A2 L2.length c2)).setCell ⟨r, 6, none⟩ (.int .i64 B2.now)) = Wf at *
              have hW : putR (wc.drewN nq) r s A2 L2.length c2 B2.now = Wf := hch
              rw [hW] at HX HY HI HZ
              clear hW hch
              exact ⟨k + 1, L2, B2, A2, c2, by omega, by go_num, by have := HLL.out; omega, hlc2, HI, HO2.out, HY, HX, HZ⟩
            case measure => simp [intOf]; omega
      · have hx := HFR.out.blk HS4.out (fun e => by have := HRL.out; omega)
        obtain ⟨c0, c1, c2, c3, c4⟩ := sp_cells hx
        have HSPC := Lib.hid (fun w' hb => spec_calls g B w' hb HOK.out.rate)
        rw [HOK.out.spec] at HSPC
        clear hx
        go_upto_region 15 with fail
        refine wp_region_cg hmx (by kernel_rfl) ?_
        have r0 := cg_cell (W := wr) c0
        have r1 := cg_cell (W := wr) c1
        have r2 := cg_cell (W := wr) c2
        have r3 := cg_cell (W := wr) c3
        have r4 := cg_cell (W := wr) c4
        repeat (first
          | go_big_quiet_step (fail)
          | go_big_quiet_step (first
            | (go_at_call 15; exact quiet_cg (HSPC.out _ (HBK.out.kept0 (Wx.fr _))))
            | (go_at_call 9; exact quiet_cg (HKN.out _))))
        refine wpQuiet_nil ?_
        intro w5 hf5
        have HF5 := Lib.hid (HFW.out.trans hf5)
        clear hf5 r0 r1 r2 r3 r4 c0 c1 c2 c3 c4
        go_wp2_with fail
        go_ret
        exact ⟨rfl, HF5.out⟩
  · have HN := Lib.hid (new_no s hr)
    rw [decide_eq_false hr] at HRI
    go_enter Try.func3, Try.ntmps3
    go_wp2_with fail
    refine (HN.out _).mono ?_
    rintro e w2 ⟨rfl, hf2⟩
    have HF := Lib.hid (HF0.out.trans hf2)
    have HS2 := Lib.hid (hf2.blk HBS.out (fun h => h))
    clear hf2 c0 c1 c2 c3 c4
    obtain ⟨c0, c1, c2, c3, c4⟩ := sp_cells HS2.out
    go_wp2_with (first
      | (go_at_call 11; refine (HRI.out _).mono ?_; rintro e w3 ⟨rfl, hf3⟩; have HF3 := Lib.hid (HF.out.trans hf3); clear hf3)
      | (go_at_call 9; refine (HKN.out _).mono ?_; rintro e w6 ⟨rfl, hf6⟩))
    go_ret
    exact ⟨rfl, HF3.out.trans hf6⟩
end Go.Proofs.Ytpelkgoipijiiaa
