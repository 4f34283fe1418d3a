/- Chapter 12: the statement BucketHas walked. -/
import Derived.Test.YtpelkgoipijiiaaBkQ
import Derived.Deep.AppendLies
set_option linter.unusedVariables false
set_option linter.unusedSimpArgs false
namespace Go.Proofs.Ytpelkgoipijiiaa
open Go.RowKit

theorem lTk_len (s : Sp) (l : List (Int × Int)) (B : Bk) (t z : Int) : (lTk s l B t z).length ≤ l.length + 1 := by
  unfold lTk lTake
  split
  · split <;> simp
  · simp
set_option maxRecDepth 100000 in
set_option maxHeartbeats 2000000 in
theorem bhas_walk (s : Sp) (A : Option Addr) (c : Nat) (l : List (Int × Int)) (z y : Int) (w : World) (hR : Rd (fun _ => False) w A (sends l)) (hl : l.length ≤ 140737488351232) :
    Calls Try.prog 5 #[spv s, .slice A l.length c, .agg #[.int .i64 z, .int .i64 y]] w (Yes w) := by
  have HR := Lib.hid hR
  clear hR
  have HKN := Lib.hid known12_calls
  have HBS := Lib.hid (blk_alloc (heap_alloc_new w (.cells (spc s) 23)) (.cells #[.int .i64 z, .int .i64 y] 36))
  have HBX := Lib.hid (show ((w.alloc (.cells (spc s) 23)).alloc (.cells #[.int .i64 z, .int .i64 y] 36)).heap[w.heap.size + 1]? = some (.cells #[.int .i64 z, .int .i64 y] 36 (0, 0)) from heap_alloc_nn (by simp))
  have HF0 := Lib.hid (((Fr.refl (fun _ => False) w).alloc (.cells (spc s) 23)).alloc (.cells #[.int .i64 z, .int .i64 y] 36))
  have hmx : Try.prog.follows .mixedOrders = true := by kernel_rfl
  by_cases h40 : 40 < l.length
  · go_enter Try.func5, Try.ntmps5
    go_wp2_with (go_at_call 9; refine (HKN.out _).mono ?_; rintro e w6 ⟨rfl, hf6⟩)
    go_ret
    exact ⟨rfl, HF0.out.trans hf6⟩
  obtain ⟨c0, c1, c2, c3, c4⟩ := sp_cells HBS.out
  by_cases hr : s.Right
  · have HN := Lib.hid (new_yes s hr)
    go_enter Try.func5, Try.ntmps5
    go_wp2_with fail
    refine (HN.out _).mono ?_
    rintro e w2 ⟨⟨g, rfl, hg, hb2⟩, hf2⟩
    have HF := Lib.hid (HF0.out.trans hf2)
    have HG := Lib.hid (show w.heap.size + 2 ≤ g by simp at hg; omega)
    have HB := Lib.hid hb2
    have HS3 := Lib.hid (hf2.blk HBS.out (fun h => h))
    have HX3 := Lib.hid (hf2.blk HBX.out (fun h => h))
    have HGL := Lib.hid HB.out.lt
    clear hf2 hg hb2 HN HBS HF0 HBX c0 c1 c2 c3 c4
    obtain ⟨c0, c1, c2, c3, c4⟩ := sp_cells HS3.out
    have HOF := Lib.hid (bkOf_new hr)
    have HR0 := Lib.hid (heap_alloc_new w2 (.cells (rbc s none 0 0 0) 32))
    have hfa := (Fr.refl (fun _ => False) w2).alloc (.cells (rbc s none 0 0 0) 32)
    have HF4 := Lib.hid (HF.out.trans hfa)
    have HB4 := Lib.hid (HB.out.kept0 hfa)
    have HS4 := Lib.hid (hfa.blk HS3.out (fun h => h))
    have HX4 := Lib.hid (hfa.blk HX3.out (fun h => h))
    have HRL := Lib.hid (show g < w2.heap.size ∧ w.heap.size + 2 ≤ g from ⟨HGL.out, HG.out⟩)
    clear hfa
    go_wp2_with fail
    clear c0 c1 c2 c3 c4
    generalize hW4 : w2.alloc (.cells (rbc s none 0 0 0) 32) = w4 at *
    clear hW4
    generalize w2.heap.size = r at *
    go_loopw [10] (fun i wr => ∃ (k : Nat) (L : List (Int × Int)) (B : Bk) (AL : Option Addr) (cL : Nat), k ≤ l.length ∧ i = .int .i64 (k : Int) ∧ L.length ≤ k ∧ L.length ≤ cL ∧ Hid (IsBk wr g B) ∧ Hid (BkOf s L B) ∧ Hid (wr.heap[r]? = some (.cells (rbc s AL L.length cL B.now) 32 (0, 0))) ∧ Hid (Rd (fun k => k = g ∨ k = r) wr AL (sends L)) ∧ Hid (Fr (fun k => k = g ∨ k = r) w4 wr)) (fun i _ => l.length - (intOf i).toNat)
    case atStart => exact ⟨0, [], bkNew s, none, 0, by omega, rfl, by simp, by simp, HB4.out, HOF.out, HR0.out, Rd.nil _ _ _, Fr.refl _ _⟩
    case round =>
      obtain ⟨k, L, B, AL, cL, hk, rfl, hLk, hLc, HBK, HOK, HRB, HRD, HFR⟩ := hrel
      have HFW := Lib.hid (HF4.out.then HFR.out (fun i hi e => by rcases e with e | e <;> · subst e; have := HRL.out; omega))
      by_cases hlt : k < l.length
      · have HRW := Lib.hid (HR.out.kept HFW.out)
        obtain ⟨p, off, rfl⟩ := HRW.out.some_ (by rw [sends_length]; omega)
        have HK := Lib.hid (fun U (h : Fr0 w U) => rdl_cells (HR.out.kept h) k hlt)
        have hi1 : (0 : Int) ≤ (k : Int) := by omega
        have hi2 : (k : Int) < (l.length : Int) := by omega
        have HTK := Lib.hid (fun w' hb => takeOf_calls HOK.out g (at_ l k) (sz_ l k) w' hb)
        have HBD := Lib.hid (show IsBk wr.drew g B from HBK.out)
        have HO2 := Lib.hid (HOK.out.tk (at_ l k) (sz_ l k))
        have HRT := Lib.hid (fun w' (hr : Rd (fun _ => False) w' AL (sends L)) => rtake_calls HOK.out AL cL (at_ l k) (sz_ l k) w' hr (by omega) hLc)
        have HLL := Lib.hid (lTk_len s L B (at_ l k) (sz_ l k))
        unfold RTk at HRT
        generalize lTk s L B (at_ l k) (sz_ l k) = L2 at *
        generalize B.tk (at_ l k) (sz_ l k) = B2 at *
        generalize decide (okTk s L B (at_ l k) (sz_ l k)) = ok at *
        generalize askA B (at_ l k) = ak at *
        go_wp2_with fail
        go_region_held3 (fun U => U.cell? ⟨p, off + k * 2, none⟩ = some (.int .i64 (at_ l k)) ∧ U.cell? ⟨p, off + k * 2 + 1, none⟩ = some (.int .i64 (sz_ l k)))
          (exact HK.out _ (by first | exact hfn | exact HFW.out.drew))
          ((go_at_call 12; refine (HTK.out _ HBD.out).mono ?_; rintro e w5 ⟨rfl, hb5, hf5⟩; have hfr5 := (Fr.refl (· = g) wr).drew.trans hf5; have hfn := HFW.out.then hfr5 (fun i hi e => by subst e; have := HRL.out; omega)))
        have HB5 := Lib.hid hb5
        have HF5 := Lib.hid (HFR.out.trans (hfr5.mono (fun _ _ h => .inl h)))
        have HRB5 := Lib.hid (hfr5.blk HRB.out (fun e => by have := HRL.out; omega))
        have HRD5 := Lib.hid (HRD.out.kept (hfr5.mono (fun _ _ h => .inl h)))
        have HFW5 := Lib.hid hfn
        clear hb5 hf5 hfr5 hfn
        have HLT := Lib.hid (show g < w5.heap.size ∧ r < w5.heap.size from ⟨HB5.out.lt, lt_of_block HRB5.out⟩)
        obtain ⟨r0, r1, r2, r3, r4, r5, r6⟩ := rb_cells (show w5.drew.heap[r]? = _ from HRB5.out)
        obtain ⟨d0, d1⟩ := HK.out _ HFW5.out.drew
        go_wp2_with fail
        go_region_law ((go_simp; go_at_call 13; refine (HRT.out _ ((HRD5.out.mono (fun _ _ h => h.elim)).kept ((Fr.refl _ w5).drew))).mono ?_; rintro e wA ⟨⟨A2, c2, rfl, hlc2, hrd2⟩, hfA⟩; have hfB : Fr0 w wA := HFW5.out.drew.trans hfA; have hrr : wA.heap[r]? = some (.cells (rbc s AL L.length cL B.now) 32 (0, 0)) := hfA.blk HRB5.out (fun h => h); obtain ⟨z0, z1, z2, z3, z4, z5, z6⟩ := rb_cells hrr; obtain ⟨f0, f1, f2, f3, f4, f5, f6⟩ := rb_free hrr))
        all_goals
          have hx := hrd2 (fun k => k = g ∨ k = r) (HRD5.out.kept (Fr.refl _ w5).drew) (fun k hk e => by have hk' : w5.heap.size ≤ k := hk; have := HLT.out; omega)
          have hfA5 : Fr0 w5 wA := (Fr.refl (fun _ => False) w5).drew.trans hfA
          have HX := Lib.hid (hx.kept (putR_fr (Fr.refl _ wA) (b := r) (fun _ => .inr rfl) s A2 L2.length c2 B2.now))
          have HY := Lib.hid (putR_blk hrr s A2 L2.length c2 B2.now)
          have HI := Lib.hid ((HB5.out.kept0 hfA5).kept (putR_fr (Fr.refl (· = r) wA) (b := r) (fun _ => rfl) s A2 L2.length c2 B2.now) (fun e => by have := HRL.out; omega))
          have HZ := Lib.hid (putR_fr (HF5.out.trans (Fr0.any hfA5)) (b := r) (fun _ => .inr rfl) s A2 L2.length c2 B2.now)
          generalize hch : (((((((wA.setCell ⟨r, 0, none⟩ (.int .i64 s.peak)).setCell ⟨r, 1, none⟩ (.int .i64 s.rate)).setCell ⟨r, 2, none⟩ (.int .i64 s.burst)).setCell ⟨r, 3, none⟩ (.int .i64 s.most)).setCell ⟨r, 4, none⟩ (.int .i64 s.least)).setCell ⟨r, 5, none⟩ (.slice A2 L2.length c2)).setCell ⟨r, 6, none⟩ (.int .i64 B2.now)) = Wf at *
          have hW : putR wA r s A2 L2.length c2 B2.now = Wf := hch
          rw [hW] at HX HY HI HZ
          clear hW hch hx hrd2 hrr hfA hfB hfA5 d0 d1 r0 r1 r2 r3 r4 r5 r6 z0 z1 z2 z3 z4 z5 z6 f0 f1 f2 f3 f4 f5 f6
          go_wp2_with fail
          go_roundw
          case rel => exact ⟨k + 1, L2, B2, A2, c2, by omega, by go_num, by have := HLL.out; omega, hlc2, HI, HO2.out, HY, HX, HZ⟩
          case measure => simp [intOf]; omega
      · have HSX := Lib.hid (HFR.out.blk HS4.out (fun e => by have := HRL.out; omega))
        have HXX := Lib.hid (HFR.out.blk HX4.out (fun e => by have := HRL.out; omega))
        have HALL := Lib.hid (fun U (h : Fr0 wr U) => (show (U.cell? ⟨w.heap.size + 1, 0, none⟩ = some (.int .i64 z) ∧ U.cell? ⟨w.heap.size + 1, 1, none⟩ = some (.int .i64 y)) ∧ (U.cell? ⟨w.heap.size, 0, none⟩ = some (.int .i64 s.peak) ∧ U.cell? ⟨w.heap.size, 1, none⟩ = some (.int .i64 s.rate) ∧ U.cell? ⟨w.heap.size, 2, none⟩ = some (.int .i64 s.burst) ∧ U.cell? ⟨w.heap.size, 3, none⟩ = some (.int .i64 s.most) ∧ U.cell? ⟨w.heap.size, 4, none⟩ = some (.int .i64 s.least)) ∧ (U.cell? ⟨r, 0, none⟩ = some (.int .i64 s.peak) ∧ U.cell? ⟨r, 1, none⟩ = some (.int .i64 s.rate) ∧ U.cell? ⟨r, 2, none⟩ = some (.int .i64 s.burst) ∧ U.cell? ⟨r, 3, none⟩ = some (.int .i64 s.most) ∧ U.cell? ⟨r, 4, none⟩ = some (.int .i64 s.least) ∧ U.cell? ⟨r, 5, none⟩ = some (.slice AL L.length cL) ∧ U.cell? ⟨r, 6, none⟩ = some (.int .i64 B.now)) from
          ⟨⟨cell_of_blk (h.blk HXX.out (fun h => h)) 0, cell_of_blk (h.blk HXX.out (fun h => h)) 1⟩, sp_cells (h.blk HSX.out (fun h => h)), rb_cells (h.blk HRB.out (fun h => h))⟩))
        obtain ⟨⟨x0, x1⟩, ⟨c0, c1, c2, c3, c4⟩, ⟨r0, r1, r2, r3, r4, r5, r6⟩⟩ := HALL.out _ (Fr.refl _ wr)
        have HRZ := Lib.hid (HRD.out.mono (T := fun _ => False) (fun _ _ h => h.elim))
        have HCP := Lib.hid (copy_calls g B wr HBK.out HOK.out.rate)
        have HHS := Lib.hid (fun w' hb => hasOf_calls HOK.out g z w' hb)
        have HWH := Lib.hid (fun w' hb => whenOf_calls HOK.out g z y w' hb)
        have hba := (Fr.refl (fun _ => False) wr).alloc (.cells (bkc B) 60)
        have HNB := Lib.hid (heap_alloc_new wr (.cells (bkc B) 60))
        have HAS := Lib.hid (fun w' => rasked_calls s AL L.length cL B.now z w')
        have HKP := Lib.hid (fun u w' (hr : Rd (fun _ => False) w' AL (sends L)) => rbkeeps_calls s AL cL L B.now u y w' hr (by omega) hLc HOK.out.right)
        have HSM := Lib.hid (fun w' (h1 : Fr0 wr w') (h2 : Fr0 (wr.alloc (.cells (bkc B) 60)) w') => same_eq g wr.heap.size B w' (HBK.out.kept0 h1) (IsBk.kept0 (b := wr.heap.size) (B := B) HNB.out h2) HOK.out.rate)
        clear hba
        by_cases hm : B.may z
        · have hm2 : B.now ≤ z ∧ z ≤ 2147483647 := hm
          rw [if_pos hm2] at HAS
          rw [show hasA B z = ((B.adv z).k0.has, (B.adv z).k1.has, 0) from if_pos hm] at HHS
          have HRH := Lib.hid (fun w' (hr : Rd (fun _ => False) w' AL (sends L)) => rhas_calls HOK.out AL cL B.now z w' hr (by omega) hLc hm)
          have hwh : whA B z y = if s.least ≤ y ∧ y ≤ s.most then (B.whenT z y, 0) else (0, 220) := by unfold whA; rw [if_pos hm, HOK.out.spec]
          obtain ⟨hz1, hz2⟩ := hm2
          have hnn := HOK.out.now.1
          by_cases hy : s.least ≤ y ∧ y ≤ s.most
          · rw [hwh, if_pos hy] at HWH
            obtain ⟨hrg1, hrg2⟩ := whenT_range HOK.out hm hy
            have HFT := Lib.hid (fun u hu => HOK.out.when hm hy (u := u) hu)
            have HTK := Lib.hid (fun u (hu : B.may u) => (HOK.out.take hu y).2)
            obtain ⟨hy1, hy2⟩ := hy
            clear hwh hm
            generalize B.whenT z y = T at *
            generalize (B.adv z).k0.has = H0 at *
            generalize (B.adv z).k1.has = H1 at *
            by_cases hbig : 2147483647 < T
            · go_wp2_with (first
                | (go_at_call 17; refine HCP.out.mono ?_; rintro e w3 ⟨rfl, rfl⟩; have HFU := Lib.hid ((Fr.refl (fun _ => False) wr).alloc (.cells (bkc B) 60)); have HFK := Lib.hid (Fr.refl (fun _ => False) (wr.alloc (.cells (bkc B) 60))); clear x0 x1 c0 c1 c2 c3 c4 r0 r1 r2 r3 r4 r5 r6; obtain ⟨⟨x0, x1⟩, ⟨c0, c1, c2, c3, c4⟩, ⟨r0, r1, r2, r3, r4, r5, r6⟩⟩ := HALL.out _ HFU.out)
                | (go_at_call 18; refine (HHS.out _ (HBK.out.kept0 HFU.out)).mono ?_; rintro e w4 ⟨rfl, hf4⟩; have HFU := Lib.hid (HFU.out.trans hf4); have HFK := Lib.hid (HFK.out.trans hf4); clear hf4; clear x0 x1 c0 c1 c2 c3 c4 r0 r1 r2 r3 r4 r5 r6; obtain ⟨⟨x0, x1⟩, ⟨c0, c1, c2, c3, c4⟩, ⟨r0, r1, r2, r3, r4, r5, r6⟩⟩ := HALL.out _ HFU.out)
                | (go_at_call 16; refine (HWH.out _ (HBK.out.kept0 HFU.out)).mono ?_; rintro e w5 ⟨rfl, hf5⟩; have HFU := Lib.hid (HFU.out.trans hf5); have HFK := Lib.hid (HFK.out.trans hf5); clear hf5; clear x0 x1 c0 c1 c2 c3 c4 r0 r1 r2 r3 r4 r5 r6; obtain ⟨⟨x0, x1⟩, ⟨c0, c1, c2, c3, c4⟩, ⟨r0, r1, r2, r3, r4, r5, r6⟩⟩ := HALL.out _ HFU.out))
              refine (HSM.out _ HFU.out HFK.out).mono ?_
              rintro e w6 ⟨rfl, hf6⟩
              have HFU := Lib.hid (HFU.out.trans hf6)
              clear hf6
              clear x0 x1 c0 c1 c2 c3 c4 r0 r1 r2 r3 r4 r5 r6
              obtain ⟨⟨x0, x1⟩, ⟨c0, c1, c2, c3, c4⟩, ⟨r0, r1, r2, r3, r4, r5, r6⟩⟩ := HALL.out _ HFU.out
              go_wp2_with (first
                | (go_at_call 20; refine (HAS.out _).mono ?_; rintro e w7 ⟨rfl, hf7⟩; have HFU := Lib.hid (HFU.out.trans hf7); clear hf7; clear x0 x1 c0 c1 c2 c3 c4 r0 r1 r2 r3 r4 r5 r6; obtain ⟨⟨x0, x1⟩, ⟨c0, c1, c2, c3, c4⟩, ⟨r0, r1, r2, r3, r4, r5, r6⟩⟩ := HALL.out _ HFU.out)
                | (go_at_call 21; refine (HRH.out _ (HRZ.out.kept HFU.out)).mono ?_; rintro e w8 ⟨rfl, hf8⟩; have HFU := Lib.hid (HFU.out.trans hf8); clear hf8; clear x0 x1 c0 c1 c2 c3 c4 r0 r1 r2 r3 r4 r5 r6; obtain ⟨⟨x0, x1⟩, ⟨c0, c1, c2, c3, c4⟩, ⟨r0, r1, r2, r3, r4, r5, r6⟩⟩ := HALL.out _ HFU.out)
                | (go_at_call 9; refine (HKN.out _).mono ?_; rintro e w9 ⟨rfl, hf9⟩))
              go_ret
              exact ⟨rfl, HFW.out.trans (HFU.out.trans hf9)⟩
            · have hkT : Keeps s (L ++ [(T, y)]) := (HTK.out T ⟨by omega, by omega⟩).2 ((HFT.out T (by omega)).2 (Int.le_refl _))
              have HKT := Lib.hid (decide_eq_true hkT)
              clear hkT
              by_cases heq : T = z
              · subst heq
                go_wp2_with (first
                  | (go_at_call 17; refine HCP.out.mono ?_; rintro e w3 ⟨rfl, rfl⟩; have HFU := Lib.hid ((Fr.refl (fun _ => False) wr).alloc (.cells (bkc B) 60)); have HFK := Lib.hid (Fr.refl (fun _ => False) (wr.alloc (.cells (bkc B) 60))); clear x0 x1 c0 c1 c2 c3 c4 r0 r1 r2 r3 r4 r5 r6; obtain ⟨⟨x0, x1⟩, ⟨c0, c1, c2, c3, c4⟩, ⟨r0, r1, r2, r3, r4, r5, r6⟩⟩ := HALL.out _ HFU.out)
                  | (go_at_call 18; refine (HHS.out _ (HBK.out.kept0 HFU.out)).mono ?_; rintro e w4 ⟨rfl, hf4⟩; have HFU := Lib.hid (HFU.out.trans hf4); have HFK := Lib.hid (HFK.out.trans hf4); clear hf4; clear x0 x1 c0 c1 c2 c3 c4 r0 r1 r2 r3 r4 r5 r6; obtain ⟨⟨x0, x1⟩, ⟨c0, c1, c2, c3, c4⟩, ⟨r0, r1, r2, r3, r4, r5, r6⟩⟩ := HALL.out _ HFU.out)
                  | (go_at_call 16; refine (HWH.out _ (HBK.out.kept0 HFU.out)).mono ?_; rintro e w5 ⟨rfl, hf5⟩; have HFU := Lib.hid (HFU.out.trans hf5); have HFK := Lib.hid (HFK.out.trans hf5); clear hf5; clear x0 x1 c0 c1 c2 c3 c4 r0 r1 r2 r3 r4 r5 r6; obtain ⟨⟨x0, x1⟩, ⟨c0, c1, c2, c3, c4⟩, ⟨r0, r1, r2, r3, r4, r5, r6⟩⟩ := HALL.out _ HFU.out))
                refine (HSM.out _ HFU.out HFK.out).mono ?_
                rintro e w6 ⟨rfl, hf6⟩
                have HFU := Lib.hid (HFU.out.trans hf6)
                clear hf6
                clear x0 x1 c0 c1 c2 c3 c4 r0 r1 r2 r3 r4 r5 r6
                obtain ⟨⟨x0, x1⟩, ⟨c0, c1, c2, c3, c4⟩, ⟨r0, r1, r2, r3, r4, r5, r6⟩⟩ := HALL.out _ HFU.out
                go_wp2_with (first
                  | (go_at_call 20; refine (HAS.out _).mono ?_; rintro e w7 ⟨rfl, hf7⟩; have HFU := Lib.hid (HFU.out.trans hf7); clear hf7; clear x0 x1 c0 c1 c2 c3 c4 r0 r1 r2 r3 r4 r5 r6; obtain ⟨⟨x0, x1⟩, ⟨c0, c1, c2, c3, c4⟩, ⟨r0, r1, r2, r3, r4, r5, r6⟩⟩ := HALL.out _ HFU.out)
                  | (go_at_call 21; refine (HRH.out _ (HRZ.out.kept HFU.out)).mono ?_; rintro e w8 ⟨rfl, hf8⟩; have HFU := Lib.hid (HFU.out.trans hf8); clear hf8; clear x0 x1 c0 c1 c2 c3 c4 r0 r1 r2 r3 r4 r5 r6; obtain ⟨⟨x0, x1⟩, ⟨c0, c1, c2, c3, c4⟩, ⟨r0, r1, r2, r3, r4, r5, r6⟩⟩ := HALL.out _ HFU.out))
                have HKQ := Lib.hid (fun w' hr => HKP.out T w' hr)
                rw [HKT.out] at HKQ
                refine (HKQ.out _ (HRZ.out.kept HFU.out)).mono ?_
                rintro e w8 ⟨rfl, hf8⟩
                have HFU := Lib.hid (HFU.out.trans hf8)
                clear hf8
                clear x0 x1 c0 c1 c2 c3 c4 r0 r1 r2 r3 r4 r5 r6
                obtain ⟨⟨x0, x1⟩, ⟨c0, c1, c2, c3, c4⟩, ⟨r0, r1, r2, r3, r4, r5, r6⟩⟩ := HALL.out _ HFU.out
                go_wp2_with (go_at_call 9; refine (HKN.out _).mono ?_; rintro e w9 ⟨rfl, hf9⟩)
                go_ret
                exact ⟨rfl, HFW.out.trans (HFU.out.trans hf9)⟩
              · have hkN : ¬ Keeps s (L ++ [(T - 1, y)]) := fun h => by have := (HFT.out (T - 1) (by omega)).1 ((HTK.out (T - 1) ⟨by omega, by omega⟩).1 h); omega
                have HKM := Lib.hid (decide_eq_false hkN)
                clear hkN
                have hwe : IntKind.i64.wrap (T - 1) = T - 1 := by rw [IntKind.wrap_i64]; omega
                go_wp2_with (first
                  | (go_at_call 17; refine HCP.out.mono ?_; rintro e w3 ⟨rfl, rfl⟩; have HFU := Lib.hid ((Fr.refl (fun _ => False) wr).alloc (.cells (bkc B) 60)); have HFK := Lib.hid (Fr.refl (fun _ => False) (wr.alloc (.cells (bkc B) 60))); clear x0 x1 c0 c1 c2 c3 c4 r0 r1 r2 r3 r4 r5 r6; obtain ⟨⟨x0, x1⟩, ⟨c0, c1, c2, c3, c4⟩, ⟨r0, r1, r2, r3, r4, r5, r6⟩⟩ := HALL.out _ HFU.out)
                  | (go_at_call 18; refine (HHS.out _ (HBK.out.kept0 HFU.out)).mono ?_; rintro e w4 ⟨rfl, hf4⟩; have HFU := Lib.hid (HFU.out.trans hf4); have HFK := Lib.hid (HFK.out.trans hf4); clear hf4; clear x0 x1 c0 c1 c2 c3 c4 r0 r1 r2 r3 r4 r5 r6; obtain ⟨⟨x0, x1⟩, ⟨c0, c1, c2, c3, c4⟩, ⟨r0, r1, r2, r3, r4, r5, r6⟩⟩ := HALL.out _ HFU.out)
                  | (go_at_call 16; refine (HWH.out _ (HBK.out.kept0 HFU.out)).mono ?_; rintro e w5 ⟨rfl, hf5⟩; have HFU := Lib.hid (HFU.out.trans hf5); have HFK := Lib.hid (HFK.out.trans hf5); clear hf5; clear x0 x1 c0 c1 c2 c3 c4 r0 r1 r2 r3 r4 r5 r6; obtain ⟨⟨x0, x1⟩, ⟨c0, c1, c2, c3, c4⟩, ⟨r0, r1, r2, r3, r4, r5, r6⟩⟩ := HALL.out _ HFU.out))
                refine (HSM.out _ HFU.out HFK.out).mono ?_
                rintro e w6 ⟨rfl, hf6⟩
                have HFU := Lib.hid (HFU.out.trans hf6)
                clear hf6
                clear x0 x1 c0 c1 c2 c3 c4 r0 r1 r2 r3 r4 r5 r6
                obtain ⟨⟨x0, x1⟩, ⟨c0, c1, c2, c3, c4⟩, ⟨r0, r1, r2, r3, r4, r5, r6⟩⟩ := HALL.out _ HFU.out
                go_wp2_with (first
                  | (go_at_call 20; refine (HAS.out _).mono ?_; rintro e w7 ⟨rfl, hf7⟩; have HFU := Lib.hid (HFU.out.trans hf7); clear hf7; clear x0 x1 c0 c1 c2 c3 c4 r0 r1 r2 r3 r4 r5 r6; obtain ⟨⟨x0, x1⟩, ⟨c0, c1, c2, c3, c4⟩, ⟨r0, r1, r2, r3, r4, r5, r6⟩⟩ := HALL.out _ HFU.out)
                  | (go_at_call 21; refine (HRH.out _ (HRZ.out.kept HFU.out)).mono ?_; rintro e w8 ⟨rfl, hf8⟩; have HFU := Lib.hid (HFU.out.trans hf8); clear hf8; clear x0 x1 c0 c1 c2 c3 c4 r0 r1 r2 r3 r4 r5 r6; obtain ⟨⟨x0, x1⟩, ⟨c0, c1, c2, c3, c4⟩, ⟨r0, r1, r2, r3, r4, r5, r6⟩⟩ := HALL.out _ HFU.out))
                have HKQ := Lib.hid (fun w' hr => HKP.out (T - 1) w' hr)
                rw [HKM.out] at HKQ
                refine (HKQ.out _ (HRZ.out.kept HFU.out)).mono ?_
                rintro e w8 ⟨rfl, hf8⟩
                have HFU := Lib.hid (HFU.out.trans hf8)
                clear hf8
                clear x0 x1 c0 c1 c2 c3 c4 r0 r1 r2 r3 r4 r5 r6
                obtain ⟨⟨x0, x1⟩, ⟨c0, c1, c2, c3, c4⟩, ⟨r0, r1, r2, r3, r4, r5, r6⟩⟩ := HALL.out _ HFU.out
                go_wp2_with fail
                have HKQ := Lib.hid (fun w' hr => HKP.out T w' hr)
                rw [HKT.out] at HKQ
                refine (HKQ.out _ (HRZ.out.kept HFU.out)).mono ?_
                rintro e w8 ⟨rfl, hf8⟩
                have HFU := Lib.hid (HFU.out.trans hf8)
                clear hf8
                clear x0 x1 c0 c1 c2 c3 c4 r0 r1 r2 r3 r4 r5 r6
                obtain ⟨⟨x0, x1⟩, ⟨c0, c1, c2, c3, c4⟩, ⟨r0, r1, r2, r3, r4, r5, r6⟩⟩ := HALL.out _ HFU.out
                go_wp2_with (go_at_call 9; refine (HKN.out _).mono ?_; rintro e w9 ⟨rfl, hf9⟩)
                go_ret
                exact ⟨rfl, HFW.out.trans (HFU.out.trans hf9)⟩
          · rw [hwh, if_neg hy] at HWH
            have hy2 : y < s.least ∨ (s.least ≤ y ∧ s.most < y) := by omega
            clear hwh hm hy
            generalize (B.adv z).k0.has = H0 at *
            generalize (B.adv z).k1.has = H1 at *
            rcases hy2 with hy2 | ⟨hy1, hy2⟩
            all_goals
              go_wp2_with (first
                | (go_at_call 17; refine HCP.out.mono ?_; rintro e w3 ⟨rfl, rfl⟩; have HFU := Lib.hid ((Fr.refl (fun _ => False) wr).alloc (.cells (bkc B) 60)); have HFK := Lib.hid (Fr.refl (fun _ => False) (wr.alloc (.cells (bkc B) 60))); clear x0 x1 c0 c1 c2 c3 c4 r0 r1 r2 r3 r4 r5 r6; obtain ⟨⟨x0, x1⟩, ⟨c0, c1, c2, c3, c4⟩, ⟨r0, r1, r2, r3, r4, r5, r6⟩⟩ := HALL.out _ HFU.out)
                | (go_at_call 18; refine (HHS.out _ (HBK.out.kept0 HFU.out)).mono ?_; rintro e w4 ⟨rfl, hf4⟩; have HFU := Lib.hid (HFU.out.trans hf4); have HFK := Lib.hid (HFK.out.trans hf4); clear hf4; clear x0 x1 c0 c1 c2 c3 c4 r0 r1 r2 r3 r4 r5 r6; obtain ⟨⟨x0, x1⟩, ⟨c0, c1, c2, c3, c4⟩, ⟨r0, r1, r2, r3, r4, r5, r6⟩⟩ := HALL.out _ HFU.out)
                | (go_at_call 16; refine (HWH.out _ (HBK.out.kept0 HFU.out)).mono ?_; rintro e w5 ⟨rfl, hf5⟩; have HFU := Lib.hid (HFU.out.trans hf5); have HFK := Lib.hid (HFK.out.trans hf5); clear hf5; clear x0 x1 c0 c1 c2 c3 c4 r0 r1 r2 r3 r4 r5 r6; obtain ⟨⟨x0, x1⟩, ⟨c0, c1, c2, c3, c4⟩, ⟨r0, r1, r2, r3, r4, r5, r6⟩⟩ := HALL.out _ HFU.out))
              refine (HSM.out _ HFU.out HFK.out).mono ?_
              rintro e w6 ⟨rfl, hf6⟩
              have HFU := Lib.hid (HFU.out.trans hf6)
              clear hf6
              clear x0 x1 c0 c1 c2 c3 c4 r0 r1 r2 r3 r4 r5 r6
              obtain ⟨⟨x0, x1⟩, ⟨c0, c1, c2, c3, c4⟩, ⟨r0, r1, r2, r3, r4, r5, r6⟩⟩ := HALL.out _ HFU.out
              go_wp2_with (first
                | (go_at_call 20; refine (HAS.out _).mono ?_; rintro e w7 ⟨rfl, hf7⟩; have HFU := Lib.hid (HFU.out.trans hf7); clear hf7; clear x0 x1 c0 c1 c2 c3 c4 r0 r1 r2 r3 r4 r5 r6; obtain ⟨⟨x0, x1⟩, ⟨c0, c1, c2, c3, c4⟩, ⟨r0, r1, r2, r3, r4, r5, r6⟩⟩ := HALL.out _ HFU.out)
                | (go_at_call 21; refine (HRH.out _ (HRZ.out.kept HFU.out)).mono ?_; rintro e w8 ⟨rfl, hf8⟩; have HFU := Lib.hid (HFU.out.trans hf8); clear hf8; clear x0 x1 c0 c1 c2 c3 c4 r0 r1 r2 r3 r4 r5 r6; obtain ⟨⟨x0, x1⟩, ⟨c0, c1, c2, c3, c4⟩, ⟨r0, r1, r2, r3, r4, r5, r6⟩⟩ := HALL.out _ HFU.out)
                | (go_at_call 9; refine (HKN.out _).mono ?_; rintro e w9 ⟨rfl, hf9⟩))
              go_ret
              exact ⟨rfl, HFW.out.trans (HFU.out.trans hf9)⟩
        · have hm2 : ¬ (B.now ≤ z ∧ z ≤ 2147483647) := hm
          rw [if_neg hm2] at HAS
          rw [show hasA B z = (0, 0, 2) from if_neg hm] at HHS
          rw [show whA B z y = (0, 2) from if_neg hm] at HWH
          clear hm hm2
          go_wp2_with (first
            | (go_at_call 17; refine HCP.out.mono ?_; rintro e w3 ⟨rfl, rfl⟩; have HFU := Lib.hid ((Fr.refl (fun _ => False) wr).alloc (.cells (bkc B) 60)); have HFK := Lib.hid (Fr.refl (fun _ => False) (wr.alloc (.cells (bkc B) 60))); clear x0 x1 c0 c1 c2 c3 c4 r0 r1 r2 r3 r4 r5 r6; obtain ⟨⟨x0, x1⟩, ⟨c0, c1, c2, c3, c4⟩, ⟨r0, r1, r2, r3, r4, r5, r6⟩⟩ := HALL.out _ HFU.out)
            | (go_at_call 18; refine (HHS.out _ (HBK.out.kept0 HFU.out)).mono ?_; rintro e w4 ⟨rfl, hf4⟩; have HFU := Lib.hid (HFU.out.trans hf4); have HFK := Lib.hid (HFK.out.trans hf4); clear hf4; clear x0 x1 c0 c1 c2 c3 c4 r0 r1 r2 r3 r4 r5 r6; obtain ⟨⟨x0, x1⟩, ⟨c0, c1, c2, c3, c4⟩, ⟨r0, r1, r2, r3, r4, r5, r6⟩⟩ := HALL.out _ HFU.out)
            | (go_at_call 16; refine (HWH.out _ (HBK.out.kept0 HFU.out)).mono ?_; rintro e w5 ⟨rfl, hf5⟩; have HFU := Lib.hid (HFU.out.trans hf5); have HFK := Lib.hid (HFK.out.trans hf5); clear hf5; clear x0 x1 c0 c1 c2 c3 c4 r0 r1 r2 r3 r4 r5 r6; obtain ⟨⟨x0, x1⟩, ⟨c0, c1, c2, c3, c4⟩, ⟨r0, r1, r2, r3, r4, r5, r6⟩⟩ := HALL.out _ HFU.out))
          refine (HSM.out _ HFU.out HFK.out).mono ?_
          rintro e w6 ⟨rfl, hf6⟩
          have HFU := Lib.hid (HFU.out.trans hf6)
          clear hf6
          clear x0 x1 c0 c1 c2 c3 c4 r0 r1 r2 r3 r4 r5 r6
          obtain ⟨⟨x0, x1⟩, ⟨c0, c1, c2, c3, c4⟩, ⟨r0, r1, r2, r3, r4, r5, r6⟩⟩ := HALL.out _ HFU.out
          go_wp2_with (first
            | (go_at_call 20; refine (HAS.out _).mono ?_; rintro e w7 ⟨rfl, hf7⟩; have HFU := Lib.hid (HFU.out.trans hf7); clear hf7; clear x0 x1 c0 c1 c2 c3 c4 r0 r1 r2 r3 r4 r5 r6; obtain ⟨⟨x0, x1⟩, ⟨c0, c1, c2, c3, c4⟩, ⟨r0, r1, r2, r3, r4, r5, r6⟩⟩ := HALL.out _ HFU.out)
            | (go_at_call 9; refine (HKN.out _).mono ?_; rintro e w9 ⟨rfl, hf9⟩))
          go_ret
          exact ⟨rfl, HFW.out.trans (HFU.out.trans hf9)⟩
  · have HN := Lib.hid (new_no s hr)
    go_enter Try.func5, Try.ntmps5
    go_wp2_with fail
    refine (HN.out _).mono ?_
    rintro e w2 ⟨rfl, hf2⟩
    have HF := Lib.hid (HF0.out.trans hf2)
    clear hf2
    go_wp2_with (go_at_call 9; refine (HKN.out _).mono ?_; rintro e w6 ⟨rfl, hf6⟩)
    go_ret
    exact ⟨rfl, HF.out.trans hf6⟩
end Go.Proofs.Ytpelkgoipijiiaa
