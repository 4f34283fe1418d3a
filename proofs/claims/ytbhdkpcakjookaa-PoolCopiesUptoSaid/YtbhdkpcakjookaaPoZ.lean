/- Chapter 24: the statement PoolPlay walked. -/
import Derived.Test.YtbhdkpcakjookaaPoY
import Derived.Deep.DeepCutAuto
set_option linter.unusedVariables false
set_option linter.unusedSimpArgs false
namespace Go.Proofs.Ytbhdkpcakjookaa
open Go.RowKit
attribute [local go_sem] Oper.semAt_some

structure Ra.Ok1 (w : World) (r : Ra) : Prop where
  rd : Rd (fun _ => False) w r.A (u8s r.a.bytes)
  pick : InI r.a.pick
  bit : InI r.a.bit
theorem Ra.Ok1.ok {w w' : World} {r : Ra} (h : r.Ok1 w) (hl : r.a.bytes.length ≤ 5000) (hf : Fr0 w w') : r.Ok w' := ⟨(BArg.of_rd h.rd (by omega)).kept hf, h.pick, h.bit⟩
theorem fewB_at {l : List Ra} {most : Nat} (h : fewB l most = true) : l.length ≤ most ∧ ∀ r ∈ l, r.a.bytes.length ≤ 5000 := by
  simp only [fewB, Bool.and_eq_true, decide_eq_true_eq, List.all_eq_true] at h
  exact h
/-- The state behind so many calls. -/
def stF (most : Int) (s : Int × List Msg) (l : List Ra) (n : Nat) : Int × List Msg := (l.take n).foldl (fun s r => actF most s r.a) s
theorem stF_zero (most : Int) (s : Int × List Msg) (l : List Ra) : stF most s l 0 = s := rfl
theorem stF_succ (most : Int) (s : Int × List Msg) (l : List Ra) (n : Nat) (h : n < l.length) : stF most s l (n + 1) = actF most (stF most s l n) l[n].a := by
  rw [stF, List.take_succ_eq_append_getElem h, List.foldl_append]
  rfl
theorem Lim.new (most : Int) (h : 1 ≤ most ∧ most ≤ 4096) : Lim 0 most 0 [] := ⟨by omega, by omega, h, by simp, by simp⟩
theorem pw_oldest {w0 w : World} {b : Nat} {most last : Int} {ms : List Msg} (hp : Pw w0 w b most last ms) : Calls Try.prog 21 #[.pointer (some ⟨b, 0, none⟩)] w fun e w' => e = .returned (.tuple #[.int .i64 (old ms).1, .bool (old ms).2]) ∧ Fr0 w w' := by
  obtain ⟨L, h1, rfl, h3, h4⟩ := hp
  exact oldest_calls b most last L w h1
/-- Stores into a box of a document's pool leave a pool and the document's as they were. -/
theorem Du.keptZ {w0 w w' : World} {b : Nat} {v : Value} {K : Nat} {most last : Int} {ms : List Msg} (h : Du w0 w b v K most last ms) {z : Nat} {m l : Int} {A : Option Addr} {n c : Nat} {t : TypeId} {fr : Nat × Nat} (hz : w.heap[z]? = some (.cells (poc m l A n c) t fr)) (hzb : z ≠ b) (hz0 : w0.heap.size ≤ z) (hf : Fr (fun k => k = z) w w') : Du w0 w' b v K most last ms := by
  obtain ⟨⟨LL, h1, h2, h3, h4⟩, hrp, hl⟩ := h
  obtain ⟨A0, c0, hbb, hlp⟩ := h1.ex
  exact ⟨⟨LL, ⟨⟨A0, c0, hf.blk hbb (fun e => hzb e.symm), hlp.keptB hz hf⟩, h1.most⟩, h2, h3, Fr0.of_new h4 hz0 hf⟩, hrp.keptB hz hf, hl⟩
/-- A box that holds a document's pool. -/
def BoxR (w : World) (q : Nat) (v : Value) : Prop := ∃ cs, v = .agg cs ∧ w.heap[q]? = some (.cells cs 45 (0, 0))
set_option maxRecDepth 100000 in
set_option maxHeartbeats 4000000 in
theorem pplay_walk (most : Int) (A : Option Addr) (c : Nat) (l : List Ra) (link : Int) (w : World) (hR : Rd (fun _ => False) w A (ras l)) (hok : ∀ r ∈ l, r.Ok1 w) (hl : l.length ≤ 140737488351232) :
    Calls Try.prog 6 #[.int .i64 most, .slice A l.length c, .int .i64 link] w (Yes w) := by
  have HKN := Lib.hid known24_calls
  have HFEW := Lib.hid (few_calls A c l 40 w hR (by decide) hl)
  by_cases hfew : fewB l 40 = true
  · obtain ⟨hl40, hb5⟩ := fewB_at hfew
    rw [hfew] at HFEW
    by_cases hm : 1 ≤ most ∧ most ≤ 4096
    · have hm1 : ¬ most < 1 := by omega
      have hm2 : ¬ 4096 < most := by omega
      have HR := Lib.hid hR
      have HOK := Lib.hid (fun (k : Nat) (hk : k < l.length) (U : World) (hf : Fr0 w U) => (hok _ (List.getElem_mem hk)).ok (hb5 _ (List.getElem_mem hk)) hf)
      clear hfew hR hok hb5 hl
      go_enter Try.func6, Try.ntmps6
      go_wp2_with (first
        | (go_at_call 18; refine HFEW.out.mono ?_; rintro e w1 ⟨rfl, hf1⟩; have HF1 := Lib.hid hf1; clear hf1)
        | (go_at_call 10; refine (pw_new most w _ HF1.out hm).mono ?_; rintro e w2 ⟨b, rfl, hp2, hf2⟩; have HP2 := Lib.hid hp2; clear hp2 hf2))
      have hfa := (Fr.refl (fun _ => False) w2).alloc (.cells (poc most 0 none 0 0) 45)
      have HDU := Lib.hid (show Du w (w2.alloc (.cells (poc most 0 none 0 0) 45)) b (pov most 0 none 0 0) 0 most 0 [] from ⟨HP2.out.kept hfa, ⟨none, 0, [], rfl, .nil_ _, rfl⟩, .new most hm⟩)
      have HBX := Lib.hid (heap_alloc_new w2 (.cells (poc most 0 none 0 0) 45))
      have HQ := Lib.hid (And.intro HP2.out.fr.size HP2.out.lt)
      clear hfa
      generalize w2.heap.size = q at *
      generalize w2.alloc (.cells #[.int .i64 most, .int .i64 0, .slice none 0 0] 45) = W at *
      go_loopw [10] (fun i wr => ∃ (n : Nat) (ga : Option Addr) (gn gc : Nat), i = .int .i64 (n : Int) ∧ n ≤ l.length ∧ Hid (Du w wr b (pov most (stF most (0, []) l n).1 ga gn gc) n most (stF most (0, []) l n).1 (stF most (0, []) l n).2) ∧ Hid (wr.heap[q]? = some (.cells (poc most (stF most (0, []) l n).1 ga gn gc) 45 (0, 0))))
        (fun i _ => l.length - (intOf i).toNat)
      case atStart => exact ⟨0, none, 0, 0, rfl, Nat.zero_le _, HDU.out, HBX.out⟩
      case round =>
        obtain ⟨n, ga, gn, gc, rfl, hn, HD, HB⟩ := hrel
        by_cases hlt : n < l.length
        · have HST := Lib.hid (stF_succ most (0, []) l n hlt)
          generalize stF most (0, []) l n = st at *
          obtain ⟨la, ms⟩ := st
          obtain ⟨g, off, rfl⟩ := HR.out.some_ (by rw [ras_length]; omega)
          have HAC := Lib.hid (fun U (hf : Fr0 w U) => rd_ra (HR.out.kept hf) n hlt)
          have HRO := Lib.hid (fun U (hf : Fr0 w U) => HOK.out n hlt U hf)
          have hi1 : (0 : Int) ≤ (n : Int) := by omega
          have hi2 : (n : Int) < (l.length : Int) := by omega
          generalize l[n] = r at *
          have HDO := Lib.hid (fun U (hf : Fr0 wr U) => does_any w b _ n most (la, ms) r U (HD.out.kept hf) (HRO.out U (HD.out.pw.fr.trans hf)) (by omega))
          generalize hst : actF most (la, ms) r.a = st2 at *
          clear hst
          obtain ⟨la', ms'⟩ := st2
          dsimp only at HDO HD HB
          have HQ2 := Lib.hid (show q < wr.heap.size from lt_of_block HB.out)
          have HBN := Lib.hid (show b < wr.heap.size from HD.out.pw.lt)
          have HK := Lib.hid (fun U (h : Fr (fun k => k = b) wr U) => And.intro (po_cells2 (h.blk HB.out (fun e => by have := HQ.out; omega))).1 (HAC.out U (Fr0.of_new HD.out.pw.fr (by obtain ⟨_, _, _, h3, _⟩ := HD.out.pw; exact h3) h)))
          go_upto_region 10 with fail
          go_cut [11, 12] (fun s11 s12 wx => ∃ (p : Nat) (A5 : Option Addr) (n5 c5 : Nat), s11 = .pointer (some ⟨p, 0, none⟩) ∧ s12 = .bool true ∧ wr.heap.size ≤ p ∧ Hid (Du w wx b (pov most la' A5 n5 c5) (n + 1) most la' ms') ∧ Hid (wx.heap[p]? = some (.cells (poc most la' A5 n5 c5) 45 (0, 0))) ∧ Hid (wx.heap[q]? = some (.cells (poc most la ga gn gc) 45 (0, 0))))
          case first =>
            go_region_held3 (fun U => (U.cell? ⟨q, 0, none⟩ = some (.int .i64 most) ∧ U.cell? ⟨q, 1, none⟩ = some (.int .i64 la) ∧ U.cell? ⟨q, 2, none⟩ = some (.slice ga gn gc)) ∧ U.cell? ⟨g, off + n * 5, none⟩ = some (.int .i64 r.a.kind) ∧ U.cell? ⟨g, off + n * 5 + 1, none⟩ = some (.int .i64 r.a.pick) ∧ U.cell? ⟨g, off + n * 5 + 2, none⟩ = some (.int .i64 r.a.bit) ∧ U.cell? ⟨g, off + n * 5 + 3, none⟩ = some (.int .i64 r.a.now) ∧ U.cell? ⟨g, off + n * 5 + 4, none⟩ = some (.slice r.A r.a.bytes.length r.c))
              ((refine HK.out _ ?_; with_reducible repeat (first | exact hfn | exact Fr.refl _ _ | refine Fr.drew ?_ | refine Fr.alloc ?_ _ | refine Fr.setCell ?_ (fun h => by exfalso; have hs := Fr.size hfn; dsimp only at h; omega) _)))
              ((go_at_call 19; (with_reducible refine (HDO.out _ (by with_reducible repeat (first | exact Fr.refl _ _ | refine Fr.drew ?_ | refine Fr.alloc ?_ _))).mono ?_); rintro e w5 ⟨⟨v5, rfl, hdu5⟩, hf5⟩; obtain ⟨A5, c5, L5, rfl, _, _⟩ := hdu5.rp; have hfn : Fr (fun k => k = b) wr w5 := Fr.trans (by with_reducible repeat (first | exact Fr.refl _ _ | refine Fr.drew ?_ | refine Fr.alloc ?_ _)) hf5; try (have hzz : w5.heap[wr.heap.size]? = some (.cells (poc 0 0 none 0 0) 45 (0, 0)) := hf5.blk (heap_alloc_new _ _) (fun e => by have := HBN.out; omega); obtain ⟨⟨z0, z1, z2⟩, f0, f1, f2⟩ := po_cells2 hzz)))
            · have HX := Lib.hid (hdu5.kept ((Fr.refl _ w5).alloc (.cells (poc most la' A5 L5.length c5) 45)))
              have HY := Lib.hid (heap_alloc_new w5 (.cells (poc most la' A5 L5.length c5) 45))
              have HZ := Lib.hid (blk_alloc (hfn.blk HB.out (fun e => by have := HQ.out; omega)) (.cells (poc most la' A5 L5.length c5) 45))
              have HW := Lib.hid hfn.size
              clear hdu5 hf5 hfn
              go_wp2_with fail
              go_meet
              exact ⟨w5.heap.size, A5, L5.length, c5, rfl, rfl, HW.out, HX.out, HY.out, HZ.out⟩
            · have HX := Lib.hid (hdu5.keptZ hzz (by have := HBN.out; omega) HD.out.pw.fr.size (putP_fr (S := fun k => k = wr.heap.size) (Fr.refl _ w5) (k := wr.heap.size) (fun _ => rfl) (m := most) (l := la') (A := A5) (n := L5.length) (c := c5)))
              have HY := Lib.hid (putP_blk hzz most la' A5 L5.length c5)
              have HZ := Lib.hid (putP_other (hfn.blk HB.out (fun e => by have := HQ.out; omega)) (k := wr.heap.size) (by have := HQ2.out; omega) most la' A5 L5.length c5)
              have HE : putP w5 wr.heap.size most la' A5 L5.length c5 = (((w5.setCell ⟨wr.heap.size, 0, none⟩ (.int .i64 most)).setCell ⟨wr.heap.size, 1, none⟩ (.int .i64 la')).setCell ⟨wr.heap.size, 2, none⟩ (.slice A5 L5.length c5)) := rfl
              rw [← HE]
              clear HE hdu5 hf5 hfn hzz z0 z1 z2 f0 f1 f2
              generalize putP w5 wr.heap.size most la' A5 L5.length c5 = WF at *
              go_wp2_with fail
              go_meet
              exact ⟨wr.heap.size, A5, L5.length, c5, rfl, rfl, Nat.le_refl _, HX.out, HY.out, HZ.out⟩
          case rest =>
            obtain ⟨p, A5, n5, c5, rfl, rfl, hwp, HX, HY, HZ⟩ := hcut
            have HSM := Lib.hid (same_calls w b _ (n + 1) most la' ms' wc HX.out)
            obtain ⟨⟨x0, x1, x2⟩, _⟩ := po_cells2 HY.out
            go_upto_region 13 with (go_at_call 20; refine HSM.out.mono ?_; rintro e w6 ⟨rfl, hf6⟩)
            have HX6 := Lib.hid (HX.out.kept hf6)
            have hy6 := hf6.blk HY.out (fun h => h)
            have hz6 := hf6.blk HZ.out (fun h => h)
            have HRE := Lib.hid (show Du w (putP w6 q most la' A5 n5 c5) b (pov most la' A5 n5 c5) (n + 1) most la' ms' from HX6.out.keptZ hz6 (by have := HQ.out; omega) (HQ.out.1) (putP_fr (S := fun k => k = q) (Fr.refl _ w6) (fun _ => rfl)))
            have HRB := Lib.hid (putP_blk hz6 most la' A5 n5 c5)
            obtain ⟨⟨x0, x1, x2⟩, _⟩ := po_cells2 hy6
            obtain ⟨⟨y0, y1, y2⟩, f0, f1, f2⟩ := po_cells2 hz6
            have HE : putP w6 q most la' A5 n5 c5 = (((w6.setCell ⟨q, 0, none⟩ (.int .i64 most)).setCell ⟨q, 1, none⟩ (.int .i64 la')).setCell ⟨q, 2, none⟩ (.slice A5 n5 c5)) := rfl
            clear hy6 hz6 hf6
            go_wp2_with fail
            rw [← HE]
            go_roundw
            case rel => exact ⟨n + 1, A5, n5, c5, by go_num, by omega, by rw [HST.out]; exact HRE.out, by rw [HST.out]; exact HRB.out⟩
            case measure => simp [intOf]; omega
        · obtain rfl : n = l.length := by omega
          obtain ⟨W1, hW1⟩ : ∃ W1, W1 = wr := ⟨_, rfl⟩
          subst hW1
          generalize stF most (0, []) l l.length = st at *
          obtain ⟨la, ms⟩ := st
          dsimp only at HD HB
          obtain ⟨ga', gc', L, heq, hls, hms⟩ := HD.out.rp
          obtain ⟨rfl, rfl, rfl⟩ : ga = ga' ∧ gn = L.length ∧ gc = gc' := by simpa using heq
          have HLS := Lib.hid hls
          have HMS := Lib.hid hms
          have HPW := Lib.hid HD.out.pw
          have hml : L.length ≤ 4096 := by have := HD.out.lim.len; rw [← hms] at this; simpa using this
          have HBX2 := Lib.hid (fun U (hf : Fr0 W1 U) => (po_cells2 (hf.blk HB.out (fun h => h))).1)
          clear hls hms heq HD
          go_wp2_with fail
          go_loopw [13, 14, 15, 16] (fun ov le is i wx => ∃ (n : Nat) (M : List Rm), i = .int .i64 (n : Int) ∧ n ≤ L.length ∧ le = .int .i64 (old (ms.take n)).1 ∧ is = .bool (old (ms.take n)).2 ∧ M.length ≤ n ∧ Hid (rmRow wx W1.heap.size ov M) ∧ Hid (msgs M = (ms.take n).filter (fun m => decide (m.link = link))) ∧ Hid (∀ r ∈ M, r ∈ L) ∧ Hid (Fr0 W1 wx))
            (fun _ _ _ i _ => L.length - (intOf i).toNat)
          case atStart => exact ⟨0, [], rfl, Nat.zero_le _, rfl, rfl, Nat.le_refl _, own_nil _ _ _ _, rfl, (by simp [Hid]), Fr.refl _ _⟩
          case round =>
            obtain ⟨n, M, rfl, hnL, rfl, rfl, hMn, HO, HMM, HMI, HF2⟩ := hrel
            obtain ⟨k0, k1, k2⟩ := HBX2.out _ HF2.out
            by_cases hlt2 : n < L.length
            · obtain ⟨g, off, rfl⟩ := HLS.out.rd.some_ (by rw [rms_length]; omega)
              obtain ⟨d0, d1, d2, d3⟩ := rd_rm (HLS.out.rd.kept HF2.out) n hlt2
              have hi1 : (0 : Int) ≤ (n : Int) := by omega
              have hi2 : (n : Int) < (L.length : Int) := by omega
              have hmn : ms[n]? = some L[n].m := by rw [← HMS.out]; simp [msgs, hlt2]
              have HTK := Lib.hid (show ms.take (n + 1) = ms.take n ++ [L[n].m] by rw [List.take_add_one, hmn]; rfl)
              have HOL := Lib.hid (show old (ms.take (n + 1)) = oldS (old (ms.take n)) L[n].m by rw [HTK.out, old_snoc])
              have HRI := Lib.hid (List.getElem_mem hlt2)
              have HDX := Lib.hid (fun U (hf : Fr0 W1 U) => rd_rm (HLS.out.rd.kept hf) n hlt2)
              generalize hog : old (ms.take n) = og at *
              obtain ⟨ol, ob⟩ := og
              generalize L[n] = x at *
              clear hmn hog
              obtain ⟨A1, cv, rfl, hvc, hvm⟩ := own_form HO.out
              have hsz := HF2.out.size
              have HSN := Lib.hid hsz
              by_cases hlk : x.m.link = link
              case' pos =>
                have hq1 : (x.m.link == link) = true := by simpa using hlk
                have HLK := Lib.hid hlk
                clear hlk
                go_upto_region 21 with (at_builtin; refine wpList_app rfl (.tmp 85) (.tmp 91) _ rfl Try.underlying36 rm_elem (base := W1.heap.size) (.slice A1 M.length cv) M.length (rms M) rfl (own_kept0 HO.out ((Fr.refl _ wr).alloc _)) (fun _ => False) _ 1 1 (rms [x]) rfl (rd_rm1 _ _ x _ (fun h => h)) rfl (rms_one _) (by simp only [maxLen]; omega) (by omega) (by simp; omega) (by simp) ?_; intro v6 w6 hown hg hat)
                obtain ⟨A2, c2, rfl, _, _⟩ := own_form hown
                have HF3 := Lib.hid (show Fr0 W1 w6 from (HF2.out.alloc _).grown hg (fun k hk e => by have := (own_blk HO.out e).1; omega))
                rw [← rms_append] at hown
                have HO2 := Lib.hid (show rmRow w6 W1.heap.size (.slice A2 (M.length + 1) c2) (M ++ [x]) by
                  show World.ownsRow _ _ _ _ _ _ _
                  rw [List.length_append]
                  exact hown)
                have HL2 := Lib.hid (show (M ++ [x]).length ≤ n + 1 by simp; omega)
                have HMM2 := Lib.hid (show msgs (M ++ [x]) = (ms.take (n + 1)).filter (fun m => decide (m.link = link)) by
                  rw [HTK.out, List.filter_append, ← HMM.out]
                  simp [msgs, HLK.out])
                have HMI2 := Lib.hid (show ∀ r ∈ M ++ [x], r ∈ L from fun r hr => by
                  rcases List.mem_append.1 hr with hr | hr
                  · exact HMI.out r hr
                  · obtain rfl : r = x := by simpa using hr
                    exact HRI.out)
                clear hown hg hat HO HMM HMI HLK hq1 d0 d1 d2 d3 k0 k1 k2
                generalize M.length + 1 = N2 at *
                generalize M ++ [x] = M2 at *
                generalize w6 = W2 at *
                skip
              case' neg =>
                have hq1 : (x.m.link == link) = false := by simpa using hlk
                have HLK := Lib.hid hlk
                clear hlk
                go_upto_region 21 with fail
                have HF3 := HF2
                have HO2 := HO
                have HL2 := Lib.hid (show M.length ≤ n + 1 by omega)
                have HMM2 := Lib.hid (show msgs M = (ms.take (n + 1)).filter (fun m => decide (m.link = link)) by
                  rw [HTK.out, List.filter_append, ← HMM.out]
                  simp [HLK.out])
                have HMI2 := HMI
                obtain ⟨A2, hA2⟩ : ∃ A2, A2 = A1 := ⟨_, rfl⟩
                obtain ⟨c2, hc2⟩ : ∃ c2, c2 = cv := ⟨_, rfl⟩
                subst hA2 hc2
                clear HO HMM HMI HLK hq1 d0 d1 d2 d3 k0 k1 k2
                obtain ⟨M2, hM2⟩ : ∃ M2, M2 = M := ⟨_, rfl⟩
                subst hM2
                generalize M2.length = N2 at HO2 ⊢
                generalize wr = W2 at *
                skip
              all_goals
                obtain ⟨k0, k1, k2⟩ := HBX2.out _ HF3.out
                obtain ⟨d0, d1, d2, d3⟩ := HDX.out _ HF3.out
                cases ob with
                | false =>
                  have HOE := Lib.hid (show old (ms.take (n + 1)) = (x.m.since, true) by rw [HOL.out]; simp [oldS])
                  go_wp2_with fail
                  go_roundw
                  case rel => exact ⟨n + 1, M2, by go_num, by omega, by rw [HOE.out], by rw [HOE.out], HL2.out, HO2.out, HMM2.out, HMI2.out, HF3.out⟩
                  case measure => simp [intOf]; omega
                | true =>
                  by_cases hlo : x.m.since < ol
                  · have HOE := Lib.hid (show old (ms.take (n + 1)) = (x.m.since, true) by rw [HOL.out]; simp [oldS, hlo])
                    go_wp2_with fail
                    go_roundw
                    case rel => exact ⟨n + 1, M2, by go_num, by omega, by rw [HOE.out], by rw [HOE.out], HL2.out, HO2.out, HMM2.out, HMI2.out, HF3.out⟩
                    case measure => simp [intOf]; omega
                  · have HOE := Lib.hid (show old (ms.take (n + 1)) = (ol, true) by rw [HOL.out]; simp only [oldS, Bool.not_true, Bool.false_or, decide_eq_true_eq]; rw [if_neg hlo])
                    go_wp2_with fail
                    go_roundw
                    case rel => exact ⟨n + 1, M2, by go_num, by omega, by rw [HOE.out], by rw [HOE.out], HL2.out, HO2.out, HMM2.out, HMI2.out, HF3.out⟩
                    case measure => simp [intOf]; omega
            · obtain rfl : n = L.length := by omega
              have HLN := Lib.hid (show ms.length = L.length by rw [← HMS.out]; simp)
              have HOLD := Lib.hid (pw_oldest (HPW.out.kept HF2.out))
              rw [List.take_of_length_le (by rw [HLN.out]; exact Nat.le_refl _)] at HMM ⊢
              obtain ⟨A1, cv, rfl, hvc, hvm⟩ := own_form HO.out
              have HI := Lib.hid (own_isls HO.out (fun r hr => (HLS.out.ok r (HMI.out r hr)).kept HF2.out) (by omega)).2
              have HML := Lib.hid (show ((ms.filter (fun m => decide (m.link = link))).length : Nat) = M.length by rw [← HMM.out]; simp)
              have HPO := Lib.hid (fun U (hf : Fr0 wr U) => pw_over ((HPW.out.kept HF2.out).kept hf) link)
              have HSM := Lib.hid (fun U A5 c5 M5 (h5 : IsLs U A5 c5 M5) (hm : msgs M5 = ms.filter (fun m => decide (m.link = link))) (hf : Fr0 wr U) => show Calls Try.prog 22 #[.slice A5 (ms.filter (fun m => decide (m.link = link))).length c5, .slice A1 M.length cv] U fun e w' => e = .returned (.bool true) ∧ Fr0 U w' from by
                have := rsame_calls A5 A1 c5 cv M5 M U h5 (HI.out.kept hf)
                rw [show M5.length = (ms.filter (fun m => decide (m.link = link))).length by rw [← hm]; simp, show decide (msgs M5 = msgs M) = true by rw [hm, HMM.out]; simp] at this
                exact this)
              have HFW := Lib.hid (HPW.out.fr.trans HF2.out)
              have hfl : (ms.filter (fun m => decide (m.link = link))).length ≤ 1000000 := Nat.le_trans (List.length_filter_le _ _) (by rw [HLN.out]; omega)
              generalize ms.filter (fun m => decide (m.link = link)) = fs at *
              generalize old ms = od at *
              obtain ⟨ol, ob⟩ := od
              go_wp2_with (first
                | (go_at_call 21; refine HOLD.out.mono ?_; rintro e w5 ⟨rfl, hf5⟩)
                | (go_at_call 16; (with_reducible refine (HPO.out _ hf5).mono ?_); rintro e w6 hpost; obtain ⟨A6, c6, M6, rfl, hls6, hm6, _, hf6⟩ := hpost.isls hfl)
                | (go_at_call 22; (with_reducible refine (HSM.out _ _ _ _ hls6 hm6 (hf5.trans hf6)).mono ?_); rintro e w7 ⟨rfl, hf7⟩)
                | (go_at_call 9; refine (HKN.out _).mono ?_; rintro e w8 ⟨rfl, hf8⟩))
              go_ret
              exact ⟨rfl, HFW.out.trans (((hf5.trans hf6).trans hf7).trans hf8)⟩
    · have hbad : most < 1 ∨ 4096 < most := by omega
      clear hm
      rcases hbad with hm1 | hm1
      all_goals
        first
          | have hm2 : ¬ 4096 < most := by omega
          | have hm2 : ¬ most < 1 := by omega
        go_enter Try.func6, Try.ntmps6
        go_wp2_with (first
          | (go_at_call 18; refine HFEW.out.mono ?_; rintro e w1 ⟨rfl, hf1⟩)
          | (go_at_call 10; refine (pnew_no most w1 (by first | exact .inl hm1 | exact .inr hm1 | omega)).mono ?_; rintro e w2 ⟨rfl, rfl⟩)
          | (go_at_call 9; refine (HKN.out _).mono ?_; rintro e w8 ⟨rfl, hf8⟩))
        go_ret
        exact ⟨rfl, hf1.trans hf8⟩
  · have hfew' : fewB l 40 = false := by simpa using hfew
    rw [hfew'] at HFEW
    go_enter Try.func6, Try.ntmps6
    go_wp2_with (first
      | (go_at_call 18; refine HFEW.out.mono ?_; rintro e w1 ⟨rfl, hf1⟩)
      | (go_at_call 9; refine (HKN.out _).mono ?_; rintro e w8 ⟨rfl, hf8⟩))
    go_ret
    exact ⟨rfl, hf1.trans hf8⟩
end Go.Proofs.Ytbhdkpcakjookaa
