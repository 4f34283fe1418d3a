/- Chapter 15: the statement FifoCopies walked. -/
import Derived.Test.YtfiiikgjgcnjgaaFfN2
import Derived.Test.YtfiiikgjgcnjgaaFfY0
import Derived.Test.YtfiiikgjgcnjgaaFfY1
set_option linter.unusedVariables false
set_option linter.unusedSimpArgs false
namespace Go.Proofs.Ytfiiikgjgcnjgaa
open Go.RowKit
attribute [local go_sem] Oper.semAt_some

set_option maxRecDepth 100000 in
set_option maxHeartbeats 8000000 in
theorem fcopies_walk (A0 : Option Addr) (c0 : Nat) (l0 : List (Int × Pk)) (A1 : Option Addr) (c1 : Nat) (l1 : List (Int × Pk)) (many : Int) (w : World) (hR0 : Rd (fun _ => False) w A0 (acts l0)) (hR1 : Rd (fun _ => False) w A1 (acts l1)) (hl0 : l0.length ≤ 140737488351232) (hl1 : l1.length ≤ 140737488351232) :
    Calls Try.prog 6 #[.slice A0 l0.length c0, .slice A1 l1.length c1, .int .i64 many] w (Yes w) := by
  have HKN := Lib.hid known15_calls
  have HMB := Lib.hid (show ((w.alloc (.cells #[.int .i64 many] 3)).alloc (.cells #[.bool false] 4)).heap[w.heap.size]? = some (.cells #[.int .i64 many] 3 (0, 0)) from blk_alloc (heap_alloc_new _ _) _)
  have HRB := Lib.hid (show ((w.alloc (.cells #[.int .i64 many] 3)).alloc (.cells #[.bool false] 4)).heap[w.heap.size + 1]? = some (.cells #[.bool false] 4 (0, 0)) from heap_alloc_nn (by simp))
  have HF := Lib.hid (((Fr.refl (fun _ => False) w).alloc (.cells #[.int .i64 many] 3)).alloc (.cells #[.bool false] 4))
  have HSZ := Lib.hid (show ((w.alloc (.cells #[.int .i64 many] 3)).alloc (.cells #[.bool false] 4)).heap.size = w.heap.size + 2 by simp)
  have HR0 := Lib.hid (hR0.kept HF.out)
  have HR1 := Lib.hid (hR1.kept HF.out)
  clear hR0 hR1
  have cm := cell_of_blk HMB.out 0
  have hfn : ∀ (q : Nat) (w : World), (binOp .eql 51 (seqFn q) Value.nilFunc).run Try.prog w = .ok (.bool false) w := fun _ _ => rfl
  by_cases hg : l0.length + l1.length ≤ 60 ∧ 1 ≤ many ∧ many ≤ 60
  · obtain ⟨hg1, hg2, hg3⟩ := hg
    have hg1' : ¬ 60 < (l0.length : Int) + (l1.length : Int) := by omega
    refine (callsIn_wide (n := 5)).1 ?_
    refine callsIn_of_wp_marks Try.func6 rfl trivial ?_ rfl
    simp only [Try.ntmps6, List.size_toArray, List.length_cons, List.length_nil, Nat.reduceAdd, Nat.reduceSub, Array.replicate_succ, Array.replicate_zero, List.push_toArray, List.append_toArray, List.nil_append, List.cons_append]
    refine wpIn_wide.2 ?_
    go_wp2_with fail
    generalize ((w.alloc (.cells #[.int .i64 many] 3)).alloc (.cells #[.bool false] 4)) = wB at *
    refine (lw_new 300 wB wB (Fr.refl _ _) (by decide)).mono ?_
    rintro e w2 ⟨b, rfl, ⟨g0, hln, hgb⟩, hb, hf2, hok⟩
    have HC0 := Lib.hid (show Cop (fun _ => False) wB (w2.alloc (.cells (rlc 300 none 0 0 0 0) 30)) b g0 w2.heap.size none 0 ⟨[], 0, 0, 300⟩ 0 from
      ⟨⟨hln.kept0 ((Fr.refl _ w2).alloc _), ⟨none, 0, rfl, Rd.nil _ _ _, Nat.le_refl _, by simp [maxLen], fun _ => rfl⟩, hok⟩, heap_alloc_new _ _, .inr hb, .inr hgb, .inr hf2.size, by have := hln.lt; omega, by have := hln.lt; omega, rfl⟩)
    have HF0 := Lib.hid (hf2.alloc (.cells (rlc 300 none 0 0 0 0) 30))
    clear hln hgb hb hf2 hok
    go_wp2_with fail
    generalize w2.alloc (.cells (rlc 300 none 0 0 0 0) 30) = w4 at *
    generalize w2.heap.size = r at *
    go_loopw [10] (fun i wr => ∃ (k : Nat) (s : Fs) (g : Nat) (A2 : Option Addr) (c2 : Nat), k ≤ l0.length ∧ i = .int .i64 (k : Int) ∧ Hid (Cop (fun _ => False) wB wr b g r A2 c2 s k) ∧ Hid (Fr0 wB wr)) (fun i _ => l0.length - (intOf i).toNat)
    case atStart => exact ⟨0, ⟨[], 0, 0, 300⟩, g0, none, 0, by omega, rfl, HC0.out, HF0.out⟩
    case round =>
      obtain ⟨k, s, g, A2, c2, hk, rfl, HC, HFR⟩ := hrel
      by_cases hlt : k < l0.length
      · have HRW := Lib.hid (HR0.out.kept HFR.out)
        obtain ⟨p, off, rfl⟩ := HRW.out.some_ (by rw [acts_length]; omega)
        have hi1 : (0 : Int) ≤ (k : Int) := by omega
        have hi2 : (k : Int) < (l0.length : Int) := by omega
        obtain ⟨d0, d1, d2, d3⟩ := rd_act (HRW.out.kept (Fr.refl _ wr).drew) k hlt
        obtain ⟨⟨o0, o1, o2, o3⟩, _⟩ := rl_cells (show wr.drew.heap[r]? = _ from HC.out.box)
        have HDO := Lib.hid (fun w' (hf : Fr0 wr w') => does_any b g _ s k l0[k].1 l0[k].2 w' (HC.out.two.kept0 hf) (by omega))
        have HRM := Lib.hid (act_room s l0[k].1 l0[k].2)
        generalize l0[k].1 = ak at *
        generalize l0[k].2 = ap at *
        generalize s.act ak ap = s2 at *
        go_wp2_with fail
        refine wp_region_noPanic ?_
        go_region_law ((go_simp; go_at_call 10; (with_reducible refine (HDO.out _ (Fr.refl _ wr).drew).mono ?_); rintro e wA ⟨⟨u, g2, rfl, htw, hg2⟩, hfA⟩; obtain ⟨A3, c3, rfl, hrest⟩ := htw.rl.ex; have hfB : Fr (fun k => k = b ∨ k = g) wr wA := (Fr.refl _ wr).drew.trans hfA; obtain ⟨⟨z0, z1, z2, z3⟩, f0, f1, f2, f3⟩ := rl_cells (hfB.blk HC.out.box (fun e => by have := HC.out.rb; have := HC.out.rg; omega))))
        all_goals
          refine NoPanic.normal ?_
          obtain ⟨hn1, hn2⟩ := HC.out.next HFR.out.size htw hg2 hfB HRM.out
          have HN1 := Lib.hid hn1
          have HN2 := Lib.hid (HFR.out.then hn2 HC.out.of)
          generalize hch : ((((wA.setCell ⟨r, 0, none⟩ (.int .i64 s2.room)).setCell ⟨r, 1, none⟩ (.slice A3 s2.l.length c3)).setCell ⟨r, 2, none⟩ (.int .i64 s2.lp)).setCell ⟨r, 3, none⟩ (.int .i64 s2.lb)) = Wf at *
          have hW : putRl wA r s2.room A3 s2.l.length c3 s2.lp s2.lb = Wf := hch
          rw [hW] at HN1 HN2
          clear hW hch hn1 hn2 htw hg2 hfA hfB z0 z1 z2 z3 f0 f1 f2 f3 d0 d1 d2 d3 o0 o1 o2 o3
          go_wp2_with fail
          go_roundw
          case rel => exact ⟨k + 1, s2, g2, A3, c3, by omega, by go_num, HN1.out, HN2.out⟩
          case measure => simp [intOf]; omega
      · have hkk : k = l0.length := by omega
        clear hlt hk
        have HCP := Lib.hid (fcopy_any b g s k wr HC.out.two.ln)
        have HAL := Lib.hid (fun w' (hf : Fr0 wr w') => fall_any b g s k w' (HC.out.two.ln.kept0 hf))
        go_wp2_with fail
        refine HCP.out.mono ?_
        rintro e w6 ⟨⟨b2, g2, rfl, hb2, hg2, hln2⟩, hf6⟩
        have HB2 := Lib.hid (And.intro hb2 (And.intro hg2 hln2))
        have HF6 := Lib.hid hf6
        clear hb2 hg2 hln2 hf6
        obtain ⟨⟨q0, q1, q2, q3⟩, _⟩ := rl_cells (HF6.out.blk HC.out.box (fun h => h))
        have HF7 := Lib.hid (HF6.out.alloc (.cells (rlc s.room A2 s.l.length c2 s.lp s.lb) 30))
        go_wp2_with (go_at_call 19; refine (HAL.out _ HF7.out).mono ?_; rintro e w8 ⟨⟨f, rfl, p, A, c, rfl, hp1, hp2, hp3⟩, hf8⟩)
        have HF8 := Lib.hid hf8
        have HRD := Lib.hid (HC.out.two.rl.rd).1
        have HPQ := Lib.hid (show p < w8.heap.size from lt_of_block hp2)
        have HP2 := Lib.hid hp2
        have HP3 := Lib.hid hp3
        have HP1 := Lib.hid hp1
        have HCT := Lib.hid (show Cnt w8 (w8.alloc (.cells #[.int .i64 0] 3)) w8.heap.size 0 from ⟨heap_alloc_new _ _, (Fr.refl _ w8).alloc _, Nat.le_refl _⟩)
        have HFW := Lib.hid (show Fr0 wr w8 from HF7.out.trans hf8)
        have HW9 := Lib.hid (show (w8.alloc (.cells #[.int .i64 0] 3)).heap.size = w8.heap.size + 1 by simp)
        have hseq := fall1_stops Fence.wide (5 - 1) trivial rfl (by omega) p (fun k => k = w8.heap.size) A c s.l (by have := HC.out.two.ok.len; simp only [maxLen]; omega) (w8.alloc (.cells #[.int .i64 0] 3)) (((Fr.refl (fun _ => False) w8).alloc _).cell ((cell_of_blk hp2 0).trans (by simp)) (fun h => h)) ((hp3.mono (T := fun k => k = w8.heap.size) (fun k hk e => by subst e; omega)).kept ((Fr.refl _ w8).alloc _))
        clear hp1 hp2 hp3 hf8 q0 q1 q2 q3
        generalize w8.alloc (.cells #[.int .i64 0] 3) = w9 at *
        refine (wpIn_wide (n := 5)).1 ?_
        have hmx : Try.prog.follows .mixedOrders = true := by kernel_rfl
        refine' wpIn_rangeFunc_box rfl (by omega) (gf := 35) (lb := #[.pointer (some ⟨p, 0, none⟩)]) rfl trivial (enters_of Try.func35 (by kernel_rfl) rfl)
          hseq (fun h k => h.trans k) (fun W l o o' _ h ho _ => Ck.putObj W l o o' h ho) (fun W o => Ck.of_fr ((Fr.refl _ W).alloc o)) (Below.refl _ _) (fun _ => rfl)
          (fun pre W => Cnt w8 W w8.heap.size pre.length ∧ pre <+: s.l ∧ (pre.length : Int) < many)
          (fun c pre W => (c = .ret ∧ ¬ pre <+: s.l) ∨ (c = .exit 2 ∧ Cnt w8 W w8.heap.size (min many s.l.length))) ?own ?ownx ?sz ?atstart (fun x => (pkc x).toArray) 34 _ ?assign ?body (fun W => Cnt w8 W w8.heap.size (min many s.l.length)) ?fd ?fs ?fin
        case own =>
          rintro pre X Y row ⟨h1, h2⟩ hg hr
          exact ⟨h1.grown hg (by have := HW9.out; omega) hr, h2⟩
        case ownx =>
          rintro c pre X Y row (h1 | ⟨h1, h2⟩) hg hr
          · exact .inl h1
          · exact .inr ⟨h1, h2.grown hg (by have := HW9.out; omega) hr⟩
        case sz =>
          rintro pre W ⟨h1, _⟩
          have := lt_of_block h1.box
          have := HW9.out
          omega
        case atstart => exact ⟨HCT.out, List.nil_prefix, by simp; omega⟩
        case assign =>
          intro l pre x W K q hq hI hK
          subst hq
          have HK := Lib.hid hK
          clear hK
          gi_wp2
          generalize W.heap.size = q at *
          exact HK.out
        case fd =>
          rintro xs W rfl ⟨h1, _, h3⟩
          rw [show min many (s.l.length : Int) = s.l.length by omega]
          exact h1
        case fs =>
          rintro c pre W hp (⟨_, h1⟩ | h1)
          · exact absurd hp h1
          · exact h1
        case body =>
          rintro lp pre x q W ⟨h1, h2, h3⟩ hq hQ hpl
          have hfW : Fr0 wr W := HFW.out.trans h1.fr
          have HFWW := Lib.hid hfW
          have HRW := Lib.hid (HRD.out.kept hfW)
          obtain ⟨⟨z0, z1, z2⟩, _⟩ := pk_cells hQ
          obtain ⟨⟨_, o1, _, _⟩, _⟩ := rl_cells (hfW.blk HC.out.box (fun h => h))
          have hcm : W.cell? ⟨w.heap.size, 0, none⟩ = some (.int .i64 many) := cell_of_blk (((HFR.out.trans hfW).blk HMB.out (fun h => h))) 0
          have hrb := (HFR.out.trans hfW).blk HRB.out (fun h => h)
          obtain ⟨p2, off, rfl⟩ := HRW.out.some_ (by rw [pks_length]; omega)
          obtain ⟨e0, e1, e2⟩ := pks_at s.l pre.length hpl
          have key : ∀ j v, (pks s.l)[j]? = some v → W.cell? ⟨p2, off + j, none⟩ = some v := fun j v hj => by
            obtain ⟨hj1, rfl⟩ := List.getElem?_eq_some_iff.1 hj
            exact HRW.out.at_ j hj1
          have d0 := key _ _ e0
          have d1 : W.cell? ⟨p2, off + pre.length * 3 + 1, none⟩ = _ := key _ _ e1
          have d2 : W.cell? ⟨p2, off + pre.length * 3 + 2, none⟩ = _ := key _ _ e2
          clear key e0 e1 e2
          have H1 := Lib.hid h1
          have H2 := Lib.hid h2
          have H3 := Lib.hid h3
          have HPL := Lib.hid hpl
          have hc1 := h1.cell.1
          have ra := cg_cell (W := W) z0
          have rb := cg_cell (W := W) z1
          have rc := cg_cell (W := W) z2
          have rd := cg_cell (W := W) o1
          have re := cg_cell (W := W) hc1
          have rf := cg_cell (W := W) d0
          have rg := cg_cell (W := W) d1
          have rh := cg_cell (W := W) d2
          have hi1 : (0 : Int) ≤ (pre.length : Int) := by omega
          have hi2 : (pre.length : Int) < (s.l.length : Int) := by omega
          generalize hz : s.l[pre.length] = z at *
          have HZ := Lib.hid hz
          have hwr : IntKind.i64.wrap ((pre.length : Int) + 1) = (pre.length : Int) + 1 := by rw [IntKind.wrap_i64]; omega
          clear hz h1 h2 h3 hpl z0 z1 z2 o1 d0 d1 d2 hc1 hQ HKN
          gi_wp2
          refine wpIn_region_class (fun U => ∃ x : Wx W, U = x.u) 13 hmx (by kernel_rfl) (by kernel_rfl) (fun ⟨_, _, h⟩ => h) ⟨⟨W.drew, (Fr.refl _ W).drew⟩, rfl⟩ ?_
          simp only [List.take_succ_cons, List.take_zero, List.drop_succ_cons, List.drop_zero]
          have hi0 : decide (s.l.length ≤ pre.length) = false := decide_eq_false (by omega)
          have hcmp := pk_neq x z
          repeat (go_big_quiet_step (fail))
          refine wpQuiet_nil ?_
          rintro U ⟨y, hy⟩
          have hf5 : Fr0 W U := hy ▸ y.fr
          clear hy y
          have HF5 := Lib.hid hf5
          have H5 := Lib.hid (H1.out.kept0 hf5)
          have hcm5 := hf5.cell hcm (fun h => h)
          obtain ⟨hc5, hz5⟩ := H5.out.cell
          have hrb5 := hf5.blk hrb (fun h => h)
          have hb5 : U.cell? ⟨w.heap.size + 1, 0, none⟩ = some (.bool false) := cell_of_blk hrb5 0
          have hy5 : U.frozen? ⟨w.heap.size + 1, 0, none⟩ = false := free_of_blk hrb5 0
          have HRB5 := Lib.hid hrb5
          have HWL := Lib.hid (show w.heap.size + 1 < w8.heap.size from by have h1 := lt_of_block HRB.out; have h2 := HFR.out.size; have h3 := HFW.out.size; omega)
          clear ra rb rc rd re rf rg rh hrb hcm hf5 hrb5 hcmp
          by_cases hxz : x = z
          · have hxz2 : decide (x = z) = true := decide_eq_true hxz
            have HPRE := Lib.hid (show pre ++ [x] <+: s.l from by
              obtain ⟨t, ht⟩ := H2.out
              have hx : x = s.l[pre.length]'HPL.out := hxz.trans HZ.out.symm
              refine ⟨t.drop 1, ?_⟩
              have hl := HPL.out
              cases t with
              | nil => rw [← ht] at hl; simp at hl
              | cons y t =>
                have : s.l[pre.length]'HPL.out = y := by simp [← ht]
                rw [hx, this, ← ht]
                simp)
            have HDN := Lib.hid (show ∀ V, Fr (fun k => k = w8.heap.size) W V → KeepsFrom w9.heap.size W V ∧ Ck (fun k => k = w8.heap.size) W V from fun V hf => ⟨keeps_of_fr hf _ (fun k o hk _ _ e => by have := HW9.out; omega), Ck.of_fr hf⟩)
            have HST := Lib.hid (H5.out.set ((pre.length : Int) + 1))
            have HSF := Lib.hid ((Fr0.any (S := fun k => k = w8.heap.size) HF5.out).setCell (p := ⟨w8.heap.size, 0, none⟩) (fun _ => rfl) (.int .i64 ((pre.length : Int) + 1)))
            have hcm6 : (U.setCell ⟨w8.heap.size, 0, none⟩ (.int .i64 ((pre.length : Int) + 1))).cell? ⟨w.heap.size, 0, none⟩ = some (.int .i64 many) := by
              exact ((Fr.refl (fun k => k = w8.heap.size) U).setCell (p := ⟨w8.heap.size, 0, none⟩) (fun _ => rfl) _).cell hcm5 (fun e => by have := HWL.out; have e' : w.heap.size = w8.heap.size := e; omega)
            by_cases hm : (pre.length : Int) + 1 = many
            · have hmm : ((pre.length : Int) + 1 == many) = true := by simpa using hm
              have HM := Lib.hid hm
              clear hm
              go_wp2_with fail
              gi_wp2
              refine ⟨(HDN.out _ HSF.out).1, .inr ⟨rfl, ?_⟩⟩
              have h1 := HST.out
              have h2 := HM.out
              have h3 := HPL.out
              rw [show min many (s.l.length : Int) = (pre.length : Int) + 1 by omega]
              exact h1
            · have hmm : ((pre.length : Int) + 1 == many) = false := by simpa using hm
              have HM := Lib.hid hm
              clear hm
              go_wp2_with fail
              gi_wp2
              refine ⟨(HDN.out _ HSF.out).1, (HDN.out _ HSF.out).2, ?_, HPRE.out, ?_⟩
              · rw [show ((pre ++ [x]).length : Int) = (pre.length : Int) + 1 by simp]
                exact HST.out
              · have h1 := HM.out
                have h2 := H3.out
                rw [show ((pre ++ [x]).length : Int) = (pre.length : Int) + 1 by simp]
                omega
          · have hxz2 : decide (x = z) = false := decide_eq_false hxz
            go_wp2_with fail
            gi_wp2
            refine ⟨keeps_of_fr ((Fr0.any (S := fun k => k = w.heap.size + 1) HF5.out).setCell (p := ⟨w.heap.size + 1, 0, none⟩) (fun _ => rfl) _) _ (fun k o hk _ _ e => by have := HW9.out; have := HWL.out; omega), .inl ⟨rfl, fun hp => ?_⟩⟩
            obtain ⟨t, ht⟩ := hp
            have h1 := HZ.out
            have h2 : s.l[pre.length]'HPL.out = x := by simp [← ht]
            exact absurd (h2.symm.trans h1) (by simpa using hxz2)
        case fin =>
          rintro D W hD hcnt hK
          have HW := Lib.hid (HFW.out.trans hcnt.fr)
          have HC9 := Lib.hid (HC.out.copy HF6.out HB2.out.2.2 HB2.out.1 HB2.out.2.1 (HF8.out.trans hcnt.fr))
          have HX := Lib.hid (HC.out.kept HW.out)
          have HR1W := Lib.hid (HR1.out.kept (HFR.out.trans HW.out))
          have HB2W := Lib.hid (show wr.heap.size ≤ b2 ∧ wr.heap.size ≤ g2 ∧ wr.heap.size ≤ w6.heap.size ∧ w6.heap.size < w8.heap.size ∧ b2 < w8.heap.size ∧ g2 < w8.heap.size from by
            have h1 := HB2.out
            have h2 := h1.2.2.lt
            have h3 := HF6.out.size
            have h4 := HF8.out.size
            have h5 : (w6.alloc (.cells (rlc s.room A2 s.l.length c2 s.lp s.lb) 30)).heap.size = w6.heap.size + 1 := by simp
            exact ⟨h1.1, h1.2.1, h3, by omega, by omega, by omega⟩)
          have HCNT := Lib.hid hcnt
          have HKD := Lib.hid hK
          clear hcnt hK
          generalize w6.heap.size = r2 at *
          go_wp2_with fail
          go_loopw [16] (fun i wr => ∃ (k2 : Nat) (s2 : Fs) (g3 : Nat) (A4 : Option Addr) (c4 : Nat), k2 ≤ l1.length ∧ i = .int .i64 (k2 : Int) ∧ Hid (Cop (fun k => k = b2 ∨ k = g2 ∨ k = r2) W wr b2 g3 r2 A4 c4 s2 (k + k2)) ∧ Hid (Fr (fun k => k = b2 ∨ k = g2 ∨ k = r2) W wr)) (fun i _ => l1.length - (intOf i).toNat)
          case atStart => exact ⟨0, s, g2, A2, c2, by omega, rfl, HC9.out, Fr.refl _ _⟩
          case round =>
            obtain ⟨k2, s2, g3, A4, c4, hk, rfl, HC2, HFR2⟩ := hrel
            have HFRW := Lib.hid (HW.out.then (S := fun _ => False) HFR2.out (fun i hi e => by have := HB2W.out; omega))
            by_cases hlt : k2 < l1.length
            · have HRW2 := Lib.hid (HR1.out.kept (HFR.out.trans HFRW.out))
              obtain ⟨p, off, rfl⟩ := HRW2.out.some_ (by rw [acts_length]; omega)
              have hi1 : (0 : Int) ≤ (k2 : Int) := by omega
              have hi2 : (k2 : Int) < (l1.length : Int) := by omega
              obtain ⟨d0, d1, d2, d3⟩ := rd_act (HRW2.out.kept (Fr.refl _ wr).drew) k2 hlt
              obtain ⟨⟨o0, o1, o2, o3⟩, _⟩ := rl_cells (show wr.drew.heap[r2]? = _ from HC2.out.box)
              have HDO := Lib.hid (fun w' (hf : Fr0 wr w') => does_any b2 g3 _ s2 (k + k2) l1[k2].1 l1[k2].2 w' (HC2.out.two.kept0 hf) (by omega))
              have HRM := Lib.hid (act_room s2 l1[k2].1 l1[k2].2)
              generalize l1[k2].1 = ak at *
              generalize l1[k2].2 = ap at *
              generalize s2.act ak ap = s3 at *
              go_wp2_with fail
              refine wp_region_noPanic ?_
              go_region_law ((go_simp; go_at_call 10; (with_reducible refine (HDO.out _ (Fr.refl _ wr).drew).mono ?_); rintro e wA ⟨⟨u, g4, rfl, htw, hg4⟩, hfA⟩; obtain ⟨A5, c5, rfl, hrest⟩ := htw.rl.ex; have hfB : Fr (fun k => k = b2 ∨ k = g3) wr wA := (Fr.refl _ wr).drew.trans hfA; obtain ⟨⟨z0, z1, z2, z3⟩, f0, f1, f2, f3⟩ := rl_cells (hfB.blk HC2.out.box (fun e => by have := HC2.out.rb; have := HC2.out.rg; omega))))
              all_goals
                refine NoPanic.normal ?_
                obtain ⟨hn1, hn2⟩ := HC2.out.next HFR2.out.size htw hg4 hfB HRM.out
                have HN1 := Lib.hid hn1
                have HN2 := Lib.hid (HFR2.out.then hn2 HC2.out.of)
                generalize hch : ((((wA.setCell ⟨r2, 0, none⟩ (.int .i64 s3.room)).setCell ⟨r2, 1, none⟩ (.slice A5 s3.l.length c5)).setCell ⟨r2, 2, none⟩ (.int .i64 s3.lp)).setCell ⟨r2, 3, none⟩ (.int .i64 s3.lb)) = Wf at *
                have hW : putRl wA r2 s3.room A5 s3.l.length c5 s3.lp s3.lb = Wf := hch
                rw [hW] at HN1 HN2
                clear hW hch hn1 hn2 htw hg4 hfA hfB z0 z1 z2 z3 f0 f1 f2 f3 d0 d1 d2 d3 o0 o1 o2 o3
                go_wp2_with fail
                go_roundw
                case rel => exact ⟨k2 + 1, s3, g4, A5, c5, by omega, by go_num, HN1.out, HN2.out⟩
                case measure => simp [intOf]; omega
            · have HKK2 := Lib.hid (show k2 = l1.length by omega)
              have HK01 := Lib.hid (show k = l0.length from hkk)
              clear hk hkk
              have HXN := Lib.hid (HC.out.kept HFRW.out)
              have HSX := Lib.hid (fun w' hf => lsame_any b g _ s k w' (HXN.out.two.kept0 hf))
              have HSC := Lib.hid (fun w' hf => lsame_any b2 g3 _ s2 (k + k2) w' (HC2.out.two.kept0 hf))
              have HSS := Lib.hid (fun w' hf => fsame_any b g b2 g3 s s2 k (k + k2) w' (HXN.out.two.ln.kept0 hf) (HC2.out.two.ln.kept0 hf) (HXN.out.room.trans HC2.out.room.symm))
              have HCP := Lib.hid (fun w' hf => fcopy_any b g s k w' (HXN.out.two.ln.kept0 hf))
              have HSP := Lib.hid (fun w' hf => fsamepk_calls A2 A4 c2 c4 s.l s2.l w' (HXN.out.two.rl.rd.1.kept hf) (HC2.out.two.rl.rd.1.kept hf) (by have := HXN.out.two.ok.len; have := HK01.out; omega) (by have := HC2.out.two.ok.len; have := HK01.out; have := HKK2.out; omega))
              have HCB := Lib.hid (HFR2.out.blk HCNT.out.box (fun e => by have := HB2W.out; omega))
              have HMW := Lib.hid ((HFR.out.trans HFRW.out).blk HMB.out (fun h => h))
              have HRBW := Lib.hid ((HFR.out.trans HFRW.out).blk HRB.out (fun h => h))
              have HFZ := Lib.hid (HF.out.trans (HFR.out.trans HFRW.out))
              have HDW := Lib.hid (HFR2.out.blk HKD.out (fun e => by have := HB2W.out; have := HW9.out; omega))
              have HNE := Lib.hid (show w.heap.size + 1 < D from by have := lt_of_block HRB.out; have h2 := HFR.out.size; have h3 := HFW.out.size; have := HW9.out; omega)
              have HKE := Lib.hid (fun U (hf : Fr0 wr U) => And.intro (rl_cells (hf.blk HXN.out.box (fun h => h))).1 (And.intro (rl_cells (hf.blk HC2.out.box (fun h => h))).1 (show U.cell? ⟨w8.heap.size, 0, none⟩ = some (.int .i64 (min many s.l.length)) ∧ U.cell? ⟨w.heap.size, 0, none⟩ = some (.int .i64 many) ∧ U.cell? ⟨w.heap.size + 1, 0, none⟩ = some (.bool false) ∧ U.frozen? ⟨w.heap.size + 1, 0, none⟩ = false from
                ⟨cell_of_blk (hf.blk HCB.out (fun h => h)) 0, cell_of_blk (hf.blk HMW.out (fun h => h)) 0, cell_of_blk (hf.blk HRBW.out (fun h => h)) 0, free_of_blk (hf.blk HRBW.out (fun h => h)) 0⟩)))
              obtain ⟨⟨u0, u1, u2, u3⟩, ⟨v0, v1, v2, v3⟩, t0, t1, _, _⟩ := HKE.out wr (Fr.refl _ _)
              go_upto_region 27 with fail
              go_cut [17] from 100 to 118 (fun s17 wx => s17 = .bool (decide (s.l = s2.l) && decide (s.lp = s2.lp) && decide (s.lb = s2.lb)) ∧ Hid (Fr0 wr wx))
              case first =>
                by_cases e1 : s.l = s2.l
                · have hd1 : decide (s.l = s2.l) = true := decide_eq_true e1
                  by_cases e2 : s.lp = s2.lp
                  · have hd2 : (s.lp == s2.lp) = true := by simpa using e2
                    have HE2 := Lib.hid e2
                    have HE1 := Lib.hid hd1
                    clear e1 e2
                    go_wp2_with (go_at_call 16; refine (HSP.out _ (Fr.refl _ _)).mono ?_; rintro e w3 ⟨rfl, hf3⟩; obtain ⟨⟨u0, u1, u2, u3⟩, ⟨v0, v1, v2, v3⟩, t0, t1, _, _⟩ := HKE.out w3 hf3)
                    go_meet
                    refine ⟨?_, hf3⟩
                    rw [HE1.out, decide_eq_true HE2.out, Bool.true_and, Bool.true_and]
                    rfl
                  · have hd2 : (s.lp == s2.lp) = false := by simpa using e2
                    have HE2 := Lib.hid e2
                    clear e1 e2
                    go_wp2_with (go_at_call 16; refine (HSP.out _ (Fr.refl _ _)).mono ?_; rintro e w3 ⟨rfl, hf3⟩; obtain ⟨⟨u0, u1, u2, u3⟩, ⟨v0, v1, v2, v3⟩, t0, t1, _, _⟩ := HKE.out w3 hf3)
                    go_meet
                    refine ⟨?_, hf3⟩
                    rw [decide_eq_false HE2.out]
                    simp
                · have hd1 : decide (s.l = s2.l) = false := decide_eq_false e1
                  have HE1 := Lib.hid hd1
                  clear e1
                  go_wp2_with (go_at_call 16; refine (HSP.out _ (Fr.refl _ _)).mono ?_; rintro e w3 ⟨rfl, hf3⟩; obtain ⟨⟨u0, u1, u2, u3⟩, ⟨v0, v1, v2, v3⟩, t0, t1, _, _⟩ := HKE.out w3 hf3)
                  go_meet
                  refine ⟨?_, hf3⟩
                  rw [HE1.out]
                  simp
              case rest =>
                obtain ⟨rfl, HFC⟩ := hcut
                generalize (decide (s.l = s2.l) && decide (s.lp = s2.lp) && decide (s.lb = s2.lb)) = AL at *
                obtain ⟨⟨u0, u1, u2, u3⟩, ⟨v0, v1, v2, v3⟩, t0, t1, _, _⟩ := HKE.out wc HFC.out
                go_wp2_with (first
                  | (go_at_call 11; (with_reducible refine (HSX.out _ HFC.out).mono ?_); rintro e wa ⟨rfl, hfa⟩; have hka := HFC.out.trans hfa; obtain ⟨⟨u0, u1, u2, u3⟩, ⟨v0, v1, v2, v3⟩, t0, t1, _, _⟩ := HKE.out _ hka)
                  | (go_at_call 11; (with_reducible refine (HSC.out _ hka).mono ?_); rintro e wb ⟨rfl, hfb⟩; have hkb := hka.trans hfb)
                  | (go_at_call 20; (with_reducible refine (HSS.out _ hkb).mono ?_); rintro e wd ⟨rfl, hfd⟩; have hkd := hkb.trans hfd)
                  | (go_at_call 18; (with_reducible refine (HCP.out _ hkd).mono ?_); rintro e we ⟨⟨b5, g5, rfl, _, _, hl5⟩, hfe⟩; have hke := hkd.trans hfe)
                  | (go_at_call 20; (with_reducible refine (fsame_any b g b5 g5 s s k k _ (HXN.out.two.ln.kept0 hke) hl5 rfl).mono ?_); rintro e wf ⟨rfl, hff⟩; have hkf := hke.trans hff)
                  | (go_at_call 8; (with_reducible refine (HKN.out _).mono ?_); rintro e wg ⟨rfl, hfg⟩; have hkg := hkf.trans hfg; obtain ⟨_, _, _, _, y0, y1⟩ := HKE.out _ hkg))
                all_goals
                  have hbl := hkg.blk HRBW.out (fun h => h)
                  have hb2 := blk_setCell hbl 0 (.bool true)
                  have hK2 : (wg.setCell ⟨w.heap.size + 1, 0, none⟩ (.bool true)).heap[D]? = some (.deferred (some [])) := blk_setCell_other (hkg.blk HDW.out (fun h => h)) (p := ⟨w.heap.size + 1, 0, none⟩) (by have := HNE.out; show w.heap.size + 1 ≠ D; omega) _
                  refine ⟨by simp, .inl ⟨_, _, rfl, run_takeDeferred hK2, ?_⟩⟩
                  have hcl : ((wg.setCell ⟨w.heap.size + 1, 0, none⟩ (.bool true)).putObj D (.deferred none)).cell? ⟨w.heap.size + 1, 0, none⟩ = some (.bool true) := (World.cell?_of_block (World.putObj_heap_other (show w.heap.size + 1 ≠ D from by have := HNE.out; omega))).trans (cell_of_blk hb2 0)
                  refine ⟨_, results_cell_bool (p := 6) rfl _ _ _ _ rfl hcl, rfl, ?_⟩
                  exact ((HFZ.out.trans hkg).setCell (p := ⟨w.heap.size + 1, 0, none⟩) (fun h => absurd h (by show ¬ w.heap.size + 1 < w.heap.size; omega)) _).grown (grownBy_putObj' _ D _) (fun k hk e => absurd hk (by cases e; have := HNE.out; omega))
  · have hgc : 60 < (l0.length : Int) + (l1.length : Int) ∨ (l0.length : Int) + (l1.length : Int) ≤ 60 ∧ (many < 1 ∨ 1 ≤ many ∧ 60 < many) := by omega
    clear hg
    have HKE := Lib.hid (fun U (hf : Fr0 ((w.alloc (.cells #[.int .i64 many] 3)).alloc (.cells #[.bool false] 4)) U) => (show U.heap[w.heap.size + 1]? = some (.cells #[.bool false] 4 (0, 0)) ∧ U.cell? ⟨w.heap.size + 1, 0, none⟩ = some (.bool false) ∧ U.frozen? ⟨w.heap.size + 1, 0, none⟩ = false from
      ⟨hf.blk HRB.out (fun h => h), cell_of_blk (hf.blk HRB.out (fun h => h)) 0, free_of_blk (hf.blk HRB.out (fun h => h)) 0⟩))
    have hR : ∀ (e : Ending) (U : World), Fr0 ((w.alloc (.cells #[.int .i64 many] 3)).alloc (.cells #[.bool false] 4)) U → e = .returned (.bool true) → Yes w e (U.setCell ⟨w.heap.size + 1, 0, none⟩ (.bool true)) := fun e U hf he =>
      ⟨he, (HF.out.trans hf).setCell (p := ⟨w.heap.size + 1, 0, none⟩) (fun h => absurd h (by show ¬ w.heap.size + 1 < w.heap.size; omega)) _⟩
    have HR := Lib.hid hR
    clear hR
    have hw1 : IntKind.i64.wrap ((l0.length : Int) + (l1.length : Int)) = (l0.length : Int) + (l1.length : Int) := by rw [IntKind.wrap_i64]; omega
    rcases hgc with hgc | ⟨h1, hgc | ⟨h2, hgc⟩⟩
    · go_enter Try.func6, Try.ntmps6
      go_wp2_with (go_at_call 8; (with_reducible refine (HKN.out _).mono ?_); rintro e w6 ⟨rfl, hf6⟩; obtain ⟨hbl, cv, fv⟩ := HKE.out _ hf6)
      (try simp only [Exit.inBlock, Exit.then])
      refine bodyPost_ret (results_cell_bool (p := 6) rfl _ _ _ _ rfl (cell_of_blk (blk_setCell hbl 0 (.bool true)) 0)) rfl ?_
      exact HR.out _ _ hf6 rfl
    · have hg0 : ¬ 60 < (l0.length : Int) + (l1.length : Int) := by omega
      go_enter Try.func6, Try.ntmps6
      go_wp2_with (go_at_call 8; (with_reducible refine (HKN.out _).mono ?_); rintro e w6 ⟨rfl, hf6⟩; obtain ⟨hbl, cv, fv⟩ := HKE.out _ hf6)
      (try simp only [Exit.inBlock, Exit.then])
      refine bodyPost_ret (results_cell_bool (p := 6) rfl _ _ _ _ rfl (cell_of_blk (blk_setCell hbl 0 (.bool true)) 0)) rfl ?_
      exact HR.out _ _ hf6 rfl
    · have hg0 : ¬ 60 < (l0.length : Int) + (l1.length : Int) := by omega
      have hg4 : ¬ many < 1 := by omega
      go_enter Try.func6, Try.ntmps6
      go_wp2_with (go_at_call 8; (with_reducible refine (HKN.out _).mono ?_); rintro e w6 ⟨rfl, hf6⟩; obtain ⟨hbl, cv, fv⟩ := HKE.out _ hf6)
      (try simp only [Exit.inBlock, Exit.then])
      refine bodyPost_ret (results_cell_bool (p := 6) rfl _ _ _ _ rfl (cell_of_blk (blk_setCell hbl 0 (.bool true)) 0)) rfl ?_
      exact HR.out _ _ hf6 rfl
end Go.Proofs.Ytfiiikgjgcnjgaa
