/- Chapter 24: the statement PoolCopies walked. -/
import Derived.Test.YtbhdkpcakjookaaPoZ
import Derived.Test.YtbhdkpcakjookaaPoK0
import Derived.Deep.AppendLies
set_option linter.unusedVariables false
set_option linter.unusedSimpArgs false
namespace Go.Proofs.Ytbhdkpcakjookaa
open Go.RowKit
attribute [local go_sem] Oper.semAt_some

theorem results_cell_bool {fn : Func} {p : Tmp} (h : fn.results = #[.cell p 4]) (tmps : Array Value) (w : World) (a : Addr) (v : Bool) (hp : tmps.getD p undef = .pointer (some a)) (hc : w.cell? a = some (.bool v)) : (results fn tmps).run Try.prog w = .ok (.bool v) w := by
  simp only [Array.getD_eq_getD_getElem?] at hp
  simp [results, h, hp, asAddr, Result.andThen, go_sem, hc]
abbrev lnz : Array Value := #[.int .i64 0, .int .i64 0, .int .i64 0, .slice none 0 0, .int .i64 0, .int .i64 0, .bool false]
theorem ra_elem : Elem Try.prog 49 5 56 := Elem.of (.agg #[.int .i64 0, .int .i64 0, .int .i64 0, .int .i64 0, .slice none 0 0]) (by kernel_rfl) rfl (by decide)
/-- A pool, the document's in its box. -/
structure Cq (w0 w : World) (b q : Nat) (A : Option Addr) (n c : Nat) (K : Nat) (s : Int × List Msg) : Prop where
  du : Du w0 w b (pov 20 s.1 A n c) K 20 s.1 s.2
  box : w.heap[q]? = some (.cells (poc 20 s.1 A n c) 45 (0, 0))
  ne : q ≠ b
  q0 : w0.heap.size ≤ q
theorem Cq.kept {w0 w w' : World} {b q : Nat} {A : Option Addr} {n c : Nat} {K : Nat} {s : Int × List Msg} (h : Cq w0 w b q A n c K s) (hf : Fr0 w w') : Cq w0 w' b q A n c K s := ⟨h.du.kept hf, hf.blk h.box (fun h => h), h.ne, h.q0⟩
theorem Cq.keptZ {w0 w w' : World} {b q : Nat} {A : Option Addr} {n c : Nat} {K : Nat} {s : Int × List Msg} (h : Cq w0 w b q A n c K s) {z : Nat} {m l : Int} {A' : Option Addr} {n' c' : Nat} {t : TypeId} {fr : Nat × Nat} (hz : w.heap[z]? = some (.cells (poc m l A' n' c') t fr)) (hzb : z ≠ b) (hzq : z ≠ q) (hz0 : w0.heap.size ≤ z) (hf : Fr (fun k => k = z) w w') : Cq w0 w' b q A n c K s :=
  ⟨h.du.keptZ hz hzb hz0 hf, hf.blk h.box (fun e => hzq e.symm), h.ne, h.q0⟩
/-- Behind a call of both, and the store of what it answers. -/
theorem Cq.next {w0 wr wA : World} {b q : Nat} {A A3 : Option Addr} {n c n3 c3 : Nat} {K : Nat} {s s2 : Int × List Msg} (h : Cq w0 wr b q A n c K s) (ht : Du w0 wA b (pov 20 s2.1 A3 n3 c3) (K + 1) 20 s2.1 s2.2) (hf : Fr (fun k => k = b) wr wA) :
    Cq w0 (putP wA q 20 s2.1 A3 n3 c3) b q A3 n3 c3 (K + 1) s2 ∧ Fr (fun k => k = b ∨ k = q) wr (putP wA q 20 s2.1 A3 n3 c3) := by
  have hbx := hf.blk h.box h.ne
  have hfP : Fr (fun k => k = q) wA (putP wA q 20 s2.1 A3 n3 c3) := putP_fr (S := fun k => k = q) (Fr.refl _ wA) (fun _ => rfl)
  exact ⟨⟨ht.keptZ hbx h.ne h.q0 hfP, putP_blk hbx _ _ _ _ _, h.ne, h.q0⟩, (hf.mono (fun k _ e => .inl e)).trans (hfP.mono (fun k _ e => .inr e))⟩
theorem Cq.lt {w0 w : World} {b q : Nat} {A : Option Addr} {n c : Nat} {K : Nat} {s : Int × List Msg} (h : Cq w0 w b q A n c K s) : w0.heap.size ≤ b ∧ b < w.heap.size ∧ q < w.heap.size := by
  obtain ⟨_, _, _, h3, _⟩ := h.du.pw
  exact ⟨h3, h.du.pw.lt, lt_of_block h.box⟩
/-- A counter in a box behind w, whose blocks stand. -/
structure Cnt (w W : World) (q : Nat) (n : Int) : Prop where
  box : W.heap[q]? = some (.cells #[.int .i64 n] 3 (0, 0))
  fr : Fr0 w W
  q : w.heap.size ≤ q
theorem Cnt.grown {w A B : World} {q : Nat} {n : Int} {row : Option Nat} (h : Cnt w A q n) (hg : A.grownBy B row) {m : Nat} (hm : w.heap.size ≤ m) (hr : ∀ r, row = some r → m ≤ r ∧ ∃ o : Obj, A.heap[r]? = some o ∧ o.isCells = false) : Cnt w B q n :=
  ⟨blk_grown h.box hg (ne_row hr _ _ _ _ h.box), h.fr.grown hg (fun k hk e => by have := (hr k e).1; omega), h.q⟩
theorem Cnt.kept0 {w A B : World} {q : Nat} {n : Int} (h : Cnt w A q n) (hf : Fr0 A B) : Cnt w B q n := ⟨hf.blk h.box (fun h => h), h.fr.trans hf, h.q⟩
theorem Cnt.set {w A : World} {q : Nat} {n : Int} (h : Cnt w A q n) (m : Int) : Cnt w (A.setCell ⟨q, 0, none⟩ (.int .i64 m)) q m :=
  ⟨blk_setCell h.box 0 _, h.fr.setCell (p := ⟨q, 0, none⟩) (fun hl => by have := h.q; have : q < w.heap.size := hl; omega) _, h.q⟩
theorem Cnt.cell {w A : World} {q : Nat} {n : Int} (h : Cnt w A q n) : A.cell? ⟨q, 0, none⟩ = some (.int .i64 n) ∧ A.frozen? ⟨q, 0, none⟩ = false := ⟨cell_of_blk h.box 0, free_of_blk h.box 0⟩
theorem pw_copy {w0 w : World} {b : Nat} {most last : Int} {ms : List Msg} (hp : Pw w0 w b most last ms) : Calls Try.prog 23 #[.pointer (some ⟨b, 0, none⟩)] w fun e w' => (∃ b', e = .returned (.pointer (some ⟨b', 0, none⟩)) ∧ w.heap.size ≤ b' ∧ Pw w0 w' b' most last ms) ∧ Fr0 w w' := by
  obtain ⟨L, h1, rfl, h3, h4⟩ := hp
  exact (pcopy_calls b most last L w h1).mono fun e w' ⟨⟨b', he, hb, hp⟩, hf⟩ => ⟨⟨b', he, hb, L, hp, rfl, Nat.le_trans h4.size hb, h4.trans hf⟩, hf⟩
theorem pw_same {w0 w1 w : World} {b b2 : Nat} {m1 l1 m2 l2 : Int} {ms1 ms2 : List Msg} (hp : Pw w0 w b m1 l1 ms1) (hq : Pw w1 w b2 m2 l2 ms2) : Calls Try.prog 26 #[.pointer (some ⟨b, 0, none⟩), .pointer (some ⟨b2, 0, none⟩)] w fun e w' => e = .returned (.bool (decide (m1 = m2 ∧ l1 = l2 ∧ ms1 = ms2))) ∧ Fr0 w w' := by
  obtain ⟨L, h1, rfl, _, _⟩ := hp
  obtain ⟨M, h2, rfl, _, _⟩ := hq
  exact psame_calls b b2 m1 l1 m2 l2 L M w h1 h2
theorem IsSeqM.kept0 {B base : Nat} {w w' : World} {f : Value} {L : List Rm} (h : IsSeqM B base w f L) (hf : Fr0 w w') : IsSeqM B base w' f L := by
  obtain ⟨p, A, c, h1, h2, h3, h4⟩ := h
  exact ⟨p, A, c, h1, h2, hf.blk h3 (fun h => h), h4.ck (Ck.of_fr (Fr0.any hf))⟩
/-- The one beside, where the other one went on. -/
theorem Cq.beside {w0 wr wA : World} {b q b2 q2 : Nat} {A A4 : Option Addr} {n c n4 c4 : Nat} {K K4 : Nat} {s s4 : Int × List Msg} (h : Cq w0 wr b q A n c K s) (h2 : Cq w0 wr b2 q2 A4 n4 c4 K4 s4) (hf : Fr (fun k => k = b2) wr wA) (hn1 : b2 ≠ b) (hn2 : b2 ≠ q) (hn3 : q2 ≠ b) (hn4 : q2 ≠ q) {m l : Int} {A5 : Option Addr} {n5 c5 : Nat} :
    Cq w0 (putP wA q2 m l A5 n5 c5) b q A n c K s := by
  obtain ⟨LL, h1, _, h3, _⟩ := h2.du.pw
  obtain ⟨A9, c9, hbb, _⟩ := h1.ex
  exact (h.keptZ hbb hn1 hn2 h3 hf).keptZ (hf.blk h2.box h2.ne) hn3 hn4 h2.q0 (putP_fr (S := fun k => k = q2) (Fr.refl _ wA) (fun _ => rfl))
set_option maxRecDepth 100000 in
set_option maxHeartbeats 8000000 in
theorem pcopies_walk (A0 : Option Addr) (c0 : Nat) (l0 : List Ra) (A1 : Option Addr) (c1 : Nat) (l1 : List Ra) (many : Int) (w : World) (hR0 : Rd (fun _ => False) w A0 (ras l0)) (hR1 : Rd (fun _ => False) w A1 (ras l1)) (hk0 : ∀ r ∈ l0, r.Ok1 w) (hk1 : ∀ r ∈ l1, r.Ok1 w) (hl0 : l0.length ≤ 1048576) (hl1 : l1.length ≤ 1048576) (hn0 : A0 = none → l0 = []) (hn1 : A1 = none → l1 = []) :
    Calls Try.prog 7 #[.slice A0 l0.length c0, .slice A1 l1.length c1, .int .i64 many] w (Yes w) := by
  have HKN := Lib.hid known24_calls
  have HMB := Lib.hid (show ((w.alloc (.cells #[.int .i64 many] 3)).alloc (.cells #[.bool false] 4)).heap[w.heap.size]? = some (.cells #[.int .i64 many] 3 (0, 0)) from blk_alloc (heap_alloc_new _ _) _)
  have HRB := Lib.hid (show ((w.alloc (.cells #[.int .i64 many] 3)).alloc (.cells #[.bool false] 4)).heap[w.heap.size + 1]? = some (.cells #[.bool false] 4 (0, 0)) from heap_alloc_nn (by simp))
  have HF := Lib.hid (((Fr.refl (fun _ => False) w).alloc (.cells #[.int .i64 many] 3)).alloc (.cells #[.bool false] 4))
  have HSZ := Lib.hid (show ((w.alloc (.cells #[.int .i64 many] 3)).alloc (.cells #[.bool false] 4)).heap.size = w.heap.size + 2 by simp)
  have HR0 := Lib.hid (hR0.kept HF.out)
  have HR1 := Lib.hid (hR1.kept HF.out)
  have HL0 := Lib.hid (show (ras l0).length = l0.length * 5 from ras_length l0)
  have HL1 := Lib.hid (show (ras l1).length = l1.length * 5 from ras_length l1)
  have HN0 := Lib.hid (show A0 = none → l0.length = 0 from fun h => by rw [hn0 h]; rfl)
  have HN1 := Lib.hid (show A1 = none → l1.length = 0 from fun h => by rw [hn1 h]; rfl)
  clear hR0 hR1 hn0 hn1
  have cm := cell_of_blk HMB.out 0
  have hfn : ∀ (q : Nat) (w : World), (binOp .eql 57 (seqFn q) Value.nilFunc).run Try.prog w = .ok (.bool false) w := fun _ _ => rfl
  have HFW := Lib.hid (fun (W : World) (A : Option Addr) (c : Nat) (h : Rd (fun _ => False) W A (ras (l0 ++ l1))) => show Calls Try.prog 18 #[.slice A (l0.length + l1.length) c, .int .i64 40] W fun e w' => e = .returned (.bool (fewB (l0 ++ l1) 40)) ∧ Fr0 W w' from by
    have := few_calls A c (l0 ++ l1) 40 W h (by decide) (by simp; omega)
    rw [List.length_append] at this
    exact this)
  have HFV := Lib.hid (fun (h : fewB (l0 ++ l1) 40 = true) => fewB_at h)
  generalize hfb0 : fewB (l0 ++ l1) 40 = fb at *
  clear hfb0
  by_cases hg : fb = true ∧ 1 ≤ many ∧ many ≤ 40
  · obtain ⟨rfl, hg2, hg3⟩ := hg
    obtain ⟨hv1, hv2⟩ := HFV.out rfl
    have hsum : l0.length + l1.length ≤ 40 := by simpa using hv1
    have HOK0 := Lib.hid (fun (k : Nat) (hk : k < l0.length) (U : World) (hf : Fr0 w U) => (hk0 _ (List.getElem_mem hk)).ok (hv2 _ (List.mem_append_left _ (List.getElem_mem hk))) hf)
    have HOK1 := Lib.hid (fun (k : Nat) (hk : k < l1.length) (U : World) (hf : Fr0 w U) => (hk1 _ (List.getElem_mem hk)).ok (hv2 _ (List.mem_append_right _ (List.getElem_mem hk))) hf)
    clear hv1 hv2 hk0 hk1 HFV
    have hm1 : ¬ many < 1 := by omega
    have hm2 : ¬ 40 < many := by omega
    refine (callsIn_wide (n := 5)).1 ?_
    refine callsIn_of_wp_marks Try.func7 rfl trivial ?_ rfl
    simp only [Try.ntmps7, List.size_toArray, List.length_cons, List.length_nil, Nat.reduceAdd, Nat.reduceSub, Array.replicate_succ, Array.replicate_zero, List.push_toArray, List.append_toArray, List.nil_append, List.cons_append]
    refine wpIn_wide.2 ?_
    go_upto_region 1 with fail
    generalize ((w.alloc (.cells #[.int .i64 many] 3)).alloc (.cells #[.bool false] 4)) = wB at *
    go_upto_region 3 with (first
      | (at_builtin; refine wpList_app rfl (.const (.slice none 0 0)) (.tmp 18) _ rfl Try.underlying42 ra_elem (base := wB.heap.size) (.slice none 0 0) 0 [] rfl (own_nil _ _ _ _) (fun _ => False) A0 l0.length c0 (ras l0) rfl HR0.out HL0.out (ras_one l0) (by simp only [maxLen]; omega) (by omega) (Nat.le_refl _) HN0.out ?_; intro v5 w5 hown5 hg5 hat5; rw [Nat.zero_add, List.nil_append] at hown5; have hfb : Fr0 wB w5 := (Fr.refl _ wB).grown hg5 (fun k _ e => by simp [Value.ownBlock] at e); have hc5 := hfb.cell cm (fun h => h))
      | (at_builtin; refine wpList_app rfl (.tmp 19) (.tmp 20) _ rfl Try.underlying42 ra_elem (base := wB.heap.size) v5 l0.length (ras l0) rfl hown5 (fun _ => False) A1 l1.length c1 (ras l1) rfl (HR1.out.kept hfb) HL1.out (ras_one l1) (by simp only [maxLen]; omega) (by omega) hfb.size HN1.out ?_; intro v6 w6 hown6 hg6 hat6; obtain ⟨A6, c6, rfl, _, _⟩ := own_form hown6; have hfc : Fr0 wB w6 := hfb.grown hg6 (fun k hk e => by have := (own_blk hown5 e).1; omega); rw [← ras_append] at hown6; have hc6 := hfc.cell cm (fun h => h))
      | (go_at_call 18; refine (HFW.out w6 _ _ (own_rd _ hown6 (fun _ _ _ h => h))).mono ?_; rintro e w7 ⟨rfl, hf7⟩; have hc7 := hf7.cell hc6 (fun h => h)))
    have HF7 := Lib.hid (hfc.trans hf7)
    clear hfb hfc hf7 hown5 hg5 hat5 hown6 hg6 hat6 cm hc5 hc6 hc7
    go_wp2_with (go_at_call 10; refine (pw_new 20 wB w7 HF7.out (by decide)).mono ?_; rintro e w8 ⟨b, rfl, hp8, hf8⟩; have HP8 := Lib.hid hp8; clear hp8)
    have hfa := hf8.alloc (.cells (poc 20 0 none 0 0) 45)
    have HC0 := Lib.hid (show Cq wB (w8.alloc (.cells (poc 20 0 none 0 0) 45)) b w8.heap.size none 0 0 0 (0, []) from
      ⟨⟨HP8.out.kept ((Fr.refl _ w8).alloc _), ⟨none, 0, [], rfl, .nil_ _, rfl⟩, .new 20 (by decide)⟩, heap_alloc_new _ _, by have := HP8.out.lt; omega, HP8.out.fr.size⟩)
    clear hfa hf8
    generalize w8.alloc (.cells #[.int .i64 20, .int .i64 0, .slice none 0 0] 45) = w9 at *
    generalize w8.heap.size = q at *
    go_loopw [10] (fun i wr => ∃ (n : Nat) (s : Int × List Msg) (A2 : Option Addr) (n2 c2 : Nat), i = .int .i64 (n : Int) ∧ n ≤ l0.length ∧ Hid (Cq wB wr b q A2 n2 c2 n s)) (fun i _ => l0.length - (intOf i).toNat)
    case atStart => exact ⟨0, (0, []), none, 0, 0, rfl, Nat.zero_le _, HC0.out⟩
    case round =>
      obtain ⟨n, s, A2, n2, c2, rfl, hn, HC⟩ := hrel
      by_cases hlt : n < l0.length
      · have HFR := Lib.hid HC.out.du.pw.fr
        obtain ⟨g, off, rfl⟩ := HR0.out.some_ (by rw [ras_length]; omega)
        obtain ⟨d0, d1, d2, d3, d4⟩ := rd_ra ((HR0.out.kept HFR.out).kept (Fr.refl _ wr).drew) n hlt
        have HRO := Lib.hid (fun U (hf : Fr0 wB U) => HOK0.out n hlt U (HF.out.trans hf))
        have hi1 : (0 : Int) ≤ (n : Int) := by omega
        have hi2 : (n : Int) < (l0.length : Int) := by omega
        generalize l0[n] = r at *
        have HDO := Lib.hid (fun U (hf : Fr0 wr U) => does_any wB b _ n 20 s r U (HC.out.du.kept hf) (HRO.out U (HFR.out.trans hf)) (by omega))
        generalize actF 20 s r.a = s2 at *
        obtain ⟨la, ms⟩ := s
        obtain ⟨la2, ms2⟩ := s2
        dsimp only at HDO
        obtain ⟨⟨o0, o1, o2⟩, _⟩ := po_cells2 (show wr.drew.heap[q]? = some (.cells (poc 20 la A2 n2 c2) 45 (0, 0)) from HC.out.box)
        go_upto_region 10 with fail
        refine wp_region_noPanic ?_
        go_region_law ((go_simp; go_at_call 19; (with_reducible refine (HDO.out _ (Fr.refl _ wr).drew).mono ?_); rintro e wA ⟨⟨v5, rfl, hdu5⟩, hfA⟩; obtain ⟨A3, c3, L3, rfl, _, _⟩ := hdu5.rp; have hfB : Fr (fun k => k = b) wr wA := (Fr.refl _ wr).drew.trans hfA; obtain ⟨⟨z0, z1, z2⟩, f0, f1, f2⟩ := po_cells2 (hfB.blk HC.out.box HC.out.ne)))
        all_goals
          refine NoPanic.normal ?_
          have HN := Lib.hid (HC.out.next (s2 := (la2, ms2)) hdu5 hfB).1
          have HE : putP wA q 20 la2 A3 L3.length c3 = (((wA.setCell ⟨q, 0, none⟩ (.int .i64 20)).setCell ⟨q, 1, none⟩ (.int .i64 la2)).setCell ⟨q, 2, none⟩ (.slice A3 L3.length c3)) := rfl
          rw [← HE]
          dsimp only at HN
          clear HE hdu5 hfA hfB z0 z1 z2 f0 f1 f2 d0 d1 d2 d3 d4 o0 o1 o2
          generalize putP wA q 20 la2 A3 L3.length c3 = Wf at *
          go_wp2_with fail
          go_roundw
          case rel => exact ⟨n + 1, (la2, ms2), A3, L3.length, c3, by go_num, by omega, HN.out⟩
          case measure => simp [intOf]; omega
      · obtain rfl : n = l0.length := by omega
        obtain ⟨W1, hW1⟩ : ∃ W1, W1 = wr := ⟨_, rfl⟩
        subst hW1
        obtain ⟨la, ms⟩ := s
        obtain ⟨A9, c9, L, heq, hls, hms⟩ := HC.out.du.rp
        obtain ⟨rfl, rfl, rfl⟩ : A2 = A9 ∧ n2 = L.length ∧ c2 = c9 := by simpa using heq
        have HLS := Lib.hid hls
        have HMS := Lib.hid hms
        have hml : L.length ≤ 4096 := by have := HC.out.du.lim.len; rw [← hms] at this; simpa using this
        have HCP := Lib.hid (pw_copy HC.out.du.pw)
        obtain ⟨LP, hLP1, hLP2, hLP3, hLP4⟩ := HC.out.du.pw
        have HAL := Lib.hid (fun U (hf : Fr0 W1 U) => pall_calls b 20 la LP W1 U hLP1 hf)
        have HLP := Lib.hid (show msgs LP = msgs L by rw [hLP2, hms])
        clear hls hms heq hLP1 hLP2 hLP3 hLP4
        go_wp2_with (first
          | (go_at_call 23; refine HCP.out.mono ?_; rintro e w6 ⟨⟨b2, rfl, hb2, hp6⟩, hf6⟩; obtain ⟨⟨o0, o1, o2⟩, _⟩ := po_cells2 (hf6.blk HC.out.box (fun h => h)))
          | (go_at_call 24; refine (HAL.out _ (hf6.alloc _)).mono ?_; rintro e w8 ⟨⟨f, rfl, hseq0⟩, hf8⟩; obtain ⟨p8, hp8, rfl, hsq⟩ := pall1_stops (5 - 1) (fun k => k = w8.heap.size) _ _ _ _ _ (hseq0.kept0 ((Fr.refl _ w8).alloc (.cells #[.int .i64 0] 3))) (fun k e => by have h1 := hf6.size; have h2 := hf8.size; simp at h2; omega)))
        have hfa := hf6.alloc (.cells (poc 20 la A2 L.length c2) 45)
        have HC2 := Lib.hid (show Cq wB w8 b2 w6.heap.size A2 L.length c2 l0.length (la, ms) from
          ⟨⟨(hp6.kept ((Fr.refl _ w6).alloc (.cells (poc 20 la A2 L.length c2) 45))).kept hf8, HC.out.du.rp.kept (hfa.trans hf8), HC.out.du.lim⟩, hf8.blk (heap_alloc_new w6 (.cells (poc 20 la A2 L.length c2) 45)) (fun h => h), by have := hp6.lt; omega, Nat.le_trans HC.out.du.pw.fr.size hf6.size⟩)
        have HCX := Lib.hid (HC.out.kept (hfa.trans hf8))
        have HBB := Lib.hid (show W1.heap.size ≤ b2 ∧ b2 < w6.heap.size ∧ W1.heap.size ≤ w6.heap.size ∧ w6.heap.size < w8.heap.size from ⟨hb2, hp6.lt, hf6.size, by have := hf8.size; simp at this; omega⟩)
        have HCT := Lib.hid (show Cnt w8 (w8.alloc (.cells #[.int .i64 0] 3)) w8.heap.size 0 from ⟨heap_alloc_new _ _, (Fr.refl _ w8).alloc _, Nat.le_refl _⟩)
        have HFW8 := Lib.hid (show Fr0 W1 w8 from hfa.trans hf8)
        have HW9 := Lib.hid (show (w8.alloc (.cells #[.int .i64 0] 3)).heap.size = w8.heap.size + 1 by simp)
        clear hfa hf6 hf8 hp6 hseq0 hp8 hb2 o0 o1 o2
        generalize w8.alloc (.cells #[.int .i64 0] 3) = wN at *
        refine (wpIn_wide (n := 5)).1 ?_
        have hmx : Try.prog.follows .mixedOrders = true := by kernel_rfl
        refine' wpIn_rangeFunc_boxY rfl (by omega) (gf := 36) (lb := #[.pointer (some ⟨p8, 0, none⟩)]) rfl trivial (enters_of Try.func36 (by kernel_rfl) rfl)
          hsq (fun h k => h.trans k) (fun W l o o' _ h ho _ => KpS.put W l o o' h ho) (fun W o => .of_fr ((Fr.refl _ W).alloc o)) (Below.refl _ _) (fun _ => rfl) ?hy
          (fun pre W => Cnt w8 W w8.heap.size pre.length ∧ msgs pre <+: ms ∧ (pre.length : Int) < many)
          (fun c pre W => (c = .ret ∧ ¬ msgs pre <+: ms) ∨ (c = .exit 2 ∧ Cnt w8 W w8.heap.size (min many ms.length))) ?own ?ownx ?sz ?atstart (fun x => (rmc x).toArray) 31 _ ?assign ?body (fun W => Cnt w8 W w8.heap.size (min many ms.length)) ?fd ?fs ?fin
        case hy =>
          rintro x _ X Y row hA hg hr
          refine hA.kept (S := fun k => row = some k) ((Fr.refl _ X).grown hg (fun k _ e => e)) (fun k cs hk e => ?_)
          obtain ⟨_, o, ho, hc⟩ := hr k e
          rw [hk] at ho; cases ho; cases hc
        case own =>
          rintro pre X Y row ⟨h1, h2⟩ hg hr
          exact ⟨h1.grown hg (by have := HW9.out; omega) hr, h2⟩
        case ownx =>
          rintro c pre X Y row (h1 | ⟨h1, h2⟩) hg hr
          · exact .inl h1
          · exact .inr ⟨h1, h2.grown hg (by have := HW9.out; omega) hr⟩
        case sz =>
          rintro pre W ⟨h1, _⟩
          have := lt_of_block h1.box
          have := HW9.out
          omega
        case atstart => exact ⟨HCT.out, List.nil_prefix, by simp; omega⟩
        case assign =>
          intro l pre x W K q hq hI hK
          subst hq
          have HK := Lib.hid hK
          clear hK
          gi_wp2
          generalize W.heap.size = q at *
          exact HK.out
        case fd =>
          rintro xs W hxs ⟨h1, _, h3⟩
          have hl : xs.length = ms.length := by
            have h4 := congrArg List.length hxs
            rw [HLP.out, HMS.out] at h4
            simpa using h4
          rw [show min many (ms.length : Int) = xs.length by omega]
          exact h1
        case fs =>
          rintro c pre W hp (⟨_, h1⟩ | h1)
          · rw [HLP.out, HMS.out] at hp
            exact absurd hp h1
          · exact h1
        case body =>
          rintro lp pre x qx W ⟨h1, h2, h3⟩ hy hq hQ hpl
          have hfW : Fr0 W1 W := HFW8.out.trans h1.fr
          have hLL : LP.length = L.length := by have h4 := congrArg List.length HLP.out; simpa using h4
          rw [hLL] at hpl
          obtain ⟨⟨z0, z1, z2, z3⟩, _⟩ := m_cells hQ
          obtain ⟨⟨_, _, o2⟩, _⟩ := po_cells2 (hfW.blk HC.out.box (fun h => h))
          have hfB := HC.out.du.pw.fr.trans hfW
          have hcm : W.cell? ⟨w.heap.size, 0, none⟩ = some (.int .i64 many) := cell_of_blk (hfB.blk HMB.out (fun h => h)) 0
          have hrb := hfB.blk HRB.out (fun h => h)
          obtain ⟨p2, off, rfl⟩ := HLS.out.rd.some_ (by rw [rms_length]; omega)
          obtain ⟨d0, d1, d2, d3⟩ := rd_rm (HLS.out.rd.kept hfW) pre.length hpl
          have okz := (HLS.out.at_ _ hpl).kept hfW
          have H1 := Lib.hid h1
          have H2 := Lib.hid h2
          have H3 := Lib.hid h3
          have hmz : ms[pre.length]? = some L[pre.length].m := by rw [← HMS.out]; simp [msgs, hpl]
          have HPL := Lib.hid (show pre.length < ms.length by rw [← HMS.out]; simpa using hpl)
          have hc1 := h1.cell.1
          have HONE := Lib.hid (fun (y : Wx W) => one_calls x L[pre.length] y.u (hy.1.kept y.fr) (okz.kept y.fr))
          have ra := cg_cell (W := W) z0
          have rb := cg_cell (W := W) z1
          have rc := cg_cell (W := W) z2
          have rd' := cg_cell (W := W) z3
          have re := cg_cell (W := W) o2
          have rf := cg_cell (W := W) hc1
          have rg := cg_cell (W := W) d0
          have rh := cg_cell (W := W) d1
          have ri := cg_cell (W := W) d2
          have rj := cg_cell (W := W) d3
          have hi1 : (0 : Int) ≤ (pre.length : Int) := by omega
          have hi2 : (pre.length : Int) < (L.length : Int) := by omega
          have HZ := Lib.hid hmz
          generalize L[pre.length] = z at *
          have hwr : IntKind.i64.wrap ((pre.length : Int) + 1) = (pre.length : Int) + 1 := by rw [IntKind.wrap_i64]; omega
          clear hmz h1 h2 h3 z0 z1 z2 z3 o2 d0 d1 d2 d3 hc1 hQ HKN okz hy hLL
          gi_wp2
          refine wpIn_region_class (fun U => ∃ x : Wx W, U = x.u) 14 hmx (by kernel_rfl) (by kernel_rfl) (fun ⟨_, _, h⟩ => h) ⟨⟨W.drew, (Fr.refl _ W).drew⟩, rfl⟩ ?_
          simp only [List.take_succ_cons, List.take_zero, List.drop_succ_cons, List.drop_zero]
          have hi0 : decide (L.length ≤ pre.length) = false := decide_eq_false (by omega)
          repeat (first
            | go_big_quiet_step (fail)
            | go_big_quiet_step (first | (go_at_call 25; exact quiet_cg (HONE.out _))))
          refine wpQuiet_nil ?_
          rintro U ⟨y, hyU⟩
          have hf5 : Fr0 W U := hyU ▸ y.fr
          clear hyU y
          have HF5 := Lib.hid hf5
          have H5 := Lib.hid (H1.out.kept0 hf5)
          have hcm5 := hf5.cell hcm (fun h => h)
          obtain ⟨hc5, hz5⟩ := H5.out.cell
          have hrb5 := hf5.blk hrb (fun h => h)
          have hb5 : U.cell? ⟨w.heap.size + 1, 0, none⟩ = some (.bool false) := cell_of_blk hrb5 0
          have hy5 : U.frozen? ⟨w.heap.size + 1, 0, none⟩ = false := free_of_blk hrb5 0
          have HWL := Lib.hid (show w.heap.size + 1 < w8.heap.size from by have h1 := lt_of_block HRB.out; have h2 := HC.out.du.pw.fr.size; have h3 := HFW8.out.size; omega)
          clear ra rb rc rd' re rf rg rh ri rj hrb hcm hf5 hrb5
          by_cases hxz : x.m = z.m
          · have hxz2 : decide (x.m = z.m) = true := decide_eq_true hxz
            have HPRE := Lib.hid (show msgs (pre ++ [x]) <+: ms from by
              obtain ⟨t, ht⟩ := H2.out
              have hzz := HZ.out
              refine ⟨t.drop 1, ?_⟩
              have hl := HPL.out
              cases t with
              | nil => rw [← ht] at hl; simp at hl
              | cons y t =>
                have hy' : y = x.m := by
                  rw [hxz]
                  rw [← ht, List.getElem?_append_right (by simp)] at hzz
                  simpa using hzz
                rw [← ht, hy']
                simp [msgs])
            have HDN := Lib.hid (show ∀ V, Fr (fun k => k = w8.heap.size) W V → KeepsFrom wN.heap.size W V ∧ KpS (fun k => k = w8.heap.size) W V from fun V hf => ⟨keeps_of_fr hf _ (fun k o hk _ _ e => by have := HW9.out; omega), .of_fr hf⟩)
            have HST := Lib.hid (H5.out.set ((pre.length : Int) + 1))
            have HSF := Lib.hid ((Fr0.any (S := fun k => k = w8.heap.size) HF5.out).setCell (p := ⟨w8.heap.size, 0, none⟩) (fun _ => rfl) (.int .i64 ((pre.length : Int) + 1)))
            have hcm6 : (U.setCell ⟨w8.heap.size, 0, none⟩ (.int .i64 ((pre.length : Int) + 1))).cell? ⟨w.heap.size, 0, none⟩ = some (.int .i64 many) := by
              exact ((Fr.refl (fun k => k = w8.heap.size) U).setCell (p := ⟨w8.heap.size, 0, none⟩) (fun _ => rfl) _).cell hcm5 (fun e => by have := HWL.out; have e' : w.heap.size = w8.heap.size := e; omega)
            by_cases hm : (pre.length : Int) + 1 = many
            · have hmm : ((pre.length : Int) + 1 == many) = true := by simpa using hm
              have HM := Lib.hid hm
              clear hm
              go_wp2_with fail
              gi_wp2
              refine ⟨(HDN.out _ HSF.out).1, .inr ⟨rfl, ?_⟩⟩
              have h1 := HST.out
              have h2 := HM.out
              have h3 := HPL.out
              rw [show min many (ms.length : Int) = (pre.length : Int) + 1 by omega]
              exact h1
            · have hmm : ((pre.length : Int) + 1 == many) = false := by simpa using hm
              have HM := Lib.hid hm
              clear hm
              go_wp2_with fail
              gi_wp2
              refine ⟨(HDN.out _ HSF.out).1, (HDN.out _ HSF.out).2, ?_, HPRE.out, ?_⟩
              · rw [show ((pre ++ [x]).length : Int) = (pre.length : Int) + 1 by simp]
                exact HST.out
              · have h1 := HM.out
                have h2 := H3.out
                rw [show ((pre ++ [x]).length : Int) = (pre.length : Int) + 1 by simp]
                omega
          · have hxz2 : decide (x.m = z.m) = false := decide_eq_false hxz
            have HXZ := Lib.hid hxz
            clear hxz
            go_wp2_with fail
            gi_wp2
            refine ⟨keeps_of_fr ((Fr0.any (S := fun k => k = w.heap.size + 1) HF5.out).setCell (p := ⟨w.heap.size + 1, 0, none⟩) (fun _ => rfl) _) _ (fun k o hk _ _ e => by have := HW9.out; have := HWL.out; omega), .inl ⟨rfl, fun hp => ?_⟩⟩
            obtain ⟨t, ht⟩ := hp
            have h1 := HZ.out
            rw [← ht] at h1
            have h2 : (msgs (pre ++ [x]) ++ t)[pre.length]? = some x.m := by
              rw [List.getElem?_append_left (by simp)]
              simp [msgs]
            exact HXZ.out (by rw [h1] at h2; exact (Option.some.inj h2).symm)
        case fin =>
          rintro D W hD hcnt hK
          have HX0 := Lib.hid (HCX.out.kept hcnt.fr)
          have HX2 := Lib.hid (HC2.out.kept hcnt.fr)
          have HCNT := Lib.hid hcnt
          have HKD := Lib.hid hK
          have HLT := Lib.hid (show b2 ≠ b ∧ b2 ≠ q ∧ w6.heap.size ≠ b ∧ w6.heap.size ≠ q ∧ b2 < w8.heap.size ∧ w6.heap.size < w8.heap.size ∧ wB.heap.size ≤ b2 ∧ wB.heap.size ≤ w6.heap.size from by
            have h1 := HBB.out
            have h2 := HC.out.lt
            have h3 := HC.out.du.pw.fr.size
            omega)
          have HSB := Lib.hid (show w.heap.size + 2 ≤ w8.heap.size by have h1 := HSZ.out; have h2 := HC.out.du.pw.fr.size; have h3 := HFW8.out.size; omega)
          clear hcnt hK hsq
          generalize w6.heap.size = q2 at *
          go_wp2_with fail
          go_loopw [16] (fun i wr => ∃ (n : Nat) (s : Int × List Msg) (A4 : Option Addr) (n4 c4 : Nat), i = .int .i64 (n : Int) ∧ n ≤ l1.length ∧ Hid (Cq wB wr b2 q2 A4 n4 c4 (l0.length + n) s) ∧ Hid (Cq wB wr b q A2 L.length c2 l0.length (la, ms)) ∧ Hid (Fr (fun k => k = b2 ∨ k = q2) W wr)) (fun i _ => l1.length - (intOf i).toNat)
          case atStart => exact ⟨0, (la, ms), A2, L.length, c2, rfl, Nat.zero_le _, HX2.out, HX0.out, Fr.refl _ _⟩
          case round =>
            obtain ⟨n, s, A4, n4, c4, rfl, hn, HD2, HD0, HFR2⟩ := hrel
            by_cases hlt : n < l1.length
            · have HFR := Lib.hid HD2.out.du.pw.fr
              obtain ⟨g, off, rfl⟩ := HR1.out.some_ (by rw [ras_length]; omega)
              obtain ⟨d0, d1, d2, d3, d4⟩ := rd_ra ((HR1.out.kept HFR.out).kept (Fr.refl _ wr).drew) n hlt
              have HRO := Lib.hid (fun U (hf : Fr0 wB U) => HOK1.out n hlt U (HF.out.trans hf))
              have hi1 : (0 : Int) ≤ (n : Int) := by omega
              have hi2 : (n : Int) < (l1.length : Int) := by omega
              generalize l1[n] = r at *
              have HDO := Lib.hid (fun U (hf : Fr0 wr U) => does_any wB b2 _ (l0.length + n) 20 s r U (HD2.out.du.kept hf) (HRO.out U (HFR.out.trans hf)) (by omega))
              generalize actF 20 s r.a = s2 at *
              obtain ⟨la1, ms1⟩ := s
              obtain ⟨la2, ms2⟩ := s2
              dsimp only at HDO
              obtain ⟨⟨o0, o1, o2⟩, _⟩ := po_cells2 (show wr.drew.heap[q2]? = some (.cells (poc 20 la1 A4 n4 c4) 45 (0, 0)) from HD2.out.box)
              go_upto_region 26 with fail
              refine wp_region_noPanic ?_
              go_region_law ((go_simp; go_at_call 19; (with_reducible refine (HDO.out _ (Fr.refl _ wr).drew).mono ?_); rintro e wA ⟨⟨v5, rfl, hdu5⟩, hfA⟩; obtain ⟨A3, c3, L3, rfl, _, _⟩ := hdu5.rp; have hfB : Fr (fun k => k = b2) wr wA := (Fr.refl _ wr).drew.trans hfA; obtain ⟨⟨z0, z1, z2⟩, f0, f1, f2⟩ := po_cells2 (hfB.blk HD2.out.box HD2.out.ne)))
              all_goals
                refine NoPanic.normal ?_
                have hn := HD2.out.next (s2 := (la2, ms2)) hdu5 hfB
                have HN := Lib.hid hn.1
                have HN0 := Lib.hid (HD0.out.beside HD2.out hfB HLT.out.1 HLT.out.2.1 HLT.out.2.2.1 HLT.out.2.2.2.1 (m := 20) (l := la2) (A5 := A3) (n5 := L3.length) (c5 := c3))
                have HNF := Lib.hid (HFR2.out.trans hn.2)
                have HE : putP wA q2 20 la2 A3 L3.length c3 = (((wA.setCell ⟨q2, 0, none⟩ (.int .i64 20)).setCell ⟨q2, 1, none⟩ (.int .i64 la2)).setCell ⟨q2, 2, none⟩ (.slice A3 L3.length c3)) := rfl
                rw [← HE]
                dsimp only at HN HNF
                clear hn HE hdu5 hfA hfB z0 z1 z2 f0 f1 f2 d0 d1 d2 d3 d4 o0 o1 o2
                generalize putP wA q2 20 la2 A3 L3.length c3 = Wf at *
                go_wp2_with fail
                go_roundw
                case rel => exact ⟨n + 1, (la2, ms2), A3, L3.length, c3, by go_num, by omega, HN.out, HN0.out, HNF.out⟩
                case measure => simp [intOf]; omega
            · obtain rfl : n = l1.length := by omega
              obtain ⟨lo, mo⟩ := s
              obtain ⟨A9, c9, L4, heq, hls4, hms4⟩ := HD2.out.du.rp
              obtain ⟨rfl, rfl, rfl⟩ : A4 = A9 ∧ n4 = L4.length ∧ c4 = c9 := by simpa using heq
              obtain ⟨A8, c8, L8, heq8, hls8, hms8⟩ := HD0.out.du.rp
              obtain ⟨rfl, hL8, rfl⟩ : A2 = A8 ∧ L.length = L8.length ∧ c2 = c8 := by simpa using heq8
              have HSP := Lib.hid (fun U (hf : Fr0 wr U) => show Calls Try.prog 22 #[.slice A2 L.length c2, .slice A4 L4.length c4] U fun e w' => e = .returned (.bool (decide (ms = mo))) ∧ Fr0 U w' from by
                have := rsame_calls A2 A4 c2 c4 L8 L4 U (hls8.kept hf) (hls4.kept hf)
                rw [← hL8, hms8, hms4] at this
                exact this)
              have HMS2 := Lib.hid (show ms.length = L.length by have h : msgs L8 = ms := hms8; rw [← h]; simp [hL8])
              clear heq hls4 hms4 heq8 hls8 hms8 hL8
              have HSX := Lib.hid (fun w' (hf : Fr0 wr w') => same_calls wB b _ l0.length 20 la ms w' (HD0.out.du.kept hf))
              have HSC := Lib.hid (fun w' (hf : Fr0 wr w') => same_calls wB b2 _ (l0.length + l1.length) 20 lo mo w' (HD2.out.du.kept hf))
              have HSS := Lib.hid (fun w' (hf : Fr0 wr w') => show Calls Try.prog 26 #[.pointer (some ⟨b, 0, none⟩), .pointer (some ⟨b2, 0, none⟩)] w' fun e w'' => e = .returned (.bool (decide (la = lo) && decide (ms = mo))) ∧ Fr0 w' w'' from by
                have := pw_same (HD0.out.du.pw.kept hf) (HD2.out.du.pw.kept hf)
                rw [show decide ((20 : Int) = 20 ∧ la = lo ∧ ms = mo) = (decide (la = lo) && decide (ms = mo)) by simp [Bool.decide_and]] at this
                exact this)
              have HCP := Lib.hid (fun w' (hf : Fr0 wr w') => pw_copy (HD0.out.du.pw.kept hf))
              have HSD := Lib.hid (fun w' b5 (hf : Fr0 wr w') (hp : Pw wB w' b5 20 la ms) => show Calls Try.prog 26 #[.pointer (some ⟨b, 0, none⟩), .pointer (some ⟨b5, 0, none⟩)] w' fun e w'' => e = .returned (.bool true) ∧ Fr0 w' w'' from by
                have := pw_same (HD0.out.du.pw.kept hf) hp
                rw [show decide ((20 : Int) = 20 ∧ la = la ∧ ms = ms) = true by simp] at this
                exact this)
              have HCB := Lib.hid (HFR2.out.blk HCNT.out.box (fun e => by have := HLT.out; omega))
              have HMW := Lib.hid (HD0.out.du.pw.fr.blk HMB.out (fun h => h))
              have HRBW := Lib.hid (HD0.out.du.pw.fr.blk HRB.out (fun h => h))
              have HFZ := Lib.hid (HF.out.trans HD0.out.du.pw.fr)
              have HDW := Lib.hid (HFR2.out.blk HKD.out (fun e => by have := HLT.out; have := HW9.out; omega))
              have HNE := Lib.hid (show w.heap.size + 1 < D from by have := HSB.out; have := HW9.out; omega)
              have HKE := Lib.hid (fun U (hf : Fr0 wr U) => And.intro (po_cells2 (hf.blk HD0.out.box (fun h => h))).1 (And.intro (po_cells2 (hf.blk HD2.out.box (fun h => h))).1 (show U.cell? ⟨w8.heap.size, 0, none⟩ = some (.int .i64 (min many ms.length)) ∧ U.cell? ⟨w.heap.size, 0, none⟩ = some (.int .i64 many) ∧ U.cell? ⟨w.heap.size + 1, 0, none⟩ = some (.bool false) ∧ U.frozen? ⟨w.heap.size + 1, 0, none⟩ = false from
                ⟨cell_of_blk (hf.blk HCB.out (fun h => h)) 0, cell_of_blk (hf.blk HMW.out (fun h => h)) 0, cell_of_blk (hf.blk HRBW.out (fun h => h)) 0, free_of_blk (hf.blk HRBW.out (fun h => h)) 0⟩)))
              rw [HMS2.out] at HKE
              obtain ⟨⟨u0, u1, u2⟩, ⟨v0, v1, v2⟩, t0, t1, _, _⟩ := HKE.out wr (Fr.refl _ _)
              go_upto_region 27 with fail
              go_cut [17] from 101 to 112 (fun s17 wx => s17 = .bool (decide (la = lo) && decide (ms = mo)) ∧ Hid (Fr0 wr wx))
              case first =>
                by_cases e1 : la = lo
                · have hd1 : (la == lo) = true := by simpa using e1
                  have HE1 := Lib.hid e1
                  clear e1
                  go_wp2_with (go_at_call 22; refine (HSP.out _ (Fr.refl _ _)).mono ?_; rintro e w3 ⟨rfl, hf3⟩)
                  go_meet
                  refine ⟨?_, hf3⟩
                  rw [decide_eq_true HE1.out, Bool.true_and]
                  try rfl
                · have hd1 : (la == lo) = false := by simpa using e1
                  have HE1 := Lib.hid e1
                  clear e1
                  go_wp2_with fail
                  go_meet
                  refine ⟨?_, Fr.refl _ _⟩
                  rw [decide_eq_false HE1.out]
                  try rfl
              case rest =>
                obtain ⟨rfl, HFC⟩ := hcut
                generalize (decide (la = lo) && decide (ms = mo)) = AL at *
                obtain ⟨⟨u0, u1, u2⟩, ⟨v0, v1, v2⟩, t0, t1, _, _⟩ := HKE.out wc HFC.out
                go_wp2_with (first
                  | (go_at_call 20; (with_reducible refine (HSX.out _ HFC.out).mono ?_); rintro e wa ⟨rfl, hfa⟩; have hka := HFC.out.trans hfa; obtain ⟨⟨u0, u1, u2⟩, ⟨v0, v1, v2⟩, t0, t1, _, _⟩ := HKE.out _ hka)
                  | (go_at_call 20; (with_reducible refine (HSC.out _ hka).mono ?_); rintro e wb ⟨rfl, hfb⟩; have hkb := hka.trans hfb)
                  | (go_at_call 26; (with_reducible refine (HSS.out _ hkb).mono ?_); rintro e wd ⟨rfl, hfd⟩; have hkd := hkb.trans hfd)
                  | (go_at_call 23; (with_reducible refine (HCP.out _ hkd).mono ?_); rintro e we ⟨⟨b5, rfl, _, hp5⟩, hfe⟩; have hke := hkd.trans hfe)
                  | (go_at_call 26; (with_reducible refine (HSD.out _ b5 hke hp5).mono ?_); rintro e wf ⟨rfl, hff⟩; have hkf := hke.trans hff)
                  | (go_at_call 9; (with_reducible refine (HKN.out _).mono ?_); rintro e wg ⟨rfl, hfg⟩; have hkg := hkf.trans hfg; obtain ⟨_, _, _, _, y0, y1⟩ := HKE.out _ hkg))
                all_goals
                  have hbl := hkg.blk HRBW.out (fun h => h)
                  have hb2 := blk_setCell hbl 0 (.bool true)
                  have hK2 : (wg.setCell ⟨w.heap.size + 1, 0, none⟩ (.bool true)).heap[D]? = some (.deferred (some [])) := blk_setCell_other (hkg.blk HDW.out (fun h => h)) (p := ⟨w.heap.size + 1, 0, none⟩) (by have := HNE.out; show w.heap.size + 1 ≠ D; omega) _
                  refine ⟨by simp, .inl ⟨_, _, rfl, run_takeDeferred hK2, ?_⟩⟩
                  have hcl : ((wg.setCell ⟨w.heap.size + 1, 0, none⟩ (.bool true)).putObj D (.deferred none)).cell? ⟨w.heap.size + 1, 0, none⟩ = some (.bool true) := (World.cell?_of_block (World.putObj_heap_other (show w.heap.size + 1 ≠ D from by have := HNE.out; omega))).trans (cell_of_blk hb2 0)
                  refine ⟨_, results_cell_bool (p := 6) rfl _ _ _ _ rfl hcl, rfl, ?_⟩
                  exact ((HFZ.out.trans hkg).setCell (p := ⟨w.heap.size + 1, 0, none⟩) (fun h => absurd h (by show ¬ w.heap.size + 1 < w.heap.size; omega)) _).grown (grownBy_putObj' _ D _) (fun k hk e => absurd hk (by cases e; have := HNE.out; omega))
  · have hgc : fb = false ∨ (fb = true ∧ many < 1) ∨ (fb = true ∧ ¬ many < 1 ∧ 40 < many) := by
      cases fb
      · exact .inl rfl
      · refine .inr ?_
        by_cases h : many < 1
        · exact .inl ⟨rfl, h⟩
        · exact .inr ⟨rfl, h, by
            by_cases h2 : 40 < many
            · exact h2
            · exact absurd ⟨rfl, by omega, by omega⟩ hg⟩
    clear hg HFV hk0 hk1
    have HKE := Lib.hid (fun U (hf : Fr0 ((w.alloc (.cells #[.int .i64 many] 3)).alloc (.cells #[.bool false] 4)) U) => (show U.heap[w.heap.size + 1]? = some (.cells #[.bool false] 4 (0, 0)) ∧ U.cell? ⟨w.heap.size + 1, 0, none⟩ = some (.bool false) ∧ U.frozen? ⟨w.heap.size + 1, 0, none⟩ = false from
      ⟨hf.blk HRB.out (fun h => h), cell_of_blk (hf.blk HRB.out (fun h => h)) 0, free_of_blk (hf.blk HRB.out (fun h => h)) 0⟩))
    have HR := Lib.hid (show ∀ (e : Ending) (U : World), Fr0 ((w.alloc (.cells #[.int .i64 many] 3)).alloc (.cells #[.bool false] 4)) U → e = .returned (.bool true) → Yes w e (U.setCell ⟨w.heap.size + 1, 0, none⟩ (.bool true)) from fun e U hf he =>
      ⟨he, (HF.out.trans hf).setCell (p := ⟨w.heap.size + 1, 0, none⟩) (fun h => absurd h (by show ¬ w.heap.size + 1 < w.heap.size; omega)) _⟩)
    rcases hgc with rfl | ⟨rfl, hm1⟩ | ⟨rfl, hm1, hm2⟩
    all_goals
      go_enter Try.func7, Try.ntmps7
      go_upto_region 1 with fail
      generalize ((w.alloc (.cells #[.int .i64 many] 3)).alloc (.cells #[.bool false] 4)) = wB at *
      go_wp2_with (first
      | (at_builtin; refine wpList_app rfl (.const (.slice none 0 0)) (.tmp 18) _ rfl Try.underlying42 ra_elem (base := wB.heap.size) (.slice none 0 0) 0 [] rfl (own_nil _ _ _ _) (fun _ => False) A0 l0.length c0 (ras l0) rfl HR0.out HL0.out (ras_one l0) (by simp only [maxLen]; omega) (by omega) (Nat.le_refl _) HN0.out ?_; intro v5 w5 hown5 hg5 hat5; rw [Nat.zero_add, List.nil_append] at hown5; have hfb : Fr0 wB w5 := (Fr.refl _ wB).grown hg5 (fun k _ e => by simp [Value.ownBlock] at e); have hc5 := hfb.cell cm (fun h => h))
      | (at_builtin; refine wpList_app rfl (.tmp 19) (.tmp 20) _ rfl Try.underlying42 ra_elem (base := wB.heap.size) v5 l0.length (ras l0) rfl hown5 (fun _ => False) A1 l1.length c1 (ras l1) rfl (HR1.out.kept hfb) HL1.out (ras_one l1) (by simp only [maxLen]; omega) (by omega) hfb.size HN1.out ?_; intro v6 w6 hown6 hg6 hat6; obtain ⟨A6, c6, rfl, _, _⟩ := own_form hown6; have hfc : Fr0 wB w6 := hfb.grown hg6 (fun k hk e => by have := (own_blk hown5 e).1; omega); rw [← ras_append] at hown6; have hc6 := hfc.cell cm (fun h => h))
      | (go_at_call 18; refine (HFW.out w6 _ _ (own_rd _ hown6 (fun _ _ _ h => h))).mono ?_; rintro e w7 ⟨rfl, hf7⟩; have hc7 := hf7.cell hc6 (fun h => h))
      | (go_at_call 9; (with_reducible refine (HKN.out _).mono ?_); rintro e w8 ⟨rfl, hf8⟩; have hfd : Fr0 wB w8 := (hfc.trans hf7).trans hf8; obtain ⟨hbl, cv, fv⟩ := HKE.out _ hfd))
      (try simp only [Exit.inBlock, Exit.then])
      refine bodyPost_ret (results_cell_bool (p := 6) rfl _ _ _ _ rfl (cell_of_blk (blk_setCell hbl 0 (.bool true)) 0)) rfl ?_
      exact HR.out _ _ hfd rfl
end Go.Proofs.Ytbhdkpcakjookaa
