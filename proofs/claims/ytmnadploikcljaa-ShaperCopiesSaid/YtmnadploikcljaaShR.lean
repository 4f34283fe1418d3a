/- Chapter 13: the document's Go. -/
import Derived.Test.YtmnadploikcljaaShQ
import Derived.Test.YtmnadploikcljaaShSa
set_option linter.unusedVariables false
set_option linter.unusedSimpArgs false
namespace Go.Proofs.Ytmnadploikcljaa
open Go.RowKit
attribute [local go_sem] Oper.semAt_some

/-- What the document's Go answers. -/
def RGoPost (S : Nat → Prop) (s : Sp) (room : Int) (l L : List (Int × Int)) (t : Int) (w : World) (e : Ending) (w' : World) : Prop :=
  (∃ O D A' c' A2' c2' A8 c8, L = O ++ D ∧ O.length = goN s t l L ∧ e = .returned (.tuple #[rsv s A' (l ++ tag t O).length c' t room A2' D.length c2', .slice A8 O.length c8, .int .i64 0]) ∧
    Rd (fun k => k < w.heap.size) w' A8 (sends O) ∧ Rd S w' A' (sends (l ++ tag t O)) ∧ (l ++ tag t O).length ≤ c' ∧ Rd S w' A2' (sends D) ∧ D.length ≤ c2' ∧ c2' ≤ maxLen) ∧ Fr0 w w'
/-- The blocks that the lists of a round lie apart from. -/
def RgT (S : Nat → Prop) (n : Nat) (v : Value) : Nat → Prop := fun k => (S k ∨ k = n ∨ k = n + 1) ∨ some k = v.ownBlock
def RgB (S : Nat → Prop) (n : Nat) : Nat → Prop := fun k => S k ∨ n ≤ k
theorem putR_rs_blk {w : World} {b : Nat} {s' : Sp} {A' : Option Addr} {n' c' : Nat} {now' room' : Int} {A2' : Option Addr} {n2' c2' : Nat} (h : w.heap[b]? = some (.cells (rsc s' A' n' c' now' room' A2' n2' c2') 51 (0, 0))) (s : Sp) (A : Option Addr) (n c : Nat) (now : Int) :
    (putR w b s A n c now).heap[b]? = some (.cells (rsc s A n c now room' A2' n2' c2') 51 (0, 0)) := by
  unfold putR
  have h := show (World.setCell _ ⟨b, 0, none⟩ (.int .i64 s.peak)).heap[b]? = some (.cells #[(.int .i64 s.peak), (.int .i64 s'.rate), (.int .i64 s'.burst), (.int .i64 s'.most), (.int .i64 s'.least), (.slice A' n' c'), (.int .i64 now'), (.int .i64 room'), (.slice A2' n2' c2')] 51 (0, 0)) from blk_setCell h 0 (.int .i64 s.peak)
  have h := show (World.setCell _ ⟨b, 1, none⟩ (.int .i64 s.rate)).heap[b]? = some (.cells #[(.int .i64 s.peak), (.int .i64 s.rate), (.int .i64 s'.burst), (.int .i64 s'.most), (.int .i64 s'.least), (.slice A' n' c'), (.int .i64 now'), (.int .i64 room'), (.slice A2' n2' c2')] 51 (0, 0)) from blk_setCell h 1 (.int .i64 s.rate)
  have h := show (World.setCell _ ⟨b, 2, none⟩ (.int .i64 s.burst)).heap[b]? = some (.cells #[(.int .i64 s.peak), (.int .i64 s.rate), (.int .i64 s.burst), (.int .i64 s'.most), (.int .i64 s'.least), (.slice A' n' c'), (.int .i64 now'), (.int .i64 room'), (.slice A2' n2' c2')] 51 (0, 0)) from blk_setCell h 2 (.int .i64 s.burst)
  have h := show (World.setCell _ ⟨b, 3, none⟩ (.int .i64 s.most)).heap[b]? = some (.cells #[(.int .i64 s.peak), (.int .i64 s.rate), (.int .i64 s.burst), (.int .i64 s.most), (.int .i64 s'.least), (.slice A' n' c'), (.int .i64 now'), (.int .i64 room'), (.slice A2' n2' c2')] 51 (0, 0)) from blk_setCell h 3 (.int .i64 s.most)
  have h := show (World.setCell _ ⟨b, 4, none⟩ (.int .i64 s.least)).heap[b]? = some (.cells #[(.int .i64 s.peak), (.int .i64 s.rate), (.int .i64 s.burst), (.int .i64 s.most), (.int .i64 s.least), (.slice A' n' c'), (.int .i64 now'), (.int .i64 room'), (.slice A2' n2' c2')] 51 (0, 0)) from blk_setCell h 4 (.int .i64 s.least)
  have h := show (World.setCell _ ⟨b, 5, none⟩ (.slice A n c)).heap[b]? = some (.cells #[(.int .i64 s.peak), (.int .i64 s.rate), (.int .i64 s.burst), (.int .i64 s.most), (.int .i64 s.least), (.slice A n c), (.int .i64 now'), (.int .i64 room'), (.slice A2' n2' c2')] 51 (0, 0)) from blk_setCell h 5 (.slice A n c)
  have h := show (World.setCell _ ⟨b, 6, none⟩ (.int .i64 now)).heap[b]? = some (.cells #[(.int .i64 s.peak), (.int .i64 s.rate), (.int .i64 s.burst), (.int .i64 s.most), (.int .i64 s.least), (.slice A n c), (.int .i64 now), (.int .i64 room'), (.slice A2' n2' c2')] 51 (0, 0)) from blk_setCell h 6 (.int .i64 now)
  exact h
set_option maxRecDepth 100000 in
set_option maxHeartbeats 8000000 in
theorem rsgo_yes (S : Nat → Prop) (s : Sp) (A : Option Addr) (c : Nat) (l : List (Int × Int)) (now0 room : Int) (A2 : Option Addr) (c2 : Nat) (L : List (Int × Int)) (t : Int) (w : World) (hS : ∀ k, w.heap.size ≤ k → ¬ S k)
    (hA : Rd S w A (sends l)) (hc : l.length ≤ c) (hA2 : Rd S w A2 (sends L)) (hc2 : L.length ≤ c2 ∧ c2 ≤ maxLen) (hln : l.length + L.length ≤ 99) (hm : now0 ≤ t ∧ t ≤ 2147483647)
    (hB : 0 < L.length → ∃ B, BkOf s l B ∧ B.now = now0) :
    Calls Try.prog 38 #[rsv s A l.length c now0 room A2 L.length c2, .int .i64 t] w (RGoPost S s room l L t w) := by
  have hmx : Try.prog.follows .mixedOrders = true := by kernel_rfl
  have HB0 := Lib.hid (blk_alloc (heap_alloc_new w (.cells (rsc s A l.length c now0 room A2 L.length c2) 51)) (.cells rsz 51))
  have HB1 := Lib.hid (show ((w.alloc (.cells (rsc s A l.length c now0 room A2 L.length c2) 51)).alloc (.cells rsz 51)).heap[w.heap.size + 1]? = some (.cells rsz 51 (0, 0)) from heap_alloc_nn (by simp))
  have HF := Lib.hid (((Fr.refl (fun _ => False) w).alloc (.cells (rsc s A l.length c now0 room A2 L.length c2) 51)).alloc (.cells rsz 51))
  have HSS := Lib.hid hS
  have HRA := Lib.hid (hA.mono (T := RgT S w.heap.size (.slice none 0 0)) (fun k hk e => by rcases e with (e | e | e) | e; exact e; omega; omega; simp [Value.ownBlock] at e))
  have HRL := Lib.hid (hA2.mono (T := RgB S w.heap.size) (fun k hk e => by rcases e with e | e; exact e; omega))
  have has := fun w' => rasked_calls s A l.length c now0 t w'
  simp only [if_pos hm] at has
  have HAS := Lib.hid has
  have HBB := Lib.hid (show 0 < L.length → ∃ B, BkOf s l B ∧ B.now = t from fun h => by
    obtain ⟨B, h1, h2⟩ := hB h
    have hmB : B.may t := ⟨by rw [h2]; exact hm.1, hm.2⟩
    exact ⟨B.tk t 0, (take0 h1 hmB).2, Bk.tk_now hmB 0⟩)
  obtain ⟨c0, c1, c2_, c3, c4, c5, c6, c7, c8⟩ := rs_cells HB0.out
  clear has hB hA hA2 hS
  go_enter Try.func38, Try.ntmps38
  go_wp2_with (go_at_call 53; refine (HAS.out _).mono ?_; rintro e w1 ⟨rfl, hf1⟩; have HF1 := Lib.hid (HF.out.trans hf1); have HP1 := Lib.hid (hf1.blk HB0.out (fun h => h)); have HQ1 := Lib.hid (hf1.blk HB1.out (fun h => h)); clear c0 c1 c2_ c3 c4 c5 c6 c7 c8 hf1; obtain ⟨c0, c1, c2_, c3, c4, c5, c6, c7, c8⟩ := rs_cells HP1.out; obtain ⟨y0, y1, y2, y3, y4, y5, y6, y7, y8⟩ := rs_free HP1.out)
  have HF2 := Lib.hid (HF1.out.setCell (p := ⟨w.heap.size, 6, none⟩) (fun h => absurd h (Nat.lt_irrefl _)) (.int .i64 t))
  have HP2 : Hid ((w1.setCell ⟨w.heap.size, 6, none⟩ (.int .i64 t)).heap[w.heap.size]? = some (.cells (rsc s A l.length c t room A2 L.length c2) 51 (0, 0))) := Lib.hid (blk_setCell HP1.out 6 (.int .i64 t))
  have HQ2 := Lib.hid (blk_setCell_other HQ1.out (p := ⟨w.heap.size, 6, none⟩) (by simp) (.int .i64 t))
  clear c0 c1 c2_ c3 c4 c5 c6 c7 c8 y0 y1 y2 y3 y4 y5 y6 y7 y8
  generalize w1.setCell ⟨w.heap.size, 6, none⟩ (.int .i64 t) = W at *
  have HSZ := Lib.hid (show w.heap.size + 2 ≤ W.heap.size from lt_of_block HQ2.out)
  go_loopw [8, 9, 10, 11] (fun s8 _ _ _ wr => ∃ (T O D : List (Int × Int)) (A8 : Option Addr) (k8 : Nat) (A1 : Option Addr) (k1 : Nat) (A2 : Option Addr) (k2 : Nat), s8 = .slice A8 O.length k8 ∧ T.length ≤ k1 ∧ D.length ≤ k2 ∧ k2 ≤ maxLen ∧ Hid (L = O ++ D) ∧ Hid (T = l ++ tag t O) ∧ Hid (goN s t l L = O.length + goN s t T D) ∧
      Hid (wr.heap[w.heap.size]? = some (.cells (rsc s A1 T.length k1 t room A2 D.length k2) 51 (0, 0))) ∧ Hid (wr.heap[w.heap.size + 1]? = some (.cells rsz 51 (0, 0))) ∧ Hid (Rd (RgT S w.heap.size s8) wr A1 (sends T)) ∧ Hid (Rd (RgB S w.heap.size) wr A2 (sends D)) ∧
      Hid (wr.ownsRow (w.heap.size + 2) 33 2 s8 O.length (sends O)) ∧ Hid (0 < D.length → ∃ B, BkOf s T B ∧ B.now = t) ∧ Hid (Fr0 w wr)) (fun s8 _ _ _ _ => L.length - vlen s8)
  case atStart => exact ⟨l, [], L, none, 0, A, c, A2, c2, rfl, hc, hc2.1, hc2.2, rfl, by simp [Hid, tag], by simp [Hid], HP2.out, HQ2.out, HRA.out.kept (Fr0.any HF2.out), HRL.out.kept (Fr0.any HF2.out), own_nil _ _ _ _, HBB.out, HF2.out⟩
  case round =>
    obtain ⟨T, O, D, A8, k8, A1, k1, A2', k2, rfl, hk1, hk2, hkm, HLD, HT, HG, HP, HQ, HR1, HR2, HO, HBO, HFW⟩ := hrel
    have HLE := Lib.hid (show O.length + D.length = L.length by have := congrArg List.length HLD.out; simp at this; omega)
    have HTL := Lib.hid (show T.length = l.length + O.length by have := congrArg List.length HT.out; simpa [tag_length] using this)
    have hT99 : T.length ≤ 99 := by have := HTL.out; have := HLE.out; omega
    obtain ⟨c0, c1, c2_, c3, c4, c5, c6, c7, c8⟩ := rs_cells HP.out
    have q0 := cg_cell (W := wr) c0
    have q1 := cg_cell (W := wr) c1
    have q2 := cg_cell (W := wr) c2_
    have q3 := cg_cell (W := wr) c3
    have q4 := cg_cell (W := wr) c4
    have q5 := cg_cell (W := wr) c5
    have q6 := cg_cell (W := wr) c6
    have q7 := cg_cell (W := wr) c7
    have q8 := cg_cell (W := wr) c8
    cases D with
    | nil =>
      have HGE := Lib.hid (show goN s t T [] = 0 from rfl)
      simp only [List.length_nil] at c8 q8
      have hz0 : decide ((0 : Int) < 0) = false := by decide
      go_wp2_with fail
      refine wp_region_cg hmx (by kernel_rfl) ?_
      repeat (first | go_big_quiet_step (fail))
      refine wpQuiet_nil ?_
      intro w6 hf6
      have HP6 := Lib.hid (hf6.blk HP.out (fun h => h))
      have HQ6 := Lib.hid (hf6.blk HQ.out (fun h => h))
      clear q0 q1 q2 q3 q4 q5 q6 q7 q8 c0 c1 c2_ c3 c4 c5 c6 c7 c8
      obtain ⟨c0, c1, c2_, c3, c4, c5, c6, c7, c8⟩ := rs_cells HP6.out
      obtain ⟨x0, x1, x2, x3, x4, x5, x6, x7, x8⟩ := rs_cells HQ6.out
      obtain ⟨y0, y1, y2, y3, y4, y5, y6, y7, y8⟩ := rs_free HQ6.out
      go_wp2_with fail
      have hfw := putRs_fr (HFW.out.trans hf6) (b := w.heap.size + 1) (fun h => by omega) s A1 T.length k1 t room A2' ([] : List (Int × Int)).length k2
      have hfs0 := putRs_fr (S := fun k => k < w.heap.size + 2) (Fr0.any hf6) (b := w.heap.size + 1) (fun _ => by show w.heap.size + 1 < w.heap.size + 2; omega) s A1 T.length k1 t room A2' ([] : List (Int × Int)).length k2
      have hfs := fun S' : Nat → Prop => putRs_fr (S := fun k => S' k ∨ k = w.heap.size + 1) (Fr0.any hf6) (b := w.heap.size + 1) (fun _ => .inr rfl) s A1 T.length k1 t room A2' ([] : List (Int × Int)).length k2
      refine bodyPost_ret (results_row_tmp2 (p := 4) (u := 5) (v := 6) rfl _ _ (w.heap.size + 1) _ _ _ _ rfl (putRs_blk HQ6.out s A1 T.length k1 t room A2' ([] : List (Int × Int)).length k2) Try.underlying51 rfl (by kernel_rfl)) rfl ⟨⟨O, ([] : List (Int × Int)), A1, k1, A2', k2, A8, k8, HLD.out, ?_, ?_, ?_, ?_, ?_, ?_, hk2, hkm⟩, hfw⟩
      · rw [HG.out, HGE.out]; rfl
      · have e := HT.out; subst e; rfl
      · have := own_rd (fun k => k < w.heap.size + 2) HO.out (fun k h1 _ h2 => by omega)
        exact (this.kept hfs0).mono (fun _ _ h => by show _ < _; omega)
      · have e := HT.out; subst e
        exact ((HR1.out.mono (T := fun k => S k ∨ k = w.heap.size + 1) (fun k _ e => e.elim (fun h => .inl (.inl h)) (fun h => .inl (.inr (.inr h))))).kept (hfs S)).mono (fun _ _ h => .inl h)
      · have e := HT.out; subst e; exact hk1
      · exact ((HR2.out.mono (T := fun k => S k ∨ k = w.heap.size + 1) (fun k _ e => e.elim .inl (fun h => .inr (by omega)))).kept (hfs S)).mono (fun _ _ h => .inl h)
    | cons x D =>
      obtain ⟨B, hof, hBn⟩ := HBO.out (by simp)
      obtain ⟨g, off, rfl⟩ := HR2.out.some_ (by rw [sends_length]; simp)
      obtain ⟨d0, d1⟩ := rdl_cells HR2.out 0 (by simp)
      simp only [Nat.zero_mul, Nat.add_zero] at d0 d1
      replace d0 : wr.cell? ⟨g, off, none⟩ = some (.int .i64 x.1) := d0
      replace d1 : wr.cell? ⟨g, off + 1, none⟩ = some (.int .i64 x.2) := d1
      have q9 := cg_cell (W := wr) d1
      have hlx : (x :: D).length = D.length + 1 := rfl
      rw [hlx] at hk2
      have c8' : wr.cell? ⟨w.heap.size, 8, none⟩ = some (.slice (some ⟨g, off, none⟩) (D.length + 1) k2) := by rw [← hlx]; exact c8
      have hn0 : (0 : Int) < (D.length : Int) + 1 := by omega
      have hn1 : decide ((0 : Int) < (D.length : Int) + 1) = true := decide_eq_true hn0
      have q8 := cg_cell (W := wr) c8'
      have hkps := fun w' (h : Fr0 wr w') => rbkeeps_calls s A1 k1 T t t x.2 w' ((HR1.out.mono (T := fun _ => False) (fun _ _ h => h.elim)).kept h) (by omega) hk1 hof.right
      by_cases hkp : Keeps s (T ++ [(t, x.2)])
      · rw [decide_eq_true hkp] at hkps
        have HKP := Lib.hid hkps
        have HGE := Lib.hid (show goN s t T (x :: D) = goN s t (T ++ [(t, x.2)]) D + 1 by rw [goN_cons, if_pos hkp])
        have hmB : B.may t := ⟨by omega, hm.2⟩
        obtain ⟨hok, hof2⟩ := tk_yes hof hmB hkp
        have hrt := fun w' (hr : Rd (fun _ => False) w' A1 (sends T)) => rtake_calls hof A1 k1 t x.2 w' hr hT99 hk1
        unfold RTk at hrt
        simp only [hBn, lTk_yes hok, decide_eq_true hok, askA_yes hok, Bk.tk_now hmB] at hrt
        have HRT := Lib.hid hrt
        have HOF2 := Lib.hid (show 0 < D.length → ∃ B, BkOf s (T ++ [(t, x.2)]) B ∧ B.now = t from fun _ => ⟨B.tk t x.2, hof2, Bk.tk_now hmB x.2⟩)
        have HT2 := Lib.hid (show T ++ [(t, x.2)] = l ++ tag t (O ++ [x]) by rw [HT.out, tag_app, tag_one, List.append_assoc])
        have HL2 := Lib.hid (show (T ++ [(t, x.2)]).length ≤ T.length + 1 by simp)
        generalize T ++ [(t, x.2)] = T2 at *
        clear hkps hrt hok hof2 hof hmB hkp
        go_wp2_with fail
        refine wp_region_cg hmx (by kernel_rfl) ?_
        repeat (first
          | go_big_quiet_step (fail)
          | go_big_quiet_step (first | (go_at_call 54; exact quiet_cg (HKP.out _ (Wx.fr _)))))
        refine wpQuiet_nil ?_
        intro w6 hf6
        clear q0 q1 q2 q3 q4 q5 q6 q7 q8 q9 c0 c1 c2_ c3 c4 c5 c6 c7 c8 c8' HKP
        have HKC := Lib.hid (fun U (h : Fr0 w6 U) => (show (U.cell? ⟨w.heap.size, 0, none⟩ = some (.int .i64 s.peak) ∧ U.cell? ⟨w.heap.size, 1, none⟩ = some (.int .i64 s.rate) ∧ U.cell? ⟨w.heap.size, 2, none⟩ = some (.int .i64 s.burst) ∧ U.cell? ⟨w.heap.size, 3, none⟩ = some (.int .i64 s.most) ∧ U.cell? ⟨w.heap.size, 4, none⟩ = some (.int .i64 s.least) ∧ U.cell? ⟨w.heap.size, 5, none⟩ = some (.slice A1 T.length k1) ∧ U.cell? ⟨w.heap.size, 6, none⟩ = some (.int .i64 t) ∧ U.cell? ⟨w.heap.size, 8, none⟩ = some (.slice (some ⟨g, off, none⟩) (D.length + 1) k2)) ∧ U.cell? ⟨g, off + 1, none⟩ = some (.int .i64 x.2) from by
          have hb := rs_cells (h.blk (hf6.blk HP.out (fun h => h)) (fun h => h))
          exact ⟨⟨hb.x0, hb.x1, hb.x2, hb.x3, hb.x4, hb.x5, hb.x6, hb.x8⟩, h.cell (hf6.cell d1 (fun h => h)) (fun h => h)⟩))
        have HP6 := Lib.hid (hf6.blk HP.out (fun h => h))
        have HQ6 := Lib.hid (hf6.blk HQ.out (fun h => h))
        have HR16 := Lib.hid (HR1.out.kept (Fr0.any hf6))
        have HR26 := Lib.hid (HR2.out.kept (Fr0.any hf6))
        have HO6 := Lib.hid (own_kept0 HO.out hf6)
        have HF6 := Lib.hid (HFW.out.trans hf6)
        have HS6 := Lib.hid (show w.heap.size + 2 ≤ w6.heap.size from lt_of_block HQ6.out)
        have HNO := Lib.hid (show ∀ k, w6.heap.size ≤ k → ¬ RgT S w.heap.size (.slice A8 O.length k8) k from fun k hk e => by
          have := HS6.out
          rcases e with (e | e | e) | e
          · exact HSS.out k (by omega) e
          · omega
          · omega
          · obtain ⟨_, cs, hcs⟩ := own_blk HO6.out e.symm
            have := lt_of_block hcs
            omega)
        have HRT5 := Lib.hid (fun w' (h : Fr0 w6 w') => HRT.out w' ((HR16.out.mono (fun _ _ h => h.elim)).kept h))
        have HG6 := Lib.hid (show w6.cell? ⟨g, off, none⟩ = some (.int .i64 x.1) ∧ w6.cell? ⟨g, off + 1, none⟩ = some (.int .i64 x.2) from ⟨hf6.cell d0 (fun h => h), hf6.cell d1 (fun h => h)⟩)
        clear d0 d1 hf6
        go_upto_region 7 with fail
        go_cut [9, 10, 11] (fun s9 s10 s11 wx => ∃ (ob : Nat) (A3 : Option Addr) (k3 : Nat), s9 = .pointer (some ⟨ob, 0, none⟩) ∧ s10 = .bool true ∧ s11 = .int .i64 0 ∧ w6.heap.size ≤ ob ∧ T2.length ≤ k3 ∧ Hid (wx.heap[ob]? = some (.cells (rbc s A3 T2.length k3 t) 49 (0, 0))) ∧ Hid (Rd (RgT S w.heap.size (.slice A8 O.length k8)) wx A3 (sends T2)) ∧ Hid (Fr0 w6 wx))
        case first =>
          go_region_held3 (fun U => (U.cell? ⟨w.heap.size, 0, none⟩ = some (.int .i64 s.peak) ∧ U.cell? ⟨w.heap.size, 1, none⟩ = some (.int .i64 s.rate) ∧ U.cell? ⟨w.heap.size, 2, none⟩ = some (.int .i64 s.burst) ∧ U.cell? ⟨w.heap.size, 3, none⟩ = some (.int .i64 s.most) ∧ U.cell? ⟨w.heap.size, 4, none⟩ = some (.int .i64 s.least) ∧ U.cell? ⟨w.heap.size, 5, none⟩ = some (.slice A1 T.length k1) ∧ U.cell? ⟨w.heap.size, 6, none⟩ = some (.int .i64 t) ∧ U.cell? ⟨w.heap.size, 8, none⟩ = some (.slice (some ⟨g, off, none⟩) (D.length + 1) k2)) ∧ U.cell? ⟨g, off + 1, none⟩ = some (.int .i64 x.2))
            ((refine HKC.out _ ?_; with_reducible repeat (first | exact hfB | exact Fr.refl _ _ | refine Fr.drew ?_ | refine Fr.alloc ?_ _ | refine Fr.setCell ?_ (fun h => by exfalso; have hs := Fr.size hfB; dsimp only at h; omega) _)))
            ((go_at_call 55; refine (HRT5.out _ (by with_reducible repeat (first | exact Fr.refl _ _ | refine Fr.drew ?_ | refine Fr.alloc ?_ _))).mono ?_; rintro e wA ⟨⟨A3, k3, rfl, hlc3, hrd3⟩, hfA⟩; have hfB : Fr0 w6 wA := Fr.trans (by repeat (first | exact Fr.refl _ _ | refine Fr.drew ?_ | refine Fr.alloc ?_ _)) hfA; try (have hzz : wA.heap[w6.heap.size]? = some (.cells (rbc ⟨0, 0, 0, 0, 0⟩ none 0 0 0) 49 (0, 0)) := hfA.blk (heap_alloc_new _ _) (fun h => h); obtain ⟨z0, z1, z2, z3, z4, z5, z6⟩ := rb_cells hzz; obtain ⟨f0, f1, f2, f3, f4, f5, f6⟩ := rb_free hzz)))
          · have hx := hrd3 (RgT S w.heap.size (.slice A8 O.length k8)) (HR16.out.kept (Fr.refl _ w6).drew) (fun k hk e => HNO.out k hk e)
            have HX := Lib.hid (hx.kept ((Fr.refl _ wA).alloc (.cells (rbc s A3 T2.length k3 t) 49)))
            have HY := Lib.hid (heap_alloc_new wA (.cells (rbc s A3 T2.length k3 t) 49))
            have HZ := Lib.hid (hfB.alloc (.cells (rbc s A3 T2.length k3 t) 49))
            clear hx hrd3
            go_wp2_with fail
            go_meet
            exact ⟨wA.heap.size, A3, k3, rfl, rfl, rfl, Fr.size hfB, hlc3, HY, HX, HZ⟩
          · have hx := hrd3 (fun k => RgT S w.heap.size (.slice A8 O.length k8) k ∨ k = w6.heap.size) ((HR16.out.mono (fun k hk e => by rcases e with e | e; exact e; omega)).kept ((Fr.refl _ w6).drew.alloc _)) (fun k hk e => by
              have hk' : w6.heap.size + 1 ≤ k := (by simpa using hk)
              rcases e with e | e
              · exact HNO.out k (by omega) e
              · omega)
            have HX := Lib.hid ((hx.kept (putR_fr (Fr.refl _ wA) (b := w6.heap.size) (fun _ => .inr rfl) s A3 T2.length k3 t)).mono (T := RgT S w.heap.size (.slice A8 O.length k8)) (fun _ _ h => .inl h))
            have HY := Lib.hid (putR_blk hzz s A3 T2.length k3 t)
            have HZ := Lib.hid (putR_fr hfB (b := w6.heap.size) (fun h => absurd h (Nat.lt_irrefl _)) s A3 T2.length k3 t)
            clear hx hrd3 hzz
            generalize hch : (((((((wA.setCell ⟨w6.heap.size, 0, none⟩ (.int .i64 s.peak)).setCell ⟨w6.heap.size, 1, none⟩ (.int .i64 s.rate)).setCell ⟨w6.heap.size, 2, none⟩ (.int .i64 s.burst)).setCell ⟨w6.heap.size, 3, none⟩ (.int .i64 s.most)).setCell ⟨w6.heap.size, 4, none⟩ (.int .i64 s.least)).setCell ⟨w6.heap.size, 5, none⟩ (.slice A3 T2.length k3)).setCell ⟨w6.heap.size, 6, none⟩ (.int .i64 t)) = Wf at *
            have hW : putR wA w6.heap.size s A3 T2.length k3 t = Wf := hch
            rw [hW] at HX HY HZ
            clear hW hch z0 z1 z2 z3 z4 z5 z6 f0 f1 f2 f3 f4 f5 f6
            go_wp2_with fail
            go_meet
            exact ⟨w6.heap.size, A3, k3, rfl, rfl, rfl, Nat.le_refl _, hlc3, HY, HX, HZ⟩
        case rest =>
          obtain ⟨ob, A3, k3, rfl, rfl, rfl, hob, hlc3, HOB, HRDc, HFc⟩ := hcut
          have HPc := Lib.hid (HFc.out.blk HP6.out (fun h => h))
          have HQc := Lib.hid (HFc.out.blk HQ6.out (fun h => h))
          obtain ⟨o0, o1, o2, o3, o4, o5, o6⟩ := rb_cells HOB.out
          obtain ⟨c0, c1, c2_, c3, c4, c5, c6, c7, c8⟩ := rs_cells HPc.out
          obtain ⟨y0, y1, y2, y3, y4, y5, y6, y7, y8⟩ := rs_free HPc.out
          go_upto_region 9 with fail
          have HPe := Lib.hid (putR_rs_blk HPc.out s A3 T2.length k3 t)
          have HFe := Lib.hid (putR_fr (Fr.refl (fun k => k = w.heap.size) wc) (b := w.heap.size) (fun _ => rfl) s A3 T2.length k3 t)
          clear o0 o1 o2 o3 o4 o5 o6 c0 c1 c2_ c3 c4 c5 c6 c7 c8 y0 y1 y2 y3 y4 y5 y6 y7 y8
          generalize hch : (((((((wc.setCell ⟨w.heap.size, 0, none⟩ (.int .i64 s.peak)).setCell ⟨w.heap.size, 1, none⟩ (.int .i64 s.rate)).setCell ⟨w.heap.size, 2, none⟩ (.int .i64 s.burst)).setCell ⟨w.heap.size, 3, none⟩ (.int .i64 s.most)).setCell ⟨w.heap.size, 4, none⟩ (.int .i64 s.least)).setCell ⟨w.heap.size, 5, none⟩ (.slice A3 T2.length k3)).setCell ⟨w.heap.size, 6, none⟩ (.int .i64 t)) = We at *
          have hW : putR wc w.heap.size s A3 T2.length k3 t = We := hch
          rw [hW] at HPe HFe
          clear hW hch
          have hfe := (Fr0.any (S := fun k => k = w.heap.size) HFc.out).trans HFe.out
          have HR1e := Lib.hid (HRDc.out.kept (HFe.out.mono (T := RgT S w.heap.size (.slice A8 O.length k8)) (fun k _ e => .inl (.inr (.inl e)))))
          have HR2e := Lib.hid (HR26.out.kept (hfe.mono (T := RgB S w.heap.size) (fun k _ e => .inr (by omega))))
          have HOe := Lib.hid (own_kept HO6.out hfe (fun k hk e => by have := (own_blk HO6.out hk).1; omega))
          have HQe := Lib.hid (hfe.blk HQ6.out (fun e => by omega))
          have HFwe := Lib.hid (HF6.out.then hfe (fun k hk e => by omega))
          have HSe := Lib.hid (show w.heap.size + 2 ≤ We.heap.size from lt_of_block HQe.out)
          have HOB8 := Lib.hid (fun k (e : some k = (Value.slice A8 O.length k8).ownBlock) => (show w.heap.size + 2 ≤ k from (own_blk HOe.out e.symm).1))
          have HKe := Lib.hid (fun U (h : Fr (fun k => some k = (Value.slice A8 O.length k8).ownBlock) We U) => (show U.heap[w.heap.size]? = some (.cells (rsc s A3 T2.length k3 t room (some ⟨g, off, none⟩) (D.length + 1) k2) 51 (0, 0)) from h.blk HPe.out (fun e => by have := HOB8.out _ e; omega)))
          have hd := rdl_cells HR2e.out 0 (by simp)
          simp only [Nat.zero_mul, Nat.add_zero] at hd
          have d0 : We.cell? ⟨g, off, none⟩ = some (.int .i64 x.1) := hd.1
          have d1 : We.cell? ⟨g, off + 1, none⟩ = some (.int .i64 x.2) := hd.2
          have c8 := (rs_cells (HKe.out _ (Fr.refl _ We))).x8
          have hs1 : (1 : Int) ≤ (D.length : Int) + 1 := by omega
          have hO99 : O.length ≤ 99 := by have := HLE.out; omega
          clear hd hfe
          go_wp2_with (at_builtin; refine wpList_app rfl (.tmp 53) (.tmp 58) _ rfl Try.underlying30 wt_elem (base := w.heap.size + 2) (.slice A8 O.length k8) O.length (sends O) rfl (own_kept0 HOe.out ((Fr.refl _ We).alloc _)) (fun _ => False) _ 1 1 (sends [x]) rfl (rd_wt1 _ We x _ (fun h => h)) rfl (sends_one' _) (by simp only [maxLen]; omega) (by omega) (by have := HSe.out; simp; omega) (by simp) ?_; intro v6 w7 hown hg hat; obtain ⟨g6, c6, hv6, hg6, hgl6⟩ := hown.form (by omega); subst hv6; have hgr : Fr (fun q => some q = (Value.slice A8 O.length k8).ownBlock) We w7 := (Fr0.any ((Fr.refl (fun _ => False) We).alloc _)).grown hg (fun q _ e => e.symm); clear c8 d0 d1; have HP7 := Lib.hid (HKe.out _ hgr); have c8 := (rs_cells HP7.out).x8; have y8 := (rs_free HP7.out).2.2.2.2.2.2.2.2)
          have HTL := Lib.hid (tail_rd2 (L := x :: D) (k := 0) (by simp) HR2e.out k2 (by simp; omega))
          generalize (if k2 = 1 then some (⟨g, off, none⟩ : Addr) else some ⟨g, off + 2, none⟩) = A9 at *
          have hgrB := hgr.mono (T := RgB S w.heap.size) (fun q _ e => .inr (by have := HOB8.out q e; omega))
          have HR27 := Lib.hid (show Rd (RgB S w.heap.size) w7 A9 (sends D) from HTL.out.kept hgrB)
          have HR17 := Lib.hid (((HR1e.out.mono (T := fun k => RgT S w.heap.size (.slice (some ⟨g6, 0, none⟩) (O.length + 1) c6) k ∨ some k = (Value.slice A8 O.length k8).ownBlock) (fun k hk e => by
            rcases e with (e | e) | e
            · exact .inl e
            · rcases hat with h | h
              · exact .inr (e.trans h)
              · have e2 := e.trans h
                simp at e2
                omega
            · exact .inr e)).kept (hgr.mono (fun q _ e => .inr e))).mono (T := RgT S w.heap.size (.slice (some ⟨g6, 0, none⟩) (O.length + 1) c6)) (fun _ _ h => .inl h))
          have HQ7 := Lib.hid (hgr.blk HQe.out (fun e => by have := HOB8.out _ e; omega))
          have HF7 := Lib.hid (HFwe.out.then hgr (fun q hq e => by have := HOB8.out q e; omega))
          have HO7 := Lib.hid hown
          have HAT := Lib.hid hat
          clear hgrB hgr hown hat hg
          go_roundw
          case rel =>
            have hpw := fun S' (h : S' w.heap.size) => (Fr.refl S' w7).setCell (p := ⟨w.heap.size, 8, none⟩) (fun _ => h) (.slice A9 D.length (k2 - 1))
            have hk2' : D.length + 1 ≤ k2 := hk2
            refine ⟨T2, O ++ [x], D, some ⟨g6, 0, none⟩, c6, A3, k3, A9, k2 - 1, by simp, hlc3, by omega, by omega, ?_, ?_, ?_, ?_, ?_, ?_, ?_, ?_, ?_, ?_⟩
            · show L = _
              rw [HLD.out]; simp
            · exact HT2.out
            · show goN s t l L = _
              rw [HG.out, HGE.out]; simp; omega
            · exact blk_setCell HP7.out 8 (.slice A9 D.length (k2 - 1))
            · exact blk_setCell_other HQ7.out (p := ⟨w.heap.size, 8, none⟩) (by simp) _
            · exact HR17.out.kept (hpw _ (.inl (.inr (.inl rfl))))
            · exact HR27.out.kept (hpw _ (.inr (Nat.le_refl _)))
            · have := own_kept HO7.out (hpw (fun k => k = w.heap.size) rfl) (fun k hk e => by have := (own_blk HO7.out hk).1; omega)
              simp only [List.length_append, List.length_cons, List.length_nil, Nat.zero_add, sends_append]
              exact this
            · exact HOF2.out
            · exact HF7.out.setCell (p := ⟨w.heap.size, 8, none⟩) (fun h => absurd h (Nat.lt_irrefl _)) _
          case measure => have := HLE.out; simp only [List.length_cons] at this; simp only [vlen]; omega
      · rw [decide_eq_false hkp] at hkps
        have HKP := Lib.hid hkps
        have HGE := Lib.hid (show goN s t T (x :: D) = 0 by rw [goN_cons, if_neg hkp])
        clear hkps hkp
        go_wp2_with fail
        refine wp_region_cg hmx (by kernel_rfl) ?_
        repeat (first
          | go_big_quiet_step (fail)
          | go_big_quiet_step (first | (go_at_call 54; exact quiet_cg (HKP.out _ (Wx.fr _)))))
        refine wpQuiet_nil ?_
        intro w6 hf6
        have HP6 := Lib.hid (hf6.blk HP.out (fun h => h))
        have HQ6 := Lib.hid (hf6.blk HQ.out (fun h => h))
        clear q0 q1 q2 q3 q4 q5 q6 q7 q8 c0 c1 c2_ c3 c4 c5 c6 c7 c8
        obtain ⟨c0, c1, c2_, c3, c4, c5, c6, c7, c8⟩ := rs_cells HP6.out
        obtain ⟨x0, x1, x2, x3, x4, x5, x6, x7, x8⟩ := rs_cells HQ6.out
        obtain ⟨y0, y1, y2, y3, y4, y5, y6, y7, y8⟩ := rs_free HQ6.out
        go_wp2_with fail
        have hfw := putRs_fr (HFW.out.trans hf6) (b := w.heap.size + 1) (fun h => by omega) s A1 T.length k1 t room (some ⟨g, off, none⟩) (D.length + 1) k2
        have hfs0 := putRs_fr (S := fun k => k < w.heap.size + 2) (Fr0.any hf6) (b := w.heap.size + 1) (fun _ => by show w.heap.size + 1 < w.heap.size + 2; omega) s A1 T.length k1 t room (some ⟨g, off, none⟩) (D.length + 1) k2
        have hfs := fun S' : Nat → Prop => putRs_fr (S := fun k => S' k ∨ k = w.heap.size + 1) (Fr0.any hf6) (b := w.heap.size + 1) (fun _ => .inr rfl) s A1 T.length k1 t room (some ⟨g, off, none⟩) (D.length + 1) k2
        refine bodyPost_ret (results_row_tmp2 (p := 4) (u := 5) (v := 6) rfl _ _ (w.heap.size + 1) _ _ _ _ rfl (putRs_blk HQ6.out s A1 T.length k1 t room (some ⟨g, off, none⟩) (D.length + 1) k2) Try.underlying51 rfl (by kernel_rfl)) rfl ⟨⟨O, (x :: D), A1, k1, (some ⟨g, off, none⟩), k2, A8, k8, HLD.out, ?_, ?_, ?_, ?_, ?_, ?_, hk2, hkm⟩, hfw⟩
        · rw [HG.out, HGE.out]; rfl
        · have e := HT.out; subst e; rfl
        · have := own_rd (fun k => k < w.heap.size + 2) HO.out (fun k h1 _ h2 => by omega)
          exact (this.kept hfs0).mono (fun _ _ h => by show _ < _; omega)
        · have e := HT.out; subst e
          exact ((HR1.out.mono (T := fun k => S k ∨ k = w.heap.size + 1) (fun k _ e => e.elim (fun h => .inl (.inl h)) (fun h => .inl (.inr (.inr h))))).kept (hfs S)).mono (fun _ _ h => .inl h)
        · have e := HT.out; subst e; exact hk1
        · exact ((HR2.out.mono (T := fun k => S k ∨ k = w.heap.size + 1) (fun k _ e => e.elim .inl (fun h => .inr (by omega)))).kept (hfs S)).mono (fun _ _ h => .inl h)
set_option maxHeartbeats 2000000 in
theorem rsgo_not (s : Sp) (A : Option Addr) (n c : Nat) (now0 room : Int) (A2 : Option Addr) (n2 c2 : Nat) (t : Int) (w : World) (hm : ¬ (now0 ≤ t ∧ t ≤ 2147483647)) :
    Calls Try.prog 38 #[rsv s A n c now0 room A2 n2 c2, .int .i64 t] w fun e w' => e = .returned (.tuple #[rsv s A n c now0 room A2 n2 c2, .slice none 0 0, .int .i64 2]) ∧ Fr0 w w' := by
  have HB0 := Lib.hid (blk_alloc (heap_alloc_new w (.cells (rsc s A n c now0 room A2 n2 c2) 51)) (.cells rsz 51))
  have HB1 := Lib.hid (show ((w.alloc (.cells (rsc s A n c now0 room A2 n2 c2) 51)).alloc (.cells rsz 51)).heap[w.heap.size + 1]? = some (.cells rsz 51 (0, 0)) from heap_alloc_nn (by simp))
  have HF := Lib.hid (((Fr.refl (fun _ => False) w).alloc (.cells (rsc s A n c now0 room A2 n2 c2) 51)).alloc (.cells rsz 51))
  have has := fun w' => rasked_calls s A n c now0 t w'
  simp only [if_neg hm] at has
  have HAS := Lib.hid has
  obtain ⟨c0, c1, c2_, c3, c4, c5, c6, c7, c8⟩ := rs_cells HB0.out
  clear has hm
  go_enter Try.func38, Try.ntmps38
  go_wp2_with (go_at_call 53; refine (HAS.out _).mono ?_; rintro e w1 ⟨rfl, hf1⟩; have HF1 := Lib.hid (HF.out.trans hf1); have HP1 := Lib.hid (hf1.blk HB0.out (fun h => h)); have HQ1 := Lib.hid (hf1.blk HB1.out (fun h => h)); clear c0 c1 c2_ c3 c4 c5 c6 c7 c8 hf1; obtain ⟨c0, c1, c2_, c3, c4, c5, c6, c7, c8⟩ := rs_cells HP1.out; obtain ⟨x0, x1, x2, x3, x4, x5, x6, x7, x8⟩ := rs_cells HQ1.out; obtain ⟨y0, y1, y2, y3, y4, y5, y6, y7, y8⟩ := rs_free HQ1.out)
  exact bodyPost_ret (results_row_tmp2 (p := 4) (u := 5) (v := 6) rfl _ _ (w.heap.size + 1) _ _ _ _ rfl (putRs_blk HQ1.out s A n c now0 room A2 n2 c2) Try.underlying51 rfl (by kernel_rfl)) rfl ⟨rfl, putRs_fr HF1.out (b := w.heap.size + 1) (fun h => by omega) s A n c now0 room A2 n2 c2⟩
end Go.Proofs.Ytmnadploikcljaa
