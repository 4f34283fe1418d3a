/- Chapter 15: the law's list, SamePackets. -/
import Derived.Test.YtfiiikgjgcnjgaaFfP
set_option linter.unusedVariables false
set_option linter.unusedSimpArgs false
namespace Go.Proofs.Ytfiiikgjgcnjgaa
open Go.RowKit
attribute [local go_sem] Oper.semAt_some

abbrev seqFn (p : Nat) : Value := .func (.func 35) #[] #[.pointer (some ⟨p, 0, none⟩)]
set_option maxHeartbeats 2000000 in
theorem flist_of (v : Value) (l : List Pk) (w : World) (hl : l.length ≤ 1000000) (HALL : ∀ w', Fr0 w w' → Calls Try.prog 19 #[v] w' fun e w'' => (∃ f, e = .returned f ∧ IsSeq w'.heap.size w'' f l) ∧ Fr0 w' w'') :
    Calls Try.prog 15 #[v] w fun e w' => (∃ u, e = .returned u ∧ pkRow w' w.heap.size u l ∧ (l = [] → u = .slice none 0 0)) ∧ Fr0 w w' := by
  have hfa := (Fr.refl (fun _ => False) w).alloc (.cells #[.slice none 0 0] 28)
  have HAL := Lib.hid (HALL _ hfa)
  have HB := Lib.hid (heap_alloc_new w (.cells #[.slice none 0 0] 28))
  have HFA := Lib.hid hfa
  have HS0 := Lib.hid (show (w.alloc (.cells #[.slice none 0 0] 28)).heap.size = w.heap.size + 1 by simp)
  clear HALL hfa
  have hfn : ∀ (q : Nat) (w : World), (binOp .eql 51 (seqFn q) Value.nilFunc).run Try.prog w = .ok (.bool false) w := fun _ _ => rfl
  refine (callsIn_wide (n := 5)).1 ?_
  refine callsIn_of_wp_marks Try.func15 rfl trivial ?_ rfl
  simp only [Try.ntmps15, List.size_toArray, List.length_cons, List.length_nil, Nat.reduceAdd, Nat.reduceSub, Array.replicate_succ, Array.replicate_zero, List.push_toArray, List.append_toArray, List.nil_append, List.cons_append]
  gi_wp2_with (refine ⟨trivial, ?_⟩; gi_at_call 19; refine (callsIn_wide.2 HAL.out).mono ?_; rintro e W0 ⟨⟨f, rfl, p, A, c, rfl, hp1, hp2, hp3⟩, hf0⟩)
  have hbx := hf0.blk HB.out (fun h => h)
  have hfw := HFA.out.trans hf0
  have hsz : w.heap.size + 1 ≤ W0.heap.size := by have := hf0.size; have := HS0.out; omega
  have HSZ := Lib.hid hsz
  have HP := Lib.hid (show w.heap.size + 1 ≤ p from by have := HS0.out; omega)
  have hseq := fall1_stops Fence.wide (5 - 1) trivial rfl (by omega) p (fun k => k = w.heap.size ∨ W0.heap.size ≤ k) A c l (by simp only [maxLen]; omega) W0 ((cell_of_blk hp2 0).trans (by simp)) (hp3.mono (T := fun k => k = w.heap.size ∨ W0.heap.size ≤ k) (fun k hk e => by have := HS0.out; show k < _; rcases e with e | e <;> omega))
  clear HAL HB HFA hsz hp1 hp2 hp3 hf0
  have hmx : Try.prog.follows .mixedOrders = true := by kernel_rfl
  refine wpIn_rangeFunc_ownH rfl (by omega) (gf := 35) (lb := #[.pointer (some ⟨p, 0, none⟩)]) rfl trivial (enters_of Try.func35 (by kernel_rfl) rfl)
    hseq (fun h k => h.trans k) (fun W l o o' _ h ho _ => Ck.putObj W l o o' h ho) (Below.refl _ _) (fun _ => rfl)
    (fun pre W => ∃ v, W.heap[w.heap.size]? = some (.cells #[v] 28 (0, 0)) ∧ pkRow W W0.heap.size v pre ∧ Fr0 w W ∧ W0.heap.size ≤ W.heap.size ∧ (pre = [] → v = .slice none 0 0))
    (fun _ _ _ => False) ?own (fun _ _ _ _ _ hs _ _ => hs) ⟨_, hbx, own_nil _ _ _ _, hfw, Nat.le_refl _, fun _ => rfl⟩
    (fun x a' W => ∃ q, W0.heap.size ≤ q ∧ W.heap[q]? = some (.cells (pkc x).toArray 34 (0, 0)) ∧ a' = { tmps := #[v, undef, .slice none 0 0, .pointer (some ⟨w.heap.size, 0, none⟩), seqFn p, .pointer (some ⟨q, 0, none⟩), v, seqFn p, seqFn p, .bool false, seqFn p, pkv x, undef, undef, undef, undef, undef], defers := [] })
    ?ax ?assign ?body ?done ?stop
  case own =>
    rintro pre A1 B1 row ⟨v, h1, h2, hf, hs, he⟩ hg hr
    have hn := ne_row hr
    have hfr : Fr (fun k => row = some k) A1 B1 := (Fr.refl _ A1).grown hg (fun k _ e => e)
    refine ⟨v, blk_grown h1 hg (hn _ _ _ _ h1), own_kept h2 hfr (fun k hk e => ?_), hf.grown hg (fun k hk e => by have := (hr k e).1; have := HSZ.out; omega), Nat.le_trans hs hfr.size, he⟩
    obtain ⟨_, sp, hb⟩ := own_blk h2 hk
    exact hn _ _ _ _ hb e.symm
  case ax =>
    rintro x a' _ A1 B1 row ⟨q, hq, hA, ha⟩ hg hr
    have hn := ne_row hr
    exact ⟨q, hq, blk_grown hA hg (hn _ _ _ _ hA), ha⟩
  case assign =>
    rintro l pre x W K ⟨v, h1, h2, hf, hs, he⟩ hK
    have HK := Lib.hid hK
    clear hK
    gi_wp2
    exact HK.out _ _ (keeps_of_fr ((Fr.refl (fun _ => False) W).alloc _) _ (fun _ _ _ _ _ h => h)) (Ck.of_fr ((Fr.refl _ W).alloc _)) ⟨v, blk_alloc h1 _, own_kept0 h2 ((Fr.refl _ W).alloc _), hf.alloc _, Nat.le_trans hs (by simp), he⟩ ⟨W.heap.size, hs, heap_alloc_new _ _, rfl⟩
  case body =>
    rintro r pre x a' W hlr _ ⟨v, h1, h2, hf, hs, _⟩ ⟨q, hq, hQ, rfl⟩ hpl
    obtain ⟨A1, cv, rfl, hvc, hvm⟩ := own_form h2
    obtain ⟨⟨z0, z1, z2⟩, _⟩ := pk_cells hQ
    have a0 : W.cell? ⟨w.heap.size, 0, none⟩ = some (.slice A1 pre.length cv) := cell_of_blk h1 0
    have H1 := Lib.hid h1
    have H2 := Lib.hid h2
    have HF := Lib.hid hf
    have HS := Lib.hid hs
    have H3 := Lib.hid (show (Value.slice A1 pre.length cv).ownBlock ≠ some w.heap.size from fun e => by have := (own_blk H2.out e).1; have := HSZ.out; omega)
    clear h1 h2 hf hQ
    refine wpIn_block (wpIn_region_plain (by kernel_rfl) (fun ⟨_, _, h⟩ => h) ?_)
    go_wp2_with (at_builtin; refine wpList_app rfl (.tmp 12) (.tmp 14) _ rfl Try.underlying28 pk_elem (base := W0.heap.size) (.slice A1 pre.length cv) pre.length (pks pre) rfl (own_kept0 H2.out ((Fr.refl _ W).alloc _)) (fun _ => False) _ 1 1 (pks [x]) rfl (rd_pk1 _ _ x _ (fun h => h)) rfl (pks_one _) (by simp only [maxLen]; omega) (by omega) (by have := HS.out; simp; omega) (by simp) ?_; intro v6 w6 hown hg hat; obtain ⟨A6, cv6, rfl, hvc6, hvm6⟩ := own_form hown; have hP6 := blk_grown (blk_alloc H1.out _) hg (fun e => H3.out e.symm); have p6 : w6.cell? ⟨w.heap.size, 0, none⟩ = some (.slice A1 pre.length cv) := cell_of_blk hP6 0; have f6 : w6.frozen? ⟨w.heap.size, 0, none⟩ = false := free_of_blk hP6 0)
    have hne6 : (Value.slice A6 (pre.length + 1) cv6).ownBlock ≠ some w.heap.size := by
      intro e
      have := (own_blk hown e).1
      have := HSZ.out
      omega
    have hfs : Fr (fun k => k = w.heap.size ∨ (Value.slice A1 pre.length cv).ownBlock = some k) W (w6.setCell ⟨w.heap.size, 0, none⟩ (.slice A6 (pre.length + 1) cv6)) := (((Fr.refl _ W).alloc _).grown hg (fun k _ e => .inr e)).setCell (p := ⟨w.heap.size, 0, none⟩) (fun _ => .inl rfl) _
    rw [← pks_append] at hown
    refine ⟨keeps_of_fr hfs _ (fun k o hk ho hc hs => ?_), Ck.of_fr (hfs.mono (fun k hk e => ?_)), _, blk_setCell hP6 0 _, ?_, ?_, Nat.le_trans HS.out hfs.size, fun e => absurd e (by simp)⟩
    · rcases hs with rfl | hs
      · have := HSZ.out; omega
      · obtain ⟨_, cs, hb⟩ := own_blk H2.out hs
        rw [ho] at hb; cases hb; simp [Obj.isCells] at hc
    · rcases e with rfl | e
      · exact .inl rfl
      · exact .inr (own_blk H2.out e).1
    · have := own_kept (w' := w6.setCell ⟨w.heap.size, 0, none⟩ (.slice A6 (pre.length + 1) cv6)) hown ((Fr.refl (· = w.heap.size) w6).setCell (fun _ => rfl) _) (fun q hq e => hne6 (by rw [hq, e]))
      show World.ownsRow _ _ _ _ _ _ _
      rw [List.length_append]
      exact this
    · exact ((HF.out.alloc _).grown hg (fun k hk e => by have := (own_blk H2.out e).1; have := HSZ.out; omega)).setCell (p := ⟨w.heap.size, 0, none⟩) (fun h => absurd h (Nat.lt_irrefl _)) _
  case done =>
    rintro D xs W hD rfl ⟨v, h1, h2, hf, hs, he⟩ hK
    obtain ⟨A1, cv, rfl, hvc, hvm⟩ := own_form h2
    have HE := Lib.hid he
    clear he
    have a0 : W.cell? ⟨w.heap.size, 0, none⟩ = some (.slice A1 xs.length cv) := cell_of_blk h1 0
    gi_wp2
    refine ⟨by simp, .inl ⟨_, _, rfl, run_takeDeferred hK, ?_⟩⟩
    refine ⟨_, results_tmp rfl _ _ _, ⟨.slice A1 xs.length cv, rfl, own_mono (own_kept h2 (((Fr.refl (fun k => k = D) W).grown (grownBy_putObj' W D _) (fun k hk e => by cases e; rfl))) (fun k hk e => ?_)) (by have := HSZ.out; omega), HE.out⟩, hf.grown (grownBy_putObj' W D _) (fun k hk e => by cases e; have := HSZ.out; omega)⟩
    subst e
    obtain ⟨_, sp, hb⟩ := own_blk h2 hk
    rw [hK] at hb
    cases hb
  case stop => exact fun _ _ _ _ _ _ h _ => h.elim
theorem flist_calls (b g : Nat) (X : Ln) (w : World) (h : IsLn w b g X) :
    Calls Try.prog 15 #[.pointer (some ⟨b, 0, none⟩)] w fun e w' => (∃ u, e = .returned u ∧ pkRow w' w.heap.size u X.all ∧ (X.all = [] → u = .slice none 0 0)) ∧ Fr0 w w' :=
  flist_of _ X.all w (by rw [X.all_length]; have := h.ok.many; have := h.max; omega) (fun w' hf => fall_calls b g X w' (h.kept0 hf))
theorem fsamepk_calls (A B : Option Addr) (c d : Nat) (l m : List Pk) (w : World) (hA : Rd (fun _ => False) w A (pks l)) (hB : Rd (fun _ => False) w B (pks m)) (hl : l.length ≤ 1000000) (hm : m.length ≤ 1000000) :
    Calls Try.prog 16 #[.slice A l.length c, .slice B m.length d] w fun e w' => e = .returned (.bool (decide (l = m))) ∧ Fr0 w w' := by
  have HA := Lib.hid hA
  have HB := Lib.hid hB
  clear hA hB
  by_cases hlen : l.length = m.length
  · have HLN := Lib.hid hlen
    have hq1 : ((l.length : Int) == (m.length : Int)) = true := by rw [hlen]; simp
    have hq2 : ((l.length : Int) != (m.length : Int)) = false := by rw [hlen]; simp
    clear hlen
    go_enter Try.func16, Try.ntmps16
    go_wp2_with fail
    go_loopw [5] (fun i wr => ∃ (k : Nat), k ≤ l.length ∧ i = .int .i64 (k : Int) ∧ Hid (l.take k = m.take k) ∧ Hid (Fr0 w wr)) (fun i _ => l.length - (intOf i).toNat)
    case atStart => exact ⟨0, by omega, rfl, by simp [Hid], Fr.refl _ _⟩
    case round =>
      obtain ⟨k, hk, rfl, HT, HF⟩ := hrel
      by_cases hlt : k < l.length
      · have hlt2 : k < m.length := by have := HLN.out; omega
        have hr := HA.out.kept HF.out
        have hs := HB.out.kept HF.out
        obtain ⟨b, off, rfl⟩ := hr.some_ (by rw [pks_length]; omega)
        obtain ⟨b2, off2, rfl⟩ := hs.some_ (by rw [pks_length]; omega)
        obtain ⟨d0, d1, d2⟩ := rd_pk hr k hlt
        obtain ⟨e0, e1, e2⟩ := rd_pk hs k hlt2
        have hi1 : (0 : Int) ≤ (k : Int) := by omega
        have hi2 : (k : Int) < (l.length : Int) := by omega
        have hi3 : (k : Int) < (m.length : Int) := by omega
        have HSN := Lib.hid (fun (h : l[k] = m[k]) => show l.take (k + 1) = m.take (k + 1) by rw [List.take_succ_eq_append_getElem hlt, List.take_succ_eq_append_getElem hlt2, HT.out, h])
        have HNE := Lib.hid (fun (h : l[k] ≠ m[k]) => show l ≠ m from fun e => h (by subst e; rfl))
        generalize l[k] = x at *
        generalize m[k] = y at *
        obtain ⟨x0, x1, x2⟩ := x
        obtain ⟨y0, y1, y2⟩ := y
        clear hr hs
        dsimp only at *
        by_cases h0 : x0 = y0
        · subst h0
          by_cases h1 : x1 = y1
          · subst h1
            by_cases h2 : x2 = y2
            · subst h2
              have HS := Lib.hid (HSN.out rfl)
              clear HSN HNE
              go_wp2_with fail
              go_quiet (fail)
              go_wp2_with fail
              go_roundw
              case rel => exact ⟨k + 1, by omega, by go_num, HS.out, HF.out.drewN nq⟩
              case measure => simp [intOf]; omega
            · have hq3 : (x2 == y2) = false := by simpa using h2
              have HS := Lib.hid (decide_eq_false (HNE.out (fun e => h2 (by injection e))))
              clear HSN HNE h2
              go_wp2_with fail
              go_quiet (fail)
              go_wp2_with fail
              go_ret
              exact ⟨by rw [HS.out]; rfl, HF.out.drewN nq⟩
          · have hq3 : (x1 == y1) = false := by simpa using h1
            have HS := Lib.hid (decide_eq_false (HNE.out (fun e => h1 (by injection e))))
            clear HSN HNE h1
            go_wp2_with fail
            go_quiet (fail)
            go_wp2_with fail
            go_ret
            exact ⟨by rw [HS.out]; rfl, HF.out.drewN nq⟩
        · have hq3 : (x0 == y0) = false := by simpa using h0
          have HS := Lib.hid (decide_eq_false (HNE.out (fun e => h0 (by injection e))))
          clear HSN HNE h0
          go_wp2_with fail
          go_quiet (fail)
          go_wp2_with fail
          go_ret
          exact ⟨by rw [HS.out]; rfl, HF.out.drewN nq⟩
      · have hkm : k = l.length := by omega
        subst hkm
        go_wp2_with fail
        go_ret
        have he : l = m := by have h1 := HT.out; have h2 := HLN.out; rw [h2, List.take_length, ← h2, List.take_length] at h1; exact h1
        exact ⟨by rw [decide_eq_true he]; rfl, HF.out⟩
  · have hq2 : ((l.length : Int) != (m.length : Int)) = true := by simp; omega
    have HNE := Lib.hid (decide_eq_false (fun e : l = m => hlen (by rw [e])))
    clear hlen
    go_enter Try.func16, Try.ntmps16
    go_wp2_with fail
    go_ret
    exact ⟨by rw [HNE.out]; rfl, Fr.refl _ _⟩
end Go.Proofs.Ytfiiikgjgcnjgaa
