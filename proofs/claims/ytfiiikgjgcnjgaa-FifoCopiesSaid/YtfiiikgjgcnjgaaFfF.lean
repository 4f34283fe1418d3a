/- Chapter 15: slices.Collect over a line's iterator. -/
import Derived.Test.YtfiiikgjgcnjgaaFfE
set_option linter.unusedVariables false
set_option linter.unusedSimpArgs false
namespace Go.Proofs.Ytfiiikgjgcnjgaa
open Go.RowKit
attribute [local go_sem] Oper.semAt_some

set_option maxHeartbeats 2000000 in
theorem fappseq_calls (base : Nat) (f : Value) (l : List Pk) (w : World) (h : IsSeq base w f l) (hl : l.length ≤ 1000000) :
    Calls Try.prog 40 #[.slice none 0 0, f] w fun e w' => (∃ v, e = .returned v ∧ pkRow w' w.heap.size v l) ∧ Fr0 w w' := by
  obtain ⟨p, A, c, rfl, hb, hp, hR⟩ := h
  refine (callsIn_wide (n := 5)).1 ?_
  refine callsIn_of_wp_marks Try.func40 rfl trivial ?_ rfl
  simp only [Try.ntmps40, List.size_toArray, List.length_cons, List.length_nil, Nat.reduceAdd, Nat.reduceSub, Array.replicate_succ, Array.replicate_zero, List.push_toArray, List.append_toArray, List.nil_append, List.cons_append]
  gi_wp2
  have hbx := heap_alloc_new w (.cells #[.slice none 0 0] 28)
  have hf0 := (Fr.refl (fun _ => False) w).alloc (.cells #[.slice none 0 0] 28)
  have hsz : (w.alloc (.cells #[.slice none 0 0] 28)).heap.size = w.heap.size + 1 := by simp
  generalize w.alloc (.cells #[.slice none 0 0] 28) = W0 at *
  have HSZ := Lib.hid hsz
  have hlp := lt_of_block hp
  have hseq := fall1_stops Fence.wide (5 - 1) trivial rfl (by omega) p (fun k => w.heap.size ≤ k) A c l (by simp only [maxLen]; omega) W0 ((hf0.cell (cell_of_blk hp 0) (fun h => h)).trans (by simp)) ((hR.mono (T := fun k => w.heap.size ≤ k) (fun k hk e => by omega)).kept (Fr0.any hf0))
  clear hsz
  have hmx : Try.prog.follows .mixedOrders = true := by kernel_rfl
  refine wpIn_rangeFunc_ownH rfl (by omega) (gf := 35) (lb := #[.pointer (some ⟨p, 0, none⟩)]) rfl trivial (enters_of Try.func35 (by kernel_rfl) rfl)
    hseq (fun h k => h.trans k) (fun W l o o' _ h ho _ => Ck.putObj W l o o' h ho) (Below.refl _ _) (fun _ => rfl)
    (fun pre W => ∃ v, W.heap[w.heap.size]? = some (.cells #[v] 28 (0, 0)) ∧ pkRow W w.heap.size v pre ∧ v.ownBlock ≠ some w.heap.size ∧ Fr0 w W)
    (fun _ _ _ => False) ?own (fun _ _ _ _ _ hs _ _ => hs) ⟨_, hbx, own_nil _ _ _ _, by simp [Value.ownBlock], hf0⟩
    (fun x a' W => ∃ q, w.heap.size < q ∧ W.heap[q]? = some (.cells (pkc x).toArray 34 (0, 0)) ∧ a' = { tmps := #[.slice none 0 0, .func (.func 35) #[] #[.pointer (some ⟨p, 0, none⟩)], .pointer (some ⟨w.heap.size, 0, none⟩), undef, .slice none 0 0, .pointer (some ⟨q, 0, none⟩), .func (.func 35) #[] #[.pointer (some ⟨p, 0, none⟩)], pkv x, undef, undef, undef, undef, undef], defers := [] })
    ?ax ?assign ?body ?done ?stop
  case own =>
    rintro pre A1 B1 row ⟨v, h1, h2, h3, hf⟩ hg hr
    have hn := ne_row hr
    have hfr : Fr (fun k => row = some k) A1 B1 := (Fr.refl _ A1).grown hg (fun k _ e => e)
    refine ⟨v, blk_grown h1 hg (hn _ _ _ _ h1), own_kept h2 hfr (fun k hk e => ?_), h3, hf.grown hg (fun k hk e => by have := (hr k e).1; have := HSZ.out; omega)⟩
    obtain ⟨_, sp, hb⟩ := own_blk h2 hk
    exact hn _ _ _ _ hb e.symm
  case ax =>
    rintro x a' _ A1 B1 row ⟨q, hq, hA, ha⟩ hg hr
    have hn := ne_row hr
    exact ⟨q, hq, blk_grown hA hg (hn _ _ _ _ hA), ha⟩
  case assign =>
    rintro l pre x W K ⟨v, h1, h2, h3, hf⟩ hK
    have HK := Lib.hid hK
    clear hK
    gi_wp2
    exact HK.out _ _ (keeps_of_fr ((Fr.refl (fun _ => False) W).alloc _) _ (fun _ _ _ _ _ h => h)) (Ck.of_fr ((Fr.refl _ W).alloc _)) ⟨v, blk_alloc h1 _, own_kept0 h2 ((Fr.refl _ W).alloc _), h3, hf.alloc _⟩ ⟨W.heap.size, lt_of_block h1, heap_alloc_new _ _, rfl⟩
  case body =>
    rintro r pre x a' W hlr _ ⟨v, h1, h2, h3, hf⟩ ⟨q, hq, hQ, rfl⟩ hpl
    obtain ⟨A1, cv, rfl, hvc, hvm⟩ := own_form h2
    obtain ⟨⟨z0, z1, z2⟩, _⟩ := pk_cells hQ
    have a0 : W.cell? ⟨w.heap.size, 0, none⟩ = some (.slice A1 pre.length cv) := cell_of_blk h1 0
    have H1 := Lib.hid h1
    have H2 := Lib.hid h2
    have H3 := Lib.hid h3
    have HF := Lib.hid hf
    have HLT := Lib.hid (lt_of_block h1)
    clear h1 h2 h3 hf hQ
    refine wpIn_block (wpIn_region_plain (by kernel_rfl) (fun ⟨_, _, h⟩ => h) ?_)
    go_wp2_with (at_builtin; refine wpList_app rfl (.tmp 8) (.tmp 10) _ rfl Try.underlying28 pk_elem (base := w.heap.size) (.slice A1 pre.length cv) pre.length (pks pre) rfl (own_kept0 H2.out ((Fr.refl _ W).alloc _)) (fun _ => False) _ 1 1 (pks [x]) rfl (rd_pk1 _ _ x _ (fun h => h)) rfl (pks_one _) (by simp only [maxLen]; omega) (by omega) (by have := HF.out.size; simp; omega) (by simp) ?_; intro v6 w6 hown hg hat; obtain ⟨A6, cv6, rfl, hvc6, hvm6⟩ := own_form hown; have hP6 := blk_grown (blk_alloc H1.out _) hg (fun e => H3.out e.symm); have p6 : w6.cell? ⟨w.heap.size, 0, none⟩ = some (.slice A1 pre.length cv) := cell_of_blk hP6 0; have f6 : w6.frozen? ⟨w.heap.size, 0, none⟩ = false := free_of_blk hP6 0)
    have hne6 : (Value.slice A6 (pre.length + 1) cv6).ownBlock ≠ some w.heap.size := by
      rcases hat with e | e
      · rw [e]; exact H3.out
      · rw [e]; have := HLT.out; simp; omega
    have hfs : Fr (fun k => k = w.heap.size ∨ (Value.slice A1 pre.length cv).ownBlock = some k) W (w6.setCell ⟨w.heap.size, 0, none⟩ (.slice A6 (pre.length + 1) cv6)) := (((Fr.refl _ W).alloc _).grown hg (fun k _ e => .inr e)).setCell (p := ⟨w.heap.size, 0, none⟩) (fun _ => .inl rfl) _
    rw [← pks_append] at hown
    refine ⟨keeps_of_fr hfs _ (fun k o hk ho hc hs => ?_), Ck.of_fr (hfs.mono (fun k hk e => ?_)), _, blk_setCell hP6 0 _, ?_, hne6, ?_⟩
    · rcases hs with rfl | hs
      · have := HSZ.out; omega
      · obtain ⟨_, cs, hb⟩ := own_blk H2.out hs
        rw [ho] at hb; cases hb; simp [Obj.isCells] at hc
    · rcases e with rfl | e
      · exact Nat.le_refl _
      · exact (own_blk H2.out e).1
    · have := own_kept (w' := w6.setCell ⟨w.heap.size, 0, none⟩ (.slice A6 (pre.length + 1) cv6)) hown ((Fr.refl (· = w.heap.size) w6).setCell (fun _ => rfl) _) (fun q hq e => hne6 (by rw [hq, e]))
      show World.ownsRow _ _ _ _ _ _ _
      rw [List.length_append]
      exact this
    · exact ((HF.out.alloc _).grown hg (fun k hk e => by have := (own_blk H2.out e).1; omega)).setCell (p := ⟨w.heap.size, 0, none⟩) (fun h => absurd h (Nat.lt_irrefl _)) _
  case done =>
    rintro D xs W hD rfl ⟨v, h1, h2, h3, hf⟩ hK
    obtain ⟨A1, cv, rfl, hvc, hvm⟩ := own_form h2
    have a0 : W.cell? ⟨w.heap.size, 0, none⟩ = some (.slice A1 xs.length cv) := cell_of_blk h1 0
    gi_wp2
    refine ⟨by simp, .inl ⟨_, _, rfl, run_takeDeferred hK, ?_⟩⟩
    refine ⟨_, results_tmp rfl _ _ _, ⟨_, rfl, own_kept h2 (((Fr.refl (fun k => k = D) W).grown (grownBy_putObj' W D _) (fun k hk e => by cases e; rfl))) (fun k hk e => ?_)⟩, hf.grown (grownBy_putObj' W D _) (fun k hk e => by cases e; have := HSZ.out; omega)⟩
    subst e
    obtain ⟨_, sp, hb⟩ := own_blk h2 hk
    rw [hK] at hb
    cases hb
  case stop => exact fun _ _ _ _ _ _ h _ => h.elim
theorem fcollect_calls (base : Nat) (f : Value) (l : List Pk) (w : World) (h : IsSeq base w f l) (hl : l.length ≤ 1000000) :
    Calls Try.prog 30 #[f] w fun e w' => (∃ v, e = .returned v ∧ pkRow w' w.heap.size v l) ∧ Fr0 w w' := by
  have HA := Lib.hid (fappseq_calls base f l w h hl)
  obtain ⟨p, A, c, rfl, hb, hp, hR⟩ := h
  go_enter Try.func30, Try.ntmps30
  go_wp2_with fail
  refine HA.out.mono ?_
  rintro e w5 ⟨⟨v, rfl, hown⟩, hf5⟩
  go_wp2_with fail
  go_ret
  exact ⟨⟨_, rfl, hown⟩, hf5⟩
end Go.Proofs.Ytfiiikgjgcnjgaa
