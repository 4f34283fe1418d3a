/- Chapter 24: the law's list. -/
import Derived.Test.YtbhdkpcakjookaaPoK
import Derived.Test.YtbhdkpcakjookaaPoF
set_option linter.unusedVariables false
set_option linter.unusedSimpArgs false
namespace Go.Proofs.Ytbhdkpcakjookaa
open Go.RowKit
attribute [local go_sem] Oper.semAt_some

abbrev seqFn (p : Nat) : Value := .func (.func 36) #[] #[.pointer (some ⟨p, 0, none⟩)]
/-- A list of messages in memory of its own. -/
def ListPost (ms : List Msg) (w : World) (e : Ending) (w' : World) : Prop :=
  (∃ u M, e = .returned u ∧ rmRow w' w.heap.size u M ∧ msgs M = ms ∧ (∀ r ∈ M, OwnB w.heap.size w' r) ∧ (ms = [] → u = .slice none 0 0)) ∧ Fr0 w w'
set_option maxHeartbeats 2000000 in
theorem list_of (v : Value) (L : List Rm) (w : World) (hl : L.length ≤ 1000000) (HALL : ∀ w', Fr0 w w' → Calls Try.prog 24 #[v] w' fun e w'' => (∃ f, e = .returned f ∧ IsSeqM w.heap.size w'.heap.size w'' f L) ∧ Fr0 w' w'') :
    Calls Try.prog 15 #[v] w (ListPost (msgs L) w) := by
  have hfa := (Fr.refl (fun _ => False) w).alloc (.cells #[.slice none 0 0] 36)
  have HAL := Lib.hid (HALL _ hfa)
  have HB := Lib.hid (heap_alloc_new w (.cells #[.slice none 0 0] 36))
  have HFA := Lib.hid hfa
  have HS0 := Lib.hid (show (w.alloc (.cells #[.slice none 0 0] 36)).heap.size = w.heap.size + 1 by simp)
  clear HALL hfa
  have hfn : ∀ (q : Nat) (w : World), (binOp .eql 57 (seqFn q) Value.nilFunc).run Try.prog w = .ok (.bool false) w := fun _ _ => rfl
  refine (callsIn_wide (n := 5)).1 ?_
  refine callsIn_of_wp_marks Try.func15 rfl trivial ?_ rfl
  simp only [Try.ntmps15, List.size_toArray, List.length_cons, List.length_nil, Nat.reduceAdd, Nat.reduceSub, Array.replicate_succ, Array.replicate_zero, List.push_toArray, List.append_toArray, List.nil_append, List.cons_append]
  gi_wp2_with (refine ⟨trivial, ?_⟩; gi_at_call 24; refine (callsIn_wide.2 HAL.out).mono ?_; rintro e W0 ⟨⟨f, rfl, hseq0⟩, hf0⟩; obtain ⟨p, hp, rfl, hseq⟩ := pall1_stops (5 - 1) (fun k => k = w.heap.size ∨ W0.heap.size ≤ k) _ _ _ _ _ hseq0 (fun k e => by have := hf0.size; have := HS0.out; rcases e with e | e <;> omega))
  have hbx := hf0.blk HB.out (fun h => h)
  have hfw := HFA.out.trans hf0
  have hsz : w.heap.size + 1 ≤ W0.heap.size := by have := hf0.size; have := HS0.out; omega
  have HSZ := Lib.hid hsz
  have HLL := Lib.hid hl
  clear HAL HB HFA hsz hp hf0 hseq0 hl
  have hmx : Try.prog.follows .mixedOrders = true := by kernel_rfl
  refine wpIn_rangeFunc_boxY rfl (by omega) (gf := 36) (lb := #[.pointer (some ⟨p, 0, none⟩)]) rfl trivial (enters_of Try.func36 (by kernel_rfl) rfl)
    hseq (fun h k => h.trans k) (fun W l o o' _ h ho _ => KpS.put W l o o' h ho) (fun W o => .of_fr ((Fr.refl _ W).alloc o)) (Below.refl _ _) (fun _ => rfl)
    ?hy
    (fun pre W => ∃ v, W.heap[w.heap.size]? = some (.cells #[v] 36 (0, 0)) ∧ rmRow W W0.heap.size v pre ∧ (∀ r ∈ pre, OwnB W0.heap.size W r) ∧ Fr0 w W ∧ W0.heap.size ≤ W.heap.size ∧ (pre = [] → v = .slice none 0 0))
    (fun _ _ _ => False) ?own (fun _ _ _ _ _ hs _ _ => hs) (fun pre W ⟨_, _, _, _, _, hs, _⟩ => hs) ⟨_, hbx, own_nil _ _ _ _, by simp, hfw, Nat.le_refl _, fun _ => rfl⟩
    (fun x => (rmc x).toArray) 31 (fun x q => { tmps := #[v, undef, .slice none 0 0, .pointer (some ⟨w.heap.size, 0, none⟩), seqFn p, .pointer (some ⟨q, 0, none⟩), v, seqFn p, seqFn p, .bool false, seqFn p, rmv x, undef, undef, undef, undef, undef], defers := [] })
    ?assign ?body (fun W => ∃ v M, msgs M = msgs L ∧ W.heap[w.heap.size]? = some (.cells #[v] 36 (0, 0)) ∧ rmRow W W0.heap.size v M ∧ (∀ r ∈ M, OwnB W0.heap.size W r) ∧ Fr0 w W ∧ (M = [] → v = .slice none 0 0)) ?fd (fun _ _ _ _ h => h.elim) ?done
  case hy =>
    rintro x _ A1 B1 row hA hg hr
    refine hA.kept (S := fun k => row = some k) ((Fr.refl _ A1).grown hg (fun k _ e => e)) (fun k cs hk e => ?_)
    obtain ⟨_, o, ho, hc⟩ := hr k e
    rw [hk] at ho; cases ho; cases hc
  case own =>
    rintro pre A1 B1 row ⟨v, h1, h2, h3, hf, hs, he⟩ hg hr
    have hn := ne_row hr
    have hfr : Fr (fun k => row = some k) A1 B1 := (Fr.refl _ A1).grown hg (fun k _ e => e)
    refine ⟨v, blk_grown h1 hg (hn _ _ _ _ h1), own_kept h2 hfr (fun k hk e => ?_), fun r hr' => (h3 r hr').kept hfr (fun k cs hk e => hn _ _ _ _ hk e.symm), hf.grown hg (fun k hk e => by have := (hr k e).1; have := HSZ.out; omega), Nat.le_trans hs hfr.size, he⟩
    obtain ⟨_, sp, hb⟩ := own_blk h2 hk
    exact hn _ _ _ _ hb e.symm
  case assign =>
    rintro l pre x W K q rfl ⟨v, h1, h2, h3, hf, hs, he⟩ hK
    have HK := Lib.hid hK
    clear hK
    gi_wp2
    exact HK.out
  case body =>
    rintro r pre x q W ⟨v, h1, h2, h3, hf, hs, _⟩ hx hq hQ hpl
    obtain ⟨A1, cv, rfl, hvc, hvm⟩ := own_form h2
    obtain ⟨⟨z0, z1, z2, z3⟩, _⟩ := m_cells hQ
    have a0 : W.cell? ⟨w.heap.size, 0, none⟩ = some (.slice A1 pre.length cv) := cell_of_blk h1 0
    have H1 := Lib.hid h1
    have H2 := Lib.hid h2
    have HP := Lib.hid h3
    have HX := Lib.hid hx
    have HF := Lib.hid hf
    have HS := Lib.hid hs
    have HL3 := HLL.out
    have H3 := Lib.hid (show (Value.slice A1 pre.length cv).ownBlock ≠ some w.heap.size from fun e => by have := (own_blk H2.out e).1; have := HSZ.out; omega)
    clear h1 h2 h3 hx hf hQ
    refine wpIn_block (wpIn_region_plain (by kernel_rfl) (fun ⟨_, _, h⟩ => h) ?_)
    go_wp2_with (at_builtin; refine wpList_app rfl (.tmp 12) (.tmp 14) _ rfl Try.underlying36 rm_elem (base := W0.heap.size) (.slice A1 pre.length cv) pre.length (rms pre) rfl (own_kept0 H2.out ((Fr.refl _ W).alloc _)) (fun _ => False) _ 1 1 (rms [x]) rfl (rd_rm1 _ _ x _ (fun h => h)) rfl (rms_one _) (by simp only [maxLen]; omega) (by omega) (by have := HS.out; simp; omega) (by simp) ?_; intro v6 w6 hown hg hat; obtain ⟨A6, cv6, rfl, hvc6, hvm6⟩ := own_form hown; have hP6 := blk_grown (blk_alloc H1.out _) hg (fun e => H3.out e.symm); have p6 : w6.cell? ⟨w.heap.size, 0, none⟩ = some (.slice A1 pre.length cv) := cell_of_blk hP6 0; have f6 : w6.frozen? ⟨w.heap.size, 0, none⟩ = false := free_of_blk hP6 0)
    have hne6 : (Value.slice A6 (pre.length + 1) cv6).ownBlock ≠ some w.heap.size := by
      intro e
      have := (own_blk hown e).1
      have := HSZ.out
      omega
    have hfs : Fr (fun k => k = w.heap.size ∨ (Value.slice A1 pre.length cv).ownBlock = some k) W (w6.setCell ⟨w.heap.size, 0, none⟩ (.slice A6 (pre.length + 1) cv6)) := (((Fr.refl _ W).alloc _).grown hg (fun k _ e => .inr e)).setCell (p := ⟨w.heap.size, 0, none⟩) (fun _ => .inl rfl) _
    have hnb : ∀ k cs, W.heap[k]? = some (.cells cs 5 (0, 0)) → ¬ (k = w.heap.size ∨ (Value.slice A1 pre.length cv).ownBlock = some k) := by
      rintro k cs hk (rfl | e)
      · rw [H1.out] at hk; cases hk
      · obtain ⟨_, cs', hb⟩ := own_blk H2.out e
        rw [hk] at hb; cases hb
    rw [← rms_append] at hown
    refine ⟨keeps_of_fr hfs _ (fun k o hk ho hc hs => ?_), .of_fr (hfs.mono (fun k hk e => ?_)), _, blk_setCell hP6 0 _, ?_, ?_, ?_, Nat.le_trans HS.out hfs.size, fun e => absurd e (by simp)⟩
    · rcases hs with rfl | hs
      · have := HSZ.out; omega
      · obtain ⟨_, cs, hb⟩ := own_blk H2.out hs
        rw [ho] at hb; cases hb; simp [Obj.isCells] at hc
    · rcases e with rfl | e
      · exact .inl rfl
      · exact .inr (own_blk H2.out e).1
    · have := own_kept (w' := w6.setCell ⟨w.heap.size, 0, none⟩ (.slice A6 (pre.length + 1) cv6)) hown ((Fr.refl (· = w.heap.size) w6).setCell (fun _ => rfl) _) (fun q hq e => hne6 (by rw [hq, e]))
      show World.ownsRow _ _ _ _ _ _ _
      rw [List.length_append]
      exact this
    · intro r hr
      rcases List.mem_append.1 hr with hr | hr
      · exact (HP.out r hr).kept hfs hnb
      · obtain rfl : r = x := by simpa using hr
        exact HX.out.kept hfs hnb
    · exact ((HF.out.alloc _).grown hg (fun k hk e => by have := (own_blk H2.out e).1; have := HSZ.out; omega)).setCell (p := ⟨w.heap.size, 0, none⟩) (fun h => absurd h (Nat.lt_irrefl _)) _
  case fd =>
    rintro xs W hxs ⟨v, h1, h2, h3, hf, hs, he⟩
    exact ⟨v, xs, hxs, h1, h2, h3, hf, he⟩
  case done =>
    rintro D W hD ⟨v, M, hM, h1, h2, h3, hf, he⟩ hK
    obtain ⟨A1, cv, rfl, hvc, hvm⟩ := own_form h2
    have HE := Lib.hid he
    have HM := Lib.hid hM
    clear he hM
    have a0 : W.cell? ⟨w.heap.size, 0, none⟩ = some (.slice A1 M.length cv) := cell_of_blk h1 0
    gi_wp2
    refine ⟨by simp, .inl ⟨_, _, rfl, run_takeDeferred hK, ?_⟩⟩
    have hfD := (Fr.refl (fun k => k = D) W).grown (grownBy_putObj' W D (.deferred none)) (fun k hk e => by cases e; rfl)
    refine ⟨_, results_tmp rfl _ _ _, ⟨.slice A1 M.length cv, M, rfl, own_mono (own_kept h2 hfD (fun k hk e => ?_)) (by have := HSZ.out; omega), HM.out, fun r hr => ?_, fun e => HE.out (List.length_eq_zero_iff.1 (by have := congrArg List.length (HM.out.trans e); simpa using this))⟩, hf.grown (grownBy_putObj' W D _) (fun k hk e => by cases e; have := HSZ.out; omega)⟩
    · subst e
      obtain ⟨_, sp, hb⟩ := own_blk h2 hk
      rw [hK] at hb
      cases hb
    · refine ((h3 r hr).mono (by have := HSZ.out; omega)).kept hfD (fun k cs hk e => ?_)
      subst e; rw [hK] at hk; cases hk
theorem list_calls (b : Nat) (most last : Int) (L : List Rm) (w : World) (h : IsPool w b most last L) : Calls Try.prog 15 #[.pointer (some ⟨b, 0, none⟩)] w (ListPost (msgs L) w) := by
  obtain ⟨A0, c0, hb, hls⟩ := h.ex
  exact list_of _ L w hls.most (fun w' hf => pall_calls b most last L w w' h hf)
theorem list_no (v : Value) (w : World) (h : NoPo w v) : Calls Try.prog 15 #[v] w (ListPost [] w) :=
  list_of _ [] w (by simp) (fun w' hf => pall_no _ v w' (h.kept hf))
theorem OwnB.ok {B : Nat} {w : World} {r : Rm} (h : OwnB B w r) : r.Ok w := h.1
theorem ListPost.isls {ms : List Msg} {w : World} {e : Ending} {w' : World} (h : ListPost ms w e w') (hl : ms.length ≤ 1000000) : ∃ A c M, e = .returned (.slice A ms.length c) ∧ IsLs w' A c M ∧ msgs M = ms ∧ (∀ r ∈ M, OwnB w.heap.size w' r) ∧ Fr0 w w' := by
  obtain ⟨⟨u, M, rfl, h1, rfl, h3, _⟩, hf⟩ := h
  obtain ⟨A, c, rfl, _, _⟩ := own_form h1
  refine ⟨A, c, M, by simp [msgs], (own_isls h1 (fun r hr => (h3 r hr).ok) (by simpa using hl)).2, rfl, h3, hf⟩
end Go.Proofs.Ytbhdkpcakjookaa
