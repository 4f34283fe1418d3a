/- Chapter 24: Over, Oldest. -/
import Derived.Test.YtbhdkpcakjookaaPoP
import Derived.RegionIn
set_option linter.unusedVariables false
set_option linter.unusedSimpArgs false
namespace Go.Proofs.Ytbhdkpcakjookaa
open Go.RowKit
attribute [local go_sem] Oper.semAt_some

set_option maxHeartbeats 2000000 in
theorem over_of (v : Value) (L : List Rm) (link : Int) (w : World) (hl : L.length ≤ 1000000) (HALL : ∀ w', Fr0 w w' → Calls Try.prog 24 #[v] w' fun e w'' => (∃ f, e = .returned f ∧ IsSeqM w.heap.size w'.heap.size w'' f L) ∧ Fr0 w' w'') :
    Calls Try.prog 16 #[v, .int .i64 link] w (ListPost ((msgs L).filter (fun m => decide (m.link = link))) w) := by
  have hfa := ((Fr.refl (fun _ => False) w).alloc (.cells #[.int .i64 link] 3)).alloc (.cells #[.slice none 0 0] 36)
  have HAL := Lib.hid (HALL _ hfa)
  have HB := Lib.hid (show ((w.alloc (.cells #[.int .i64 link] 3)).alloc (.cells #[.slice none 0 0] 36)).heap[w.heap.size + 1]? = some (.cells #[.slice none 0 0] 36 (0, 0)) from heap_alloc_nn (by simp))
  have HI := Lib.hid (show ((w.alloc (.cells #[.int .i64 link] 3)).alloc (.cells #[.slice none 0 0] 36)).heap[w.heap.size]? = some (.cells #[.int .i64 link] 3 (0, 0)) from blk_alloc (heap_alloc_new _ _) _)
  have HFA := Lib.hid hfa
  have HS0 := Lib.hid (show ((w.alloc (.cells #[.int .i64 link] 3)).alloc (.cells #[.slice none 0 0] 36)).heap.size = w.heap.size + 2 by simp)
  clear HALL hfa
  refine (callsIn_wide (n := 5)).1 ?_
  refine callsIn_of_wp_marks Try.func16 rfl trivial ?_ rfl
  simp only [Try.ntmps16, List.size_toArray, List.length_cons, List.length_nil, Nat.reduceAdd, Nat.reduceSub, Array.replicate_succ, Array.replicate_zero, List.push_toArray, List.append_toArray, List.nil_append, List.cons_append]
  gi_wp2_with (refine ⟨trivial, ?_⟩; gi_at_call 24; refine (callsIn_wide.2 HAL.out).mono ?_; rintro e W0 ⟨⟨f, rfl, hseq0⟩, hf0⟩; obtain ⟨p, hp, rfl, hseq⟩ := pall1_stops (5 - 1) (fun k => k = w.heap.size + 1 ∨ W0.heap.size ≤ k) _ _ _ _ _ hseq0 (fun k e => by have := hf0.size; have := HS0.out; rcases e with e | e <;> omega))
  have hbx := hf0.blk HB.out (fun h => h)
  have hbi := hf0.blk HI.out (fun h => h)
  have hfw := HFA.out.trans hf0
  have hsz : w.heap.size + 2 ≤ W0.heap.size := by have := hf0.size; have := HS0.out; omega
  have HSZ := Lib.hid hsz
  have HLL := Lib.hid hl
  clear HAL HB HI HFA hsz hp hf0 hseq0 hl
  have hmx : Try.prog.follows .mixedOrders = true := by kernel_rfl
  refine wpIn_rangeFunc_boxY rfl (by omega) (gf := 36) (lb := #[.pointer (some ⟨p, 0, none⟩)]) rfl trivial (enters_of Try.func36 (by kernel_rfl) rfl)
    hseq (fun h k => h.trans k) (fun W l o o' _ h ho _ => KpS.put W l o o' h ho) (fun W o => .of_fr ((Fr.refl _ W).alloc o)) (Below.refl _ _) (fun _ => rfl)
    ?hy
    (fun pre W => ∃ v M, W.heap[w.heap.size + 1]? = some (.cells #[v] 36 (0, 0)) ∧ rmRow W W0.heap.size v M ∧ (∀ r ∈ M, OwnB W0.heap.size W r) ∧ Fr0 w W ∧ W0.heap.size ≤ W.heap.size ∧ msgs M = (msgs pre).filter (fun m => decide (m.link = link)) ∧ M.length ≤ pre.length ∧ (M = [] → v = .slice none 0 0) ∧ W.heap[w.heap.size]? = some (.cells #[.int .i64 link] 3 (0, 0)))
    (fun _ _ _ => False) ?own (fun _ _ _ _ _ hs _ _ => hs) (fun pre W ⟨_, _, _, _, _, _, hs, _⟩ => hs) ⟨_, [], hbx, own_nil _ _ _ _, by simp, hfw, Nat.le_refl _, rfl, Nat.le_refl _, fun _ => rfl, hbi⟩
    (fun x => (rmc x).toArray) 31 (fun x q => { tmps := #[v, .int .i64 link, undef, .pointer (some ⟨w.heap.size, 0, none⟩), .slice none 0 0, .pointer (some ⟨w.heap.size + 1, 0, none⟩), .pointer (some ⟨q, 0, none⟩), v, seqFn p, rmv x, undef, undef, undef, undef, undef, undef, undef, undef, undef], defers := [] })
    ?assign ?body (fun W => ∃ v M, msgs M = (msgs L).filter (fun m => decide (m.link = link)) ∧ W.heap[w.heap.size + 1]? = some (.cells #[v] 36 (0, 0)) ∧ rmRow W W0.heap.size v M ∧ (∀ r ∈ M, OwnB W0.heap.size W r) ∧ Fr0 w W ∧ (M = [] → v = .slice none 0 0)) ?fd (fun _ _ _ _ h => h.elim) ?done
  case hy =>
    rintro x _ A1 B1 row hA hg hr
    refine hA.kept (S := fun k => row = some k) ((Fr.refl _ A1).grown hg (fun k _ e => e)) (fun k cs hk e => ?_)
    obtain ⟨_, o, ho, hc⟩ := hr k e
    rw [hk] at ho; cases ho; cases hc
  case own =>
    rintro pre A1 B1 row ⟨v, M, h1, h2, h3, hf, hs, hm, hml, he, hi⟩ hg hr
    have hn := ne_row hr
    have hfr : Fr (fun k => row = some k) A1 B1 := (Fr.refl _ A1).grown hg (fun k _ e => e)
    refine ⟨v, M, blk_grown h1 hg (hn _ _ _ _ h1), own_kept h2 hfr (fun k hk e => ?_), fun r hr' => (h3 r hr').kept hfr (fun k cs hk e => hn _ _ _ _ hk e.symm), hf.grown hg (fun k hk e => by have := (hr k e).1; have := HSZ.out; omega), Nat.le_trans hs hfr.size, hm, hml, he, blk_grown hi hg (hn _ _ _ _ hi)⟩
    obtain ⟨_, sp, hb⟩ := own_blk h2 hk
    exact hn _ _ _ _ hb e.symm
  case assign =>
    rintro l pre x W K q rfl ⟨v, M, h1, h2, h3, hf, hs, hm, hml, he, hi⟩ hK
    have HK := Lib.hid hK
    clear hK
    gi_wp2
    exact HK.out
  case body =>
    rintro r pre x q W ⟨v, M, h1, h2, h3, hf, hs, hm, hml, he, hi⟩ hx hq hQ hpl
    obtain ⟨A1, cv, rfl, hvc, hvm⟩ := own_form h2
    obtain ⟨⟨z0, z1, z2, z3⟩, _⟩ := m_cells hQ
    have a0 : W.cell? ⟨w.heap.size + 1, 0, none⟩ = some (.slice A1 M.length cv) := cell_of_blk h1 0
    have i0 : W.cell? ⟨w.heap.size, 0, none⟩ = some (.int .i64 link) := cell_of_blk hi 0
    have H1 := Lib.hid h1
    have H2 := Lib.hid h2
    have HP := Lib.hid h3
    have HX := Lib.hid hx
    have HF := Lib.hid hf
    have HS := Lib.hid hs
    have HI := Lib.hid hi
    have HL3 := HLL.out
    have HM := Lib.hid hm
    have HE := Lib.hid he
    have H3 := Lib.hid (show (Value.slice A1 M.length cv).ownBlock ≠ some (w.heap.size + 1) from fun e => by have := (own_blk H2.out e).1; have := HSZ.out; omega)
    clear h1 h2 h3 hx hf hQ hm hi he
    refine wpIn_block (wpIn_seq (wpIn_region_plain (by kernel_rfl) (fun ⟨_, _, h⟩ => h) ?_))
    by_cases hlk : x.m.link = link
    · have hq1 : (x.m.link == link) = true := by simpa using hlk
      have HLK := Lib.hid hlk
      clear hlk
      go_wp2_with fail
      refine wpIn_cond_true rfl (wpIn_region_plain (by kernel_rfl) (fun ⟨_, _, h⟩ => h) ?_)
      go_wp2_with (at_builtin; refine wpList_app rfl (.tmp 14) (.tmp 16) _ rfl Try.underlying36 rm_elem (base := W0.heap.size) (.slice A1 M.length cv) M.length (rms M) rfl (own_kept0 H2.out ((Fr.refl _ W).alloc _)) (fun _ => False) _ 1 1 (rms [x]) rfl (rd_rm1 _ _ x _ (fun h => h)) rfl (rms_one _) (by simp only [maxLen]; omega) (by omega) (by have := HS.out; simp; omega) (by simp) ?_; intro v6 w6 hown hg hat; obtain ⟨A6, cv6, rfl, hvc6, hvm6⟩ := own_form hown; have hP6 := blk_grown (blk_alloc H1.out _) hg (fun e => H3.out e.symm); have p6 : w6.cell? ⟨w.heap.size + 1, 0, none⟩ = some (.slice A1 M.length cv) := cell_of_blk hP6 0; have f6 : w6.frozen? ⟨w.heap.size + 1, 0, none⟩ = false := free_of_blk hP6 0)
      have hne6 : (Value.slice A6 (M.length + 1) cv6).ownBlock ≠ some (w.heap.size + 1) := by
        intro e
        have := (own_blk hown e).1
        have := HSZ.out
        omega
      have hfs : Fr (fun k => k = w.heap.size + 1 ∨ (Value.slice A1 M.length cv).ownBlock = some k) W (w6.setCell ⟨w.heap.size + 1, 0, none⟩ (.slice A6 (M.length + 1) cv6)) := (((Fr.refl _ W).alloc _).grown hg (fun k _ e => .inr e)).setCell (p := ⟨w.heap.size + 1, 0, none⟩) (fun _ => .inl rfl) _
      have hnb : ∀ k cs, W.heap[k]? = some (.cells cs 5 (0, 0)) → ¬ (k = w.heap.size + 1 ∨ (Value.slice A1 M.length cv).ownBlock = some k) := by
        rintro k cs hk (rfl | e)
        · rw [H1.out] at hk; cases hk
        · obtain ⟨_, cs', hb⟩ := own_blk H2.out e
          rw [hk] at hb; cases hb
      have hni : ¬ (w.heap.size = w.heap.size + 1 ∨ (Value.slice A1 M.length cv).ownBlock = some w.heap.size) := by
        rintro (e | e)
        · omega
        · have := (own_blk H2.out e).1; have := HSZ.out; omega
      rw [← rms_append] at hown
      refine ⟨keeps_of_fr hfs _ (fun k o hk ho hc hs => ?_), .of_fr (hfs.mono (fun k hk e => ?_)), _, M ++ [x], blk_setCell hP6 0 _, ?_, ?_, ?_, Nat.le_trans HS.out hfs.size, ?_, by simp only [List.length_append, List.length_cons, List.length_nil]; omega, fun e => absurd e (by simp), hfs.blk HI.out hni⟩
      · rcases hs with rfl | hs
        · have := HSZ.out; omega
        · obtain ⟨_, cs, hb⟩ := own_blk H2.out hs
          rw [ho] at hb; cases hb; simp [Obj.isCells] at hc
      · rcases e with rfl | e
        · exact .inl rfl
        · exact .inr (own_blk H2.out e).1
      · have := own_kept (w' := w6.setCell ⟨w.heap.size + 1, 0, none⟩ (.slice A6 (M.length + 1) cv6)) hown ((Fr.refl (· = w.heap.size + 1) w6).setCell (fun _ => rfl) _) (fun q hq e => hne6 (by rw [hq, e]))
        show World.ownsRow _ _ _ _ _ _ _
        rw [List.length_append]
        exact this
      · intro r hr
        rcases List.mem_append.1 hr with hr | hr
        · exact (HP.out r hr).kept hfs hnb
        · obtain rfl : r = x := by simpa using hr
          exact HX.out.kept hfs hnb
      · exact ((HF.out.alloc _).grown hg (fun k hk e => by have := (own_blk H2.out e).1; have := HSZ.out; omega)).setCell (p := ⟨w.heap.size + 1, 0, none⟩) (fun h => by simp at h; omega) _
      · simp only [msgs, List.map_append, List.map_cons, List.map_nil, List.filter_append] at *
        rw [HM.out]
        simp [HLK.out]
    · have hq1 : (x.m.link == link) = false := by simpa using hlk
      have HLK := Lib.hid hlk
      clear hlk
      go_wp2_with fail
      refine wpIn_cond_false rfl ?_
      gi_wp2
      refine ⟨.refl _ _, .of_fr (Fr.refl _ _), _, M, H1.out, H2.out, HP.out, HF.out, HS.out, ?_, by simp only [List.length_append, List.length_cons, List.length_nil]; omega, HE.out, HI.out⟩
      simp only [msgs, List.map_append, List.map_cons, List.map_nil, List.filter_append] at *
      rw [HM.out]
      simp [HLK.out]
  case fd =>
    rintro xs W hxs ⟨v, M, h1, h2, h3, hf, hs, hm, _, he, _⟩
    exact ⟨v, M, by rw [hm, hxs], h1, h2, h3, hf, he⟩
  case done =>
    rintro D W hD ⟨v, M, hM, h1, h2, h3, hf, he⟩ hK
    obtain ⟨A1, cv, rfl, hvc, hvm⟩ := own_form h2
    have HE := Lib.hid he
    have HM := Lib.hid hM
    clear he hM
    have a0 : W.cell? ⟨w.heap.size + 1, 0, none⟩ = some (.slice A1 M.length cv) := cell_of_blk h1 0
    gi_wp2
    refine ⟨by simp, .inl ⟨_, _, rfl, run_takeDeferred hK, ?_⟩⟩
    have hfD := (Fr.refl (fun k => k = D) W).grown (grownBy_putObj' W D (.deferred none)) (fun k hk e => by cases e; rfl)
    refine ⟨_, results_tmp rfl _ _ _, ⟨.slice A1 M.length cv, M, rfl, own_mono (own_kept h2 hfD (fun k hk e => ?_)) (by have := HSZ.out; omega), HM.out, fun r hr => ?_, fun e => HE.out (List.length_eq_zero_iff.1 (by have := congrArg List.length (HM.out.trans e); simpa using this))⟩, hf.grown (grownBy_putObj' W D _) (fun k hk e => by cases e; have := HSZ.out; omega)⟩
    · subst e
      obtain ⟨_, sp, hb⟩ := own_blk h2 hk
      rw [hK] at hb
      cases hb
    · refine ((h3 r hr).mono (by have := HSZ.out; omega)).kept hfD (fun k cs hk e => ?_)
      subst e; rw [hK] at hk; cases hk
theorem over_calls (b : Nat) (most last : Int) (L : List Rm) (link : Int) (w : World) (h : IsPool w b most last L) : Calls Try.prog 16 #[.pointer (some ⟨b, 0, none⟩), .int .i64 link] w (ListPost ((msgs L).filter (fun m => decide (m.link = link))) w) := by
  obtain ⟨A0, c0, hb, hls⟩ := h.ex
  exact over_of _ L link w hls.most (fun w' hf => pall_calls b most last L w w' h hf)
theorem over_no (v : Value) (link : Int) (w : World) (h : NoPo w v) : Calls Try.prog 16 #[v, .int .i64 link] w (ListPost [] w) :=
  over_of _ [] link w (by simp) (fun w' hf => pall_no _ v w' (h.kept hf))
/-- The oldest so far. -/
def oldS (s : Int × Bool) (m : Msg) : Int × Bool := if !s.2 || decide (m.since < s.1) then (m.since, true) else s
def old (ms : List Msg) : Int × Bool := ms.foldl oldS (0, false)
theorem old_snoc (ms : List Msg) (m : Msg) : old (ms ++ [m]) = oldS (old ms) m := by simp [old]
set_option maxHeartbeats 2000000 in
theorem oldest_of (v : Value) (L : List Rm) (w : World) (HALL : ∀ w', Fr0 w w' → Calls Try.prog 24 #[v] w' fun e w'' => (∃ f, e = .returned f ∧ IsSeqM w.heap.size w'.heap.size w'' f L) ∧ Fr0 w' w'') :
    Calls Try.prog 21 #[v] w fun e w' => e = .returned (.tuple #[.int .i64 (old (msgs L)).1, .bool (old (msgs L)).2]) ∧ Fr0 w w' := by
  have hfa := ((Fr.refl (fun _ => False) w).alloc (.cells #[.int .i64 0] 2)).alloc (.cells #[.bool false] 4)
  have HAL := Lib.hid (HALL _ hfa)
  have HB := Lib.hid (show ((w.alloc (.cells #[.int .i64 0] 2)).alloc (.cells #[.bool false] 4)).heap[w.heap.size + 1]? = some (.cells #[.bool false] 4 (0, 0)) from heap_alloc_nn (by simp))
  have HI := Lib.hid (show ((w.alloc (.cells #[.int .i64 0] 2)).alloc (.cells #[.bool false] 4)).heap[w.heap.size]? = some (.cells #[.int .i64 0] 2 (0, 0)) from blk_alloc (heap_alloc_new _ _) _)
  have HFA := Lib.hid hfa
  have HS0 := Lib.hid (show ((w.alloc (.cells #[.int .i64 0] 2)).alloc (.cells #[.bool false] 4)).heap.size = w.heap.size + 2 by simp)
  clear HALL hfa
  refine (callsIn_wide (n := 5)).1 ?_
  refine callsIn_of_wp_marks Try.func21 rfl trivial ?_ rfl
  simp only [Try.ntmps21, List.size_toArray, List.length_cons, List.length_nil, Nat.reduceAdd, Nat.reduceSub, Array.replicate_succ, Array.replicate_zero, List.push_toArray, List.append_toArray, List.nil_append, List.cons_append]
  gi_wp2_with (refine ⟨trivial, ?_⟩; gi_at_call 24; refine (callsIn_wide.2 HAL.out).mono ?_; rintro e W0 ⟨⟨f, rfl, hseq0⟩, hf0⟩; obtain ⟨p, hp, rfl, hseq⟩ := pall1_stops (5 - 1) (fun k => k = w.heap.size ∨ k = w.heap.size + 1) _ _ _ _ _ hseq0 (fun k e => by rcases e with e | e <;> omega))
  have hbx := hf0.blk HB.out (fun h => h)
  have hbi := hf0.blk HI.out (fun h => h)
  have hfw := HFA.out.trans hf0
  have hsz : w.heap.size + 2 ≤ W0.heap.size := by have := hf0.size; have := HS0.out; omega
  have HSZ := Lib.hid hsz
  clear HAL HB HI HFA hsz hp hf0 hseq0
  have hmx : Try.prog.follows .mixedOrders = true := by kernel_rfl
  refine wpIn_rangeFunc_boxY rfl (by omega) (gf := 36) (lb := #[.pointer (some ⟨p, 0, none⟩)]) rfl trivial (enters_of Try.func36 (by kernel_rfl) rfl)
    hseq (fun h k => h.trans k) (fun W l o o' _ h ho _ => KpS.put W l o o' h ho) (fun W o => .of_fr ((Fr.refl _ W).alloc o)) (Below.refl _ _) (fun _ => rfl)
    ?hy
    (fun pre W => W.heap[w.heap.size]? = some (.cells #[.int .i64 (old (msgs pre)).1] 2 (0, 0)) ∧ W.heap[w.heap.size + 1]? = some (.cells #[.bool (old (msgs pre)).2] 4 (0, 0)) ∧ Fr0 w W ∧ W0.heap.size ≤ W.heap.size)
    (fun _ _ _ => False) ?own (fun _ _ _ _ _ hs _ _ => hs) (fun pre W ⟨_, _, _, hs⟩ => hs) ⟨hbi, hbx, hfw, Nat.le_refl _⟩
    (fun x => (rmc x).toArray) 31 (fun x q => { tmps := #[v, undef, .int .i64 0, .bool false, .pointer (some ⟨w.heap.size, 0, none⟩), .pointer (some ⟨w.heap.size + 1, 0, none⟩), .pointer (some ⟨q, 0, none⟩), v, seqFn p, rmv x, undef, undef, undef, undef, undef, undef, undef, undef, undef, undef, undef, undef], defers := [] })
    ?assign ?body (fun W => W.heap[w.heap.size]? = some (.cells #[.int .i64 (old (msgs L)).1] 2 (0, 0)) ∧ W.heap[w.heap.size + 1]? = some (.cells #[.bool (old (msgs L)).2] 4 (0, 0)) ∧ Fr0 w W) ?fd (fun _ _ _ _ h => h.elim) ?done
  case hy =>
    rintro x _ A1 B1 row hA hg hr
    refine hA.kept (S := fun k => row = some k) ((Fr.refl _ A1).grown hg (fun k _ e => e)) (fun k cs hk e => ?_)
    obtain ⟨_, o, ho, hc⟩ := hr k e
    rw [hk] at ho; cases ho; cases hc
  case own =>
    rintro pre A1 B1 row ⟨h1, h2, hf, hs⟩ hg hr
    have hn := ne_row hr
    have hfr : Fr (fun k => row = some k) A1 B1 := (Fr.refl _ A1).grown hg (fun k _ e => e)
    exact ⟨blk_grown h1 hg (hn _ _ _ _ h1), blk_grown h2 hg (hn _ _ _ _ h2), hf.grown hg (fun k hk e => by have := (hr k e).1; have := HSZ.out; omega), Nat.le_trans hs hfr.size⟩
  case assign =>
    rintro l pre x W K q rfl ⟨h1, h2, hf, hs⟩ hK
    have HK := Lib.hid hK
    clear hK
    gi_wp2
    exact HK.out
  case fd =>
    rintro xs W hxs ⟨h1, h2, hf, hs⟩
    rw [hxs] at h1 h2
    exact ⟨h1, h2, hf⟩
  case body =>
    rintro r pre x q W ⟨h1, h2, hf, hs⟩ hx hq hQ hpl
    obtain ⟨⟨z0, z1, z2, z3⟩, _⟩ := m_cells hQ
    have HO := Lib.hid (show old (msgs (pre ++ [x])) = oldS (old (msgs pre)) x.m by rw [← old_snoc]; simp [msgs])
    generalize hog : old (msgs pre) = og at *
    obtain ⟨ol, ob⟩ := og
    have a0 : W.cell? ⟨w.heap.size, 0, none⟩ = some (.int .i64 ol) := cell_of_blk h1 0
    have a1 : W.cell? ⟨w.heap.size + 1, 0, none⟩ = some (.bool ob) := cell_of_blk h2 0
    have f0 := free_of_blk h1 0
    have f1 := free_of_blk h2 0
    have H1 := Lib.hid h1
    have H2 := Lib.hid h2
    have HF := Lib.hid hf
    have HS := Lib.hid hs
    clear h1 h2 hx hf hQ hs hog
    have hfs : Fr (fun k => k = w.heap.size ∨ k = w.heap.size + 1) W ((W.setCell ⟨w.heap.size, 0, none⟩ (.int .i64 x.m.since)).setCell ⟨w.heap.size + 1, 0, none⟩ (.bool true)) := ((Fr.refl _ W).setCell (p := ⟨w.heap.size, 0, none⟩) (fun _ => .inl rfl) _).setCell (p := ⟨w.heap.size + 1, 0, none⟩) (fun _ => .inr rfl) _
    have HFS := Lib.hid hfs
    have HY := Lib.hid (show oldS (ol, ob) x.m = (x.m.since, true) → ownPostG W0.heap.size (KpS fun k => k = w.heap.size ∨ k = w.heap.size + 1) (fun pre W => W.heap[w.heap.size]? = some (.cells #[.int .i64 (old (msgs pre)).1] 2 (0, 0)) ∧ W.heap[w.heap.size + 1]? = some (.cells #[.bool (old (msgs pre)).2] 4 (0, 0)) ∧ Fr0 w W ∧ W0.heap.size ≤ W.heap.size) (fun _ _ _ => False) (pre ++ [x]) W .normal ⟨#[], []⟩ ((W.setCell ⟨w.heap.size, 0, none⟩ (.int .i64 x.m.since)).setCell ⟨w.heap.size + 1, 0, none⟩ (.bool true)) from fun hy => by
      refine ⟨keeps_of_fr HFS.out _ (fun k o hk ho hc hs => by have := HSZ.out; rcases hs with hs | hs <;> omega), .of_fr HFS.out, ?_, ?_, ?_, Nat.le_trans HS.out HFS.out.size⟩
      · rw [HO.out, hy]
        exact blk_setCell_other (blk_setCell H1.out 0 _) (by show w.heap.size + 1 ≠ w.heap.size; omega) _
      · rw [HO.out, hy]
        exact blk_setCell (blk_setCell_other H2.out (by show w.heap.size ≠ w.heap.size + 1; omega) _) 0 _
      · exact (HF.out.setCell (p := ⟨w.heap.size, 0, none⟩) (fun h => by simp at h) _).setCell (p := ⟨w.heap.size + 1, 0, none⟩) (fun h => by simp at h; omega) _)
    have HNN := Lib.hid (show oldS (ol, ob) x.m = (ol, ob) → ownPostG W0.heap.size (KpS fun k => k = w.heap.size ∨ k = w.heap.size + 1) (fun pre W => W.heap[w.heap.size]? = some (.cells #[.int .i64 (old (msgs pre)).1] 2 (0, 0)) ∧ W.heap[w.heap.size + 1]? = some (.cells #[.bool (old (msgs pre)).2] 4 (0, 0)) ∧ Fr0 w W ∧ W0.heap.size ≤ W.heap.size) (fun _ _ _ => False) (pre ++ [x]) W .normal ⟨#[], []⟩ W from fun hy => by
      refine ⟨.refl _ _, .of_fr (Fr.refl _ _), ?_, ?_, HF.out, HS.out⟩
      · rw [HO.out, hy]; exact H1.out
      · rw [HO.out, hy]; exact H2.out)
    clear hfs HFS
    refine wpIn_block (wpIn_seq (wpIn_region_plain (by kernel_rfl) (fun ⟨_, _, h⟩ => h) ?_))
    cases ob with
    | false =>
      go_wp2_with fail
      refine wpIn_cond_true rfl (wpIn_region_plain (by kernel_rfl) (fun ⟨_, _, h⟩ => h) ?_)
      go_wp2_with fail
      exact HY.out (by simp [oldS])
    | true =>
      by_cases hlt : x.m.since < ol
      · go_wp2_with fail
        refine wpIn_cond_true rfl (wpIn_region_plain (by kernel_rfl) (fun ⟨_, _, h⟩ => h) ?_)
        go_wp2_with fail
        exact HY.out (by simp [oldS, hlt])
      · go_wp2_with fail
        refine wpIn_cond_false rfl ?_
        gi_wp2
        exact HNN.out (by simp only [oldS, Bool.not_true, Bool.false_or, decide_eq_true_eq]; rw [if_neg (by omega)])
  case done =>
    rintro D W hD ⟨h1, h2, hf⟩ hK
    have a0 : W.drew.cell? ⟨w.heap.size, 0, none⟩ = some (.int .i64 (old (msgs L)).1) := cell_of_blk h1 0
    have a1 : W.drew.cell? ⟨w.heap.size + 1, 0, none⟩ = some (.bool (old (msgs L)).2) := cell_of_blk h2 0
    gi_wp2
    gi_region
    all_goals
      gi_wp2
      have hK' : W.drew.heap[D]? = some (.deferred (some [])) := hK
      refine ⟨by simp, .inl ⟨_, _, rfl, run_takeDeferred hK', ?_⟩⟩
      exact ⟨_, results_tmp2 rfl _ _ _, rfl, hf.drew.grown (grownBy_putObj' W.drew D _) (fun k hk e => by cases e; have := HSZ.out; omega)⟩
theorem oldest_calls (b : Nat) (most last : Int) (L : List Rm) (w : World) (h : IsPool w b most last L) : Calls Try.prog 21 #[.pointer (some ⟨b, 0, none⟩)] w fun e w' => e = .returned (.tuple #[.int .i64 (old (msgs L)).1, .bool (old (msgs L)).2]) ∧ Fr0 w w' :=
  oldest_of _ L w (fun w' hf => pall_calls b most last L w w' h hf)
theorem oldest_no (v : Value) (w : World) (h : NoPo w v) : Calls Try.prog 21 #[v] w fun e w' => e = .returned (.tuple #[.int .i64 0, .bool false]) ∧ Fr0 w w' :=
  oldest_of _ [] w (fun w' hf => pall_no _ v w' (h.kept hf))
end Go.Proofs.Ytbhdkpcakjookaa
