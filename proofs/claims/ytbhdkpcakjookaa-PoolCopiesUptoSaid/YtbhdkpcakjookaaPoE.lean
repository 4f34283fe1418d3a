/- Chapter 24: Grow, Concat, without. -/
import Derived.Test.YtbhdkpcakjookaaPoD
import Derived.Lib.AppendZeros
set_option linter.unusedVariables false
set_option linter.unusedSimpArgs false
namespace Go.Proofs.Ytbhdkpcakjookaa
open Go.RowKit
attribute [local go_sem] Oper.semAt_some

theorem grow_calls (n : Nat) (w : World) (hn : n ≤ 1000000) :
    Calls Try.prog 43 #[.slice none 0 0, .int .i64 n] w fun e w' => (∃ v, e = .returned v ∧ rmRow w' w.heap.size v []) ∧ Fr0 w w' := by
  rcases Nat.eq_zero_or_pos n with rfl | h0
  · go_enter Try.func43, Try.ntmps43
    go_wp2_with fail
    go_ret
    exact ⟨⟨_, rfl, own_nil _ _ _ _⟩, Fr.refl _ _⟩
  · obtain ⟨i, z, hi, hz, hsz, hby, hzs⟩ : ∃ i z, Try.prog.info? 31 = some i ∧ i.zero = some z ∧ i.size = 4 ∧ i.bytes = 48 ∧ z.cells.size = 4 := ⟨_, _, rfl, rfl, rfl, rfl, rfl⟩
    have hrun := Lib.run_append_nil_zeros (P := Try.prog) w 36 3 36 31 i z .i64 .i64 Try.underlying36 Try.underlying3 hi hz n h0 (by omega) (by omega) (by rw [hby]; omega)
    have HC := Lib.hid (show grownCap w n 0 31 ≤ maxLen ∧ n ≤ grownCap w n 0 31 from ⟨grownCap_le_maxLen _ _ _ _ (by simp only [maxLen]; omega), grownCap_ge _ _ _ _⟩)
    have hf := (Fr.refl (fun _ => False) w).drew.alloc (.cells (Builtin.zeroCells z.cells n ++ Builtin.zeroCells z.cells (grownCap w n 0 31 - n)) 31)
    have hrow : rmRow (w.drew.alloc (.cells (Builtin.zeroCells z.cells n ++ Builtin.zeroCells z.cells (grownCap w n 0 31 - n)) 31)) w.heap.size (.slice (some ⟨w.heap.size, 0, none⟩) 0 (grownCap w n 0 31)) [] :=
      World.ownsRow_made w.drew _ _ (Nat.le_refl _) HC.out.1 (by
        have := HC.out.2
        simp only [Array.size_append, size_zeroCells, hzs]
        omega)
    have HF := Lib.hid hf
    have HR := Lib.hid hrow
    have HX := Lib.hid hrun
    have hg0 : (0 : Int) < (n : Int) := by omega
    clear hf hrow hrun
    generalize w.drew.alloc (.cells (Builtin.zeroCells z.cells n ++ Builtin.zeroCells z.cells (grownCap w n 0 31 - n)) 31) = w2 at *
    generalize grownCap w n 0 31 = cap at *
    clear hi hz hsz hby hzs
    go_enter Try.func43, Try.ntmps43
    go_wp2_with (at_builtin; refine Lib.wpList_append_run _ rfl _ _ _ _ rfl _ _ rfl rfl _ _ HX.out ?_)
    go_ret
    exact ⟨⟨_, rfl, HR.out⟩, HF.out⟩
theorem own_isls {w : World} {base : Nat} {A : Option Addr} {c n : Nat} {L : List Rm} (h : w.ownsRow base 31 4 (.slice A n c) n (rms L)) (hok : ∀ r ∈ L, r.Ok w) (hm : L.length ≤ 1000000) : n = L.length ∧ IsLs w A c L := by
  have hn : n = L.length := by have := own_len h; rw [rms_length] at this; omega
  obtain ⟨A', c', e, h1, h2⟩ := own_form h
  cases e
  refine ⟨hn, own_rd _ h (fun _ _ _ h => h), hok, ⟨by omega, h2⟩, ?_, hm⟩
  rintro rfl
  rcases h.2 with ⟨_, h0⟩ | ⟨g, _, _, e, _⟩
  · exact List.length_eq_zero_iff.1 (by omega)
  · cases e
def ConcatPost (L : List Rm) (w : World) (e : Ending) (w' : World) : Prop := (∃ A c, e = .returned (.slice A L.length c) ∧ rmRow w' w.heap.size (.slice A L.length c) L ∧ IsLs w' A c L) ∧ Fr0 w w'
set_option maxHeartbeats 2000000 in
theorem concat_calls (q : Nat) (A B : Option Addr) (c d : Nat) (L M : List Rm) (w : World) (hq : w.heap[q]? = some (.cells #[.slice A L.length c, .slice B M.length d] 36 (0, 0))) (h : IsLs w A c L) (k : IsLs w B d M) (hm : L.length + M.length ≤ 1000000) :
    Calls Try.prog 41 #[.slice (some ⟨q, 0, none⟩) 2 2] w (ConcatPost (L ++ M) w) := by
  have HG := Lib.hid (show Calls Try.prog 43 #[.slice none 0 0, .int .i64 ((L.length : Int) + (M.length : Int))] w fun e w' => (∃ v, e = .returned v ∧ rmRow w' w.heap.size v []) ∧ Fr0 w w' from by rw [← Int.natCast_add]; exact grow_calls (L.length + M.length) w hm)
  have HLL := Lib.hid (rms_length L)
  have HLM := Lib.hid (rms_length M)
  have HA := Lib.hid h
  have HB := Lib.hid k
  have q0 : w.cell? ⟨q, 0, none⟩ = some (.slice A L.length c) := cell_of_blk hq 0
  have q1 : w.cell? ⟨q, 1, none⟩ = some (.slice B M.length d) := cell_of_blk hq 1
  have HQ := Lib.hid hq
  have hw1 : IntKind.i64.wrap ((L.length : Int)) = (L.length : Int) := by rw [IntKind.wrap_i64]; omega
  have hw2 : IntKind.i64.wrap ((L.length : Int) + (M.length : Int)) = (L.length : Int) + (M.length : Int) := by rw [IntKind.wrap_i64]; omega
  have hn0 : ¬ (L.length : Int) < 0 := by omega
  have hn1 : ¬ (L.length : Int) + (M.length : Int) < 0 := by omega
  clear h k hq
  go_enter Try.func41, Try.ntmps41
  go_wp2_with fail
  refine wp_loop_rounds 3 ?_
  rw [rounds_succ]
  go_wp2_with fail
  rw [rounds_succ]
  go_wp2_with fail
  rw [rounds_succ]
  go_wp2_with fail
  refine HG.out.mono ?_
  rintro e w5 ⟨⟨v, rfl, hown⟩, hf5⟩
  have HO := Lib.hid hown
  have HF5 := Lib.hid hf5
  have q50 : w5.cell? ⟨q, 0, none⟩ = some (.slice A L.length c) := hf5.cell q0 (fun h => h)
  have H6 := Lib.hid (fun w6 (hg : w5.grownBy w6 v.ownBlock) => (show Fr0 w w6 from hf5.grown hg (fun k hk e => by have := (own_blk hown e).1; omega)))
  clear hown hf5
  go_wp2_with fail
  refine wp_loop_rounds 3 ?_
  rw [rounds_succ]
  go_wp2_with (at_builtin; refine wpList_app rfl (.tmp 31) (.tmp 32) _ rfl Try.underlying36 rm_elem (base := w.heap.size) v 0 [] rfl HO.out (fun _ => False) A L.length c (rms L) rfl ((HA.out.kept HF5.out).rd) HLL.out (rms_one L) (by simp only [maxLen]; omega) (by omega) HF5.out.size (fun e => by rw [HA.out.nil e]; rfl) ?_; intro v6 w6 hown6 hg6 hat6; have hf6 := H6.out w6 hg6; have q61 : w6.cell? ⟨q, 1, none⟩ = some (.slice B M.length d) := hf6.cell q1 (fun h => h))
  have HO6 := Lib.hid hown6
  have HF6 := Lib.hid hf6
  have H7 := Lib.hid (fun w7 (hg : w6.grownBy w7 v6.ownBlock) => (show Fr0 w w7 from hf6.grown hg (fun k hk e => by have := (own_blk hown6 e).1; omega)))
  clear hown6 hg6 hat6 hf6
  rw [rounds_succ]
  go_wp2_with (at_builtin; refine wpList_app rfl (.tmp 31) (.tmp 32) _ rfl Try.underlying36 rm_elem (base := w.heap.size) v6 (0 + L.length) ([] ++ rms L) rfl HO6.out (fun _ => False) B M.length d (rms M) rfl ((HB.out.kept HF6.out).rd) HLM.out (rms_one M) (by simp only [maxLen]; omega) (by omega) HF6.out.size (fun e => by rw [HB.out.nil e]; rfl) ?_; intro v7 w7 hown7 hg7 hat7; have hf7 := H7.out w7 hg7)
  rw [rounds_succ]
  have HO7 := Lib.hid hown7
  have HF7 := Lib.hid hf7
  clear hown7 hg7 hat7 hf7
  go_wp2_with fail
  go_ret
  have ho := HO7.out
  rw [List.nil_append, Nat.zero_add, ← rms_append] at ho
  obtain ⟨A', c', rfl, _, _⟩ := own_form ho
  obtain ⟨_, hls⟩ := own_isls (L := L ++ M) ho (fun r hr => by
    rcases List.mem_append.1 hr with hr | hr
    · exact (HA.out.ok r hr).kept HF7.out
    · exact (HB.out.ok r hr).kept HF7.out) (by simp; omega)
  refine ⟨⟨A', c', ?_, ?_, hls⟩, HF7.out⟩
  · simp
  · show World.ownsRow _ _ _ _ _ _ _
    rw [List.length_append]
    exact ho
/-- A list of messages without one. -/
def without (L : List Rm) (n : Nat) : List Rm := L.take n ++ L.drop (n + 1)
set_option maxHeartbeats 1000000 in
theorem without_calls (A : Option Addr) (c : Nat) (L : List Rm) (n : Nat) (w : World) (h : IsLs w A c L) (hn : n < L.length) :
    Calls Try.prog 32 #[.slice A L.length c, .int .i64 n] w (ConcatPost (without L n) w) := by
  have hmx : Try.prog.follows .mixedOrders = true := by kernel_rfl
  obtain ⟨b, off, rfl⟩ := h.rd.some_ (by rw [rms_length]; omega)
  have hlen := h.len
  have hm := h.most
  have HLS := Lib.hid h
  have h1 : IsLs w (some ⟨b, off, none⟩) c (L.take n) := ⟨(by
    rcases h.rd with h | ⟨g, o, e, hs, h⟩
    · have := rms_length L; rw [h] at this; simp at this; omega
    · cases e
      refine .inr ⟨b, off, rfl, hs, fun i hi => ?_⟩
      have hi2 : i < (rms L).length := by rw [rms_length] at hi ⊢; simp at hi; omega
      rw [h i hi2]
      congr 1
      have : rms L = rms (L.take n) ++ rms (L.drop n) := by rw [← rms_append, List.take_append_drop]
      simp only [this, List.getElem_append_left hi]), fun r hr => h.ok r (List.mem_of_mem_take hr), (by simp; omega), (fun e => by first | (cases e; done) | (split at e <;> cases e)), (by simp; omega)⟩
  have h2 : IsLs w (if c = n + 1 then some ⟨b, off, none⟩ else some ⟨b, off + (n + 1) * 4, none⟩) (c - (n + 1)) (L.drop (n + 1)) := ⟨(by
    rcases Nat.eq_or_lt_of_le (show n + 1 ≤ L.length from hn) with he | he
    · have : L.drop (n + 1) = [] := List.drop_of_length_le (by omega)
      rw [this]
      exact .inl rfl
    · have hc : ¬ c = n + 1 := by omega
      rw [if_neg hc]
      rcases h.rd with h | ⟨g, o, e, hs, h⟩
      · have := rms_length L; rw [h] at this; simp at this; omega
      · cases e
        refine .inr ⟨b, _, rfl, hs, fun i hi => ?_⟩
        have hi2 : (n + 1) * 4 + i < (rms L).length := by rw [rms_length] at hi ⊢; simp at hi; omega
        rw [show off + (n + 1) * 4 + i = off + ((n + 1) * 4 + i) by omega, h _ hi2]
        congr 1
        have e1 : rms L = rms (L.take (n + 1)) ++ rms (L.drop (n + 1)) := by rw [← rms_append, List.take_append_drop]
        have e2 : (rms (L.take (n + 1))).length = (n + 1) * 4 := by rw [rms_length]; simp; omega
        simp only [e1]
        rw [List.getElem_append_right (by omega)]
        simp only [e2]
        congr 1
        omega), fun r hr => h.ok r (List.mem_of_mem_drop hr), (by simp; omega), (fun e => by first | (cases e; done) | (split at e <;> cases e)), (by simp; omega)⟩
  have hi1 : (0 : Int) ≤ (n : Int) := by omega
  have hi2 : (n : Int) ≤ (c : Int) := by omega
  have hi3 : (n : Int) + 1 ≤ (L.length : Int) := by omega
  have hi4 : (L.length : Int) ≤ (c : Int) := by omega
  have hi5 : (0 : Int) ≤ (n : Int) + 1 := by omega
  have hw1 : IntKind.i64.wrap ((n : Int) + 1) = (n : Int) + 1 := by rw [IntKind.wrap_i64]; omega
  have H1 := Lib.hid h1
  have H2 := Lib.hid h2
  clear h h1 h2
  go_enter Try.func32, Try.ntmps32
  go_wp2_with fail
  refine wp_region_class (fun U => ∃ x : Wx w, U = x.u) 7 hmx (by kernel_rfl) ⟨⟨w.drew, (Fr.refl _ w).drew⟩, rfl⟩ ?_
  simp only [List.take_succ_cons, List.take_zero, List.drop_succ_cons, List.drop_zero]
  repeat (go_big_quiet_step (fail))
  generalize (if c = n + 1 then some (⟨b, off, none⟩ : Addr) else some ⟨b, off + (n + 1) * 4, none⟩) = A2 at *
  have HF := Lib.hid (fun y (hf : Fr0 w y) => hf.alloc (.cells #[.slice (some ⟨b, off, none⟩) n c, .slice A2 (L.length - (n + 1)) (c - (n + 1))] 36))
  have HC := Lib.hid (fun y (hf : Fr0 w y) => concat_calls y.heap.size (some ⟨b, off, none⟩) A2 c (c - (n + 1)) (L.take n) (L.drop (n + 1)) (y.alloc (.cells #[.slice (some ⟨b, off, none⟩) n c, .slice A2 (L.length - (n + 1)) (c - (n + 1))] 36))
    (by rw [List.length_take, List.length_drop, Nat.min_eq_left (by omega)]; exact heap_alloc_new _ _) (H1.out.kept (HF.out y hf)) (H2.out.kept (HF.out y hf)) (by simp; omega))
  refine wpQuiet_nil ?_
  rintro U ⟨y, rfl⟩
  go_wp2_with fail
  refine (HC.out _ y.fr).mono ?_
  rintro e w' ⟨⟨A', c', rfl, hown, hls⟩, hf⟩
  go_wp2_with fail
  go_ret
  refine ⟨⟨A', c', ?_, own_mono hown ?_, hls⟩, (HF.out _ y.fr).trans hf⟩
  · unfold without
    simp
  have := y.fr.size
  simp
  omega
end Go.Proofs.Ytbhdkpcakjookaa
