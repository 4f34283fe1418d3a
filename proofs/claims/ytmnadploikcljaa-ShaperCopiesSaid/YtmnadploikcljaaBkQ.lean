/- Chapter 12: the document's Take, walked. -/
import Derived.Test.YtmnadploikcljaaBkNb
set_option linter.unusedVariables false
set_option linter.unusedSimpArgs false
namespace Go.Proofs.Ytmnadploikcljaa
open Go.RowKit

theorem results_row_tmp2 {P : Program} {fn : Func} {p u v : Tmp} {ty : TypeId} (h : fn.results = #[.cell p ty, .tmp u, .tmp v]) (tmps : Array Value) (w : World) (g : Nat) (t : TypeId) (cs : Array Value) (fr : Nat × Nat) (d : TypeDesc)
    (hp : tmps.getD p undef = .pointer (some ⟨g, 0, none⟩)) (hg : w.heap[g]? = some (.cells cs t fr))
    (hu : P.underlying ty = some d) (hd : (match d with | .struct _ | .array _ _ => true | _ => false) = true) (hi : (P.info? ty).map (·.size) = some cs.size) :
    (results fn tmps).run P w = .ok (.tuple #[.agg cs, tmps.getD u undef, tmps.getD v undef]) w := by
  have hp' : tmps[p]?.getD undef = .pointer (some ⟨g, 0, none⟩) := by simpa using hp
  simp [results, h, hp', asAddr, run_loadVar_row w g t ty cs fr d hg hu hd hi, Sem.run_bind, Result.andThen]
theorem rb_cells {w : World} {b : Nat} {s : Sp} {A : Option Addr} {n c : Nat} {now : Int} (h : w.heap[b]? = some (.cells (rbc s A n c now) 49 (0, 0))) :
    w.cell? ⟨b, 0, none⟩ = some (.int .i64 s.peak) ∧ w.cell? ⟨b, 1, none⟩ = some (.int .i64 s.rate) ∧ w.cell? ⟨b, 2, none⟩ = some (.int .i64 s.burst) ∧ w.cell? ⟨b, 3, none⟩ = some (.int .i64 s.most) ∧ w.cell? ⟨b, 4, none⟩ = some (.int .i64 s.least) ∧ w.cell? ⟨b, 5, none⟩ = some (.slice A n c) ∧ w.cell? ⟨b, 6, none⟩ = some (.int .i64 now) :=
  ⟨cell_of_blk h 0, cell_of_blk h 1, cell_of_blk h 2, cell_of_blk h 3, cell_of_blk h 4, cell_of_blk h 5, cell_of_blk h 6⟩
theorem rb_free {w : World} {b : Nat} {s : Sp} {A : Option Addr} {n c : Nat} {now : Int} (h : w.heap[b]? = some (.cells (rbc s A n c now) 49 (0, 0))) :
    w.frozen? ⟨b, 0, none⟩ = false ∧ w.frozen? ⟨b, 1, none⟩ = false ∧ w.frozen? ⟨b, 2, none⟩ = false ∧ w.frozen? ⟨b, 3, none⟩ = false ∧ w.frozen? ⟨b, 4, none⟩ = false ∧ w.frozen? ⟨b, 5, none⟩ = false ∧ w.frozen? ⟨b, 6, none⟩ = false :=
  ⟨free_of_blk h 0, free_of_blk h 1, free_of_blk h 2, free_of_blk h 3, free_of_blk h 4, free_of_blk h 5, free_of_blk h 6⟩
/-- A document's bucket stored over another one. -/
def putR (w : World) (b : Nat) (s : Sp) (A : Option Addr) (n c : Nat) (now : Int) : World := ((((((w.setCell ⟨b, 0, none⟩ (.int .i64 s.peak)).setCell ⟨b, 1, none⟩ (.int .i64 s.rate)).setCell ⟨b, 2, none⟩ (.int .i64 s.burst)).setCell ⟨b, 3, none⟩ (.int .i64 s.most)).setCell ⟨b, 4, none⟩ (.int .i64 s.least)).setCell ⟨b, 5, none⟩ (.slice A n c)).setCell ⟨b, 6, none⟩ (.int .i64 now)
theorem putR_blk {w : World} {b : Nat} {s' : Sp} {A' : Option Addr} {n' c' : Nat} {now' : Int} (h : w.heap[b]? = some (.cells (rbc s' A' n' c' now') 49 (0, 0))) (s : Sp) (A : Option Addr) (n c : Nat) (now : Int) : (putR w b s A n c now).heap[b]? = some (.cells (rbc s A n c now) 49 (0, 0)) := by
  have h0 : (w.setCell ⟨b, 0, none⟩ (.int .i64 s.peak)).heap[b]? = some (.cells #[.int .i64 s.peak, .int .i64 s'.rate, .int .i64 s'.burst, .int .i64 s'.most, .int .i64 s'.least, .slice A' n' c', .int .i64 now'] 49 (0, 0)) := blk_setCell h 0 (.int .i64 s.peak)
  have h1 : ((w.setCell ⟨b, 0, none⟩ (.int .i64 s.peak)).setCell ⟨b, 1, none⟩ (.int .i64 s.rate)).heap[b]? = some (.cells #[.int .i64 s.peak, .int .i64 s.rate, .int .i64 s'.burst, .int .i64 s'.most, .int .i64 s'.least, .slice A' n' c', .int .i64 now'] 49 (0, 0)) := blk_setCell h0 1 (.int .i64 s.rate)
  have h2 : (((w.setCell ⟨b, 0, none⟩ (.int .i64 s.peak)).setCell ⟨b, 1, none⟩ (.int .i64 s.rate)).setCell ⟨b, 2, none⟩ (.int .i64 s.burst)).heap[b]? = some (.cells #[.int .i64 s.peak, .int .i64 s.rate, .int .i64 s.burst, .int .i64 s'.most, .int .i64 s'.least, .slice A' n' c', .int .i64 now'] 49 (0, 0)) := blk_setCell h1 2 (.int .i64 s.burst)
  have h3 : ((((w.setCell ⟨b, 0, none⟩ (.int .i64 s.peak)).setCell ⟨b, 1, none⟩ (.int .i64 s.rate)).setCell ⟨b, 2, none⟩ (.int .i64 s.burst)).setCell ⟨b, 3, none⟩ (.int .i64 s.most)).heap[b]? = some (.cells #[.int .i64 s.peak, .int .i64 s.rate, .int .i64 s.burst, .int .i64 s.most, .int .i64 s'.least, .slice A' n' c', .int .i64 now'] 49 (0, 0)) := blk_setCell h2 3 (.int .i64 s.most)
  have h4 : (((((w.setCell ⟨b, 0, none⟩ (.int .i64 s.peak)).setCell ⟨b, 1, none⟩ (.int .i64 s.rate)).setCell ⟨b, 2, none⟩ (.int .i64 s.burst)).setCell ⟨b, 3, none⟩ (.int .i64 s.most)).setCell ⟨b, 4, none⟩ (.int .i64 s.least)).heap[b]? = some (.cells #[.int .i64 s.peak, .int .i64 s.rate, .int .i64 s.burst, .int .i64 s.most, .int .i64 s.least, .slice A' n' c', .int .i64 now'] 49 (0, 0)) := blk_setCell h3 4 (.int .i64 s.least)
  have h5 : ((((((w.setCell ⟨b, 0, none⟩ (.int .i64 s.peak)).setCell ⟨b, 1, none⟩ (.int .i64 s.rate)).setCell ⟨b, 2, none⟩ (.int .i64 s.burst)).setCell ⟨b, 3, none⟩ (.int .i64 s.most)).setCell ⟨b, 4, none⟩ (.int .i64 s.least)).setCell ⟨b, 5, none⟩ (.slice A n c)).heap[b]? = some (.cells #[.int .i64 s.peak, .int .i64 s.rate, .int .i64 s.burst, .int .i64 s.most, .int .i64 s.least, .slice A n c, .int .i64 now'] 49 (0, 0)) := blk_setCell h4 5 (.slice A n c)
  have h6 : (((((((w.setCell ⟨b, 0, none⟩ (.int .i64 s.peak)).setCell ⟨b, 1, none⟩ (.int .i64 s.rate)).setCell ⟨b, 2, none⟩ (.int .i64 s.burst)).setCell ⟨b, 3, none⟩ (.int .i64 s.most)).setCell ⟨b, 4, none⟩ (.int .i64 s.least)).setCell ⟨b, 5, none⟩ (.slice A n c)).setCell ⟨b, 6, none⟩ (.int .i64 now)).heap[b]? = some (.cells #[.int .i64 s.peak, .int .i64 s.rate, .int .i64 s.burst, .int .i64 s.most, .int .i64 s.least, .slice A n c, .int .i64 now] 49 (0, 0)) := blk_setCell h5 6 (.int .i64 now)
  exact h6
theorem putR_fr {S : Nat → Prop} {a w : World} (h : Fr S a w) {b : Nat} (hb : b < a.heap.size → S b) (s : Sp) (A : Option Addr) (n c : Nat) (now : Int) : Fr S a (putR w b s A n c now) :=
  ((((((h.setCell (p := ⟨b, 0, none⟩) hb _).setCell (p := ⟨b, 1, none⟩) hb _).setCell (p := ⟨b, 2, none⟩) hb _).setCell (p := ⟨b, 3, none⟩) hb _).setCell (p := ⟨b, 4, none⟩) hb _).setCell (p := ⟨b, 5, none⟩) hb _).setCell (p := ⟨b, 6, none⟩) hb _
/-- What is to be there behind the document's Take. -/
def RTk (s : Sp) (l : List (Int × Int)) (A0 : Option Addr) (B : Bk) (t z : Int) (w : World) (e : Ending) (w' : World) : Prop :=
  (∃ A c, e = .returned (.tuple #[.agg (rbc s A (lTk s l B t z).length c (B.tk t z).now), .bool (decide (okTk s l B t z)), .int .i64 (askA B t)]) ∧ (lTk s l B t z).length ≤ c ∧ ∀ S : Nat → Prop, Rd S w A0 (sends l) → (∀ k, w.heap.size ≤ k → ¬ S k) → Rd S w' A (sends (lTk s l B t z))) ∧ Fr0 w w'

set_option maxHeartbeats 1000000 in
theorem rtake_calls {s : Sp} {l : List (Int × Int)} {B : Bk} (h : BkOf s l B) (A : Option Addr) (c : Nat) (t z : Int) (w : World) (hR : Rd (fun _ => False) w A (sends l)) (hl : l.length ≤ 99) (hc : l.length ≤ c) :
    Calls Try.prog 55 #[.agg (rbc s A l.length c B.now), .int .i64 t, .int .i64 z] w (RTk s l A B t z w) := by
  have hb0 := heap_alloc_new w (.cells (rbc s A l.length c B.now) 49)
  have HB := Lib.hid (blk_alloc hb0 (.cells (rbc ⟨0, 0, 0, 0, 0⟩ none 0 0 0) 49))
  have HZ := Lib.hid (show ((w.alloc (.cells (rbc s A l.length c B.now) 49)).alloc (.cells (rbc ⟨0, 0, 0, 0, 0⟩ none 0 0 0) 49)).heap[w.heap.size + 1]? = some (.cells (rbc ⟨0, 0, 0, 0, 0⟩ none 0 0 0) 49 (0, 0)) from heap_alloc_nn (by simp))
  have HF := Lib.hid (((Fr.refl (fun _ => False) w).alloc (.cells (rbc s A l.length c B.now) 49)).alloc (.cells (rbc ⟨0, 0, 0, 0, 0⟩ none 0 0 0) 49))
  have HR := Lib.hid hR
  have HA := Lib.hid (fun w' => rasked_calls s A l.length c B.now t w')
  clear hb0 hR
  obtain ⟨c0, c1, c2, c3, c4, c5, c6⟩ := rb_cells HB.out
  by_cases hm : B.may t
  · have ea : askA B t = 0 := if_pos hm
    have ht : (B.tk t z).now = t := by
      unfold Bk.tk Bk.take
      rw [if_pos hm]
      split <;> rfl
    have hm2 := hm
    unfold Bk.may at hm2
    rw [if_pos hm2] at HA
    have HKP := Lib.hid (fun w' (hr : Rd (fun _ => False) w' A (sends l)) => rbkeeps_calls s A c l t t z w' hr (by omega) hc h.right)
    by_cases hk : Keeps s (l ++ [(t, z)])
    · have hok : okTk s l B t z := ⟨hm, hk⟩
      rw [decide_eq_true hk] at HKP
      have eL : lTk s l B t z = l ++ [(t, z)] := lTk_yes hok
      unfold RTk
      rw [eL, ht, ea, decide_eq_true hok]
      have HM := Lib.hid hm
      clear hm hm2 hk hok eL ht ea h
      generalize B.now = n0 at *
      go_enter Try.func55, Try.ntmps55
      go_wp2_with (first
        | (go_at_call 53; refine (HA.out _).mono ?_; rintro e w1 ⟨rfl, hf1⟩; have HF1 := Lib.hid (HF.out.trans hf1); have HB1 := Lib.hid (hf1.blk HB.out (fun h => h)); have HZ1 := Lib.hid (hf1.blk HZ.out (fun h => h)); clear c0 c1 c2 c3 c4 c5 c6 hf1; obtain ⟨c0, c1, c2, c3, c4, c5, c6⟩ := rb_cells HB1.out; obtain ⟨k0, k1, k2, k3, k4, k5, k6⟩ := rb_free HB1.out))
      have HF2 := Lib.hid (HF1.out.setCell (p := ⟨w.heap.size, 6, none⟩) (fun h => absurd h (Nat.lt_irrefl _)) (.int .i64 t))
      have HB2 : Hid ((w1.setCell ⟨w.heap.size, 6, none⟩ (.int .i64 t)).heap[w.heap.size]? = some (.cells (rbc s A l.length c t) 49 (0, 0))) := Lib.hid (blk_setCell HB1.out 6 (.int .i64 t))
      have HZ2 := Lib.hid (blk_setCell_other HZ1.out (p := ⟨w.heap.size, 6, none⟩) (by simp) (.int .i64 t))
      clear c0 c1 c2 c3 c4 c5 c6 k0 k1 k2 k3 k4 k5 k6
      generalize w1.setCell ⟨w.heap.size, 6, none⟩ (.int .i64 t) = W2 at *
      refine (HKP.out _ (HR.out.kept HF2.out)).mono ?_
      rintro e w2 ⟨rfl, hf2⟩
      have HF3 := Lib.hid (HF2.out.trans hf2)
      have HB3 := Lib.hid (hf2.blk HB2.out (fun h => h))
      have HZ3 := Lib.hid (hf2.blk HZ2.out (fun h => h))
      have HR3 := Lib.hid (HR.out.kept HF3.out)
      have HAN : Hid (A = none → l.length = 0) := Lib.hid (fun e => by
        subst e
        rcases Nat.eq_zero_or_pos l.length with h | h
        · exact h
        · obtain ⟨_, _, e⟩ := HR.out.some_ (by rw [sends_length]; omega)
          cases e)
      have HBS : Hid (w.heap.size + 2 ≤ w2.heap.size) := Lib.hid (by have := lt_of_block HZ3.out; omega)
      obtain ⟨c0, c1, c2, c3, c4, c5, c6⟩ := rb_cells HB3.out
      clear hf2
      go_wp2_with (at_builtin; first
        | (refine wpList_app rfl (.const (.slice none 0 0)) (.tmp 26) _ rfl Try.underlying31 send_elem (base := w.heap.size + 2) (.slice none 0 0) 0 [] rfl (own_nil _ _ _ _) (fun _ => False) A l.length c (sends l) rfl HR3.out (by rw [sends_length]; omega) (sends_one _) (by simp only [maxLen]; omega) (by omega) HBS.out HAN.out ?_; intro v1 w3 hown1 hg1 hat1; rw [Nat.zero_add, List.nil_append] at hown1; have HO1 := Lib.hid hown1; have HG1 := Lib.hid hg1; clear hown1 hg1 hat1)
        | (refine wpList_app rfl (.tmp 27) (.tmp 31) _ rfl Try.underlying31 send_elem (base := w.heap.size + 2) v1 l.length (sends l) rfl (own_kept0 HO1.out ((Fr.refl _ w3).alloc (.cells #[.int .i64 t, .int .i64 z] 40))) (fun _ => False) _ 1 1 (sends [(t, z)]) rfl (rd_send1 _ w3 _ _ _ (fun h => h)) rfl (sends_one _) (by simp only [maxLen]; omega) (by omega) (by have := HBS.out; have := HG1.out.size; simp; omega) (by simp) ?_; intro v2 w4 hown2 hg2 hat2; rw [← sends_append] at hown2; have HO2 := Lib.hid hown2; have HB4 := Lib.hid (blk_grown (blk_alloc (blk_grown HB3.out HG1.out (by simp [Value.ownBlock])) _) hg2 (fun e => by have := (HO1.out.lt _ e.symm).1; omega)); have HZ4 := Lib.hid (blk_grown (blk_alloc (blk_grown HZ3.out HG1.out (by simp [Value.ownBlock])) _) hg2 (fun e => by have := (HO1.out.lt _ e.symm).1; omega)); have HF4 := Lib.hid (((HF3.out.grown HG1.out (by simp [Value.ownBlock])).alloc _).grown hg2 (fun q hq e => by have := (HO1.out.lt q e).1; omega)); obtain ⟨A2, c2', rfl, hlc2, hcm2⟩ := own_form hown2; clear c0 c1 c2 c3 c4 c5 c6 hown2 hg2 hat2; obtain ⟨c0, c1, c2, c3, c4, c5, c6⟩ := rb_cells HB4.out; obtain ⟨k0, k1, k2, k3, k4, k5, k6⟩ := rb_free HB4.out; obtain ⟨z0, z1, z2, z3, z4, z5, z6⟩ := rb_cells HZ4.out; obtain ⟨f0, f1, f2, f3, f4, f5, f6⟩ := rb_free HZ4.out))
      have hrd := fun (S : Nat → Prop) (hS : ∀ k, w.heap.size ≤ k → ¬ S k) => own_rd (fun k => (k = w.heap.size ∨ k = w.heap.size + 1) ∨ S k) HO2.out (fun k hk _ e => by
        rcases e with e | e
        · omega
        · exact hS k (by omega) e)
      have hFs := fun S : Nat → Prop => putR_fr ((Fr.refl (fun k => (k = w.heap.size ∨ k = w.heap.size + 1) ∨ S k) w4).setCell (p := ⟨w.heap.size, 5, none⟩) (fun _ => .inl (.inl rfl)) (.slice A2 (l.length + 1) c2')) (b := w.heap.size + 1) (fun _ => .inl (.inr rfl)) s A2 (l.length + 1) c2' t
      have hFw := putR_fr (HF4.out.setCell (p := ⟨w.heap.size, 5, none⟩) (fun h => absurd h (Nat.lt_irrefl _)) (.slice A2 (l.length + 1) c2')) (b := w.heap.size + 1) (fun h => by omega) s A2 (l.length + 1) c2' t
      exact bodyPost_ret (results_row_tmp2 rfl _ _ (w.heap.size + 1) _ _ _ _ rfl (putR_blk (blk_setCell_other HZ4.out (p := ⟨w.heap.size, 5, none⟩) (by simp) _) s A2 (l.length + 1) c2' t) Try.underlying49 rfl (by kernel_rfl)) rfl
        ⟨⟨A2, c2', rfl, hlc2, fun S _ hS => ((hrd S hS).kept (hFs S)).mono (fun _ _ h => .inr h)⟩, hFw⟩
    · have hok : ¬ okTk s l B t z := fun h => hk h.2
      rw [decide_eq_false hk] at HKP
      unfold RTk
      rw [lTk_no hok, ht, ea, decide_eq_false hok]
      clear hm hm2 hk hok ht ea h
      generalize B.now = n0 at *
      go_enter Try.func55, Try.ntmps55
      go_wp2_with (first
        | (go_at_call 53; refine (HA.out _).mono ?_; rintro e w1 ⟨rfl, hf1⟩; have HF1 := Lib.hid (HF.out.trans hf1); have HB1 := Lib.hid (hf1.blk HB.out (fun h => h)); have HZ1 := Lib.hid (hf1.blk HZ.out (fun h => h)); clear c0 c1 c2 c3 c4 c5 c6 hf1; obtain ⟨c0, c1, c2, c3, c4, c5, c6⟩ := rb_cells HB1.out; obtain ⟨k0, k1, k2, k3, k4, k5, k6⟩ := rb_free HB1.out))
      have HF2 := Lib.hid (HF1.out.setCell (p := ⟨w.heap.size, 6, none⟩) (fun h => absurd h (Nat.lt_irrefl _)) (.int .i64 t))
      have HB2 : Hid ((w1.setCell ⟨w.heap.size, 6, none⟩ (.int .i64 t)).heap[w.heap.size]? = some (.cells (rbc s A l.length c t) 49 (0, 0))) := Lib.hid (blk_setCell HB1.out 6 (.int .i64 t))
      have HZ2 := Lib.hid (blk_setCell_other HZ1.out (p := ⟨w.heap.size, 6, none⟩) (by simp) (.int .i64 t))
      clear c0 c1 c2 c3 c4 c5 c6 k0 k1 k2 k3 k4 k5 k6
      generalize w1.setCell ⟨w.heap.size, 6, none⟩ (.int .i64 t) = W2 at *
      refine (HKP.out _ (HR.out.kept HF2.out)).mono ?_
      rintro e w2 ⟨rfl, hf2⟩
      have HF3 := Lib.hid (HF2.out.trans hf2)
      have HB3 := Lib.hid (hf2.blk HB2.out (fun h => h))
      have HZ3 := Lib.hid (hf2.blk HZ2.out (fun h => h))
      obtain ⟨c0, c1, c2, c3, c4, c5, c6⟩ := rb_cells HB3.out
      obtain ⟨f0, f1, f2, f3, f4, f5, f6⟩ := rb_free HZ3.out
      obtain ⟨z0, z1, z2, z3, z4, z5, z6⟩ := rb_cells HZ3.out
      clear hf2
      go_wp2_with fail
      have hFw := putR_fr HF3.out (b := w.heap.size + 1) (fun h => by omega) s A l.length c t
      exact bodyPost_ret (results_row_tmp2 rfl _ _ (w.heap.size + 1) _ _ _ _ rfl (putR_blk HZ3.out s A l.length c t) Try.underlying49 rfl (by kernel_rfl)) rfl
        ⟨⟨A, c, rfl, hc, fun S h _ => h.kept (Fr0.any hFw)⟩, hFw⟩
  · have hok : ¬ okTk s l B t z := fun h => hm h.1
    have ea : askA B t = 2 := if_neg hm
    have et : B.tk t z = B := if_neg hm
    unfold RTk
    rw [lTk_no hok, et, ea, decide_eq_false hok]
    have hm2 := hm
    unfold Bk.may at hm2
    rw [if_neg hm2] at HA
    clear hm hm2 hok et ea h
    generalize B.now = n0 at *
    go_enter Try.func55, Try.ntmps55
    go_wp2_with (first
      | (go_at_call 53; refine (HA.out _).mono ?_; rintro e w1 ⟨rfl, hf1⟩; have HF1 := Lib.hid (HF.out.trans hf1); have HB1 := Lib.hid (hf1.blk HB.out (fun h => h)); have HZ1 := Lib.hid (hf1.blk HZ.out (fun h => h)); clear c0 c1 c2 c3 c4 c5 c6 hf1; obtain ⟨c0, c1, c2, c3, c4, c5, c6⟩ := rb_cells HB1.out; obtain ⟨f0, f1, f2, f3, f4, f5, f6⟩ := rb_free HZ1.out; obtain ⟨z0, z1, z2, z3, z4, z5, z6⟩ := rb_cells HZ1.out))
    have hFw := putR_fr HF1.out (b := w.heap.size + 1) (fun h => by omega) s A l.length c n0
    exact bodyPost_ret (results_row_tmp2 rfl _ _ (w.heap.size + 1) _ _ _ _ rfl (putR_blk HZ1.out s A l.length c n0) Try.underlying49 rfl (by kernel_rfl)) rfl
      ⟨⟨A, c, rfl, hc, fun S h _ => h.kept (Fr0.any hFw)⟩, hFw⟩
end Go.Proofs.Ytmnadploikcljaa
