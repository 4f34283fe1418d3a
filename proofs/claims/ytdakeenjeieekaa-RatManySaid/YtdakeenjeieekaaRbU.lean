/- Chapter 01, the document: steps of a region by what an operation runs to. -/
import Derived.Test.YtdakeenjeieekaaRbT
set_option linter.unusedVariables false
set_option linter.unusedSimpArgs false
namespace Go.Proofs.Ytdakeenjeieekaa
open Go.RowKit
section
variable {P : Program} {ops : Array Oper} {Q : Exit → Act → World → Prop}
theorem rel_call {i : Nat} {o : Oper} {a : Act} {d : Option Tmp} {U : World} {S : Nat → Nat ⊕ Value} (f : FuncId) (args : Array Value) (ho : ops[i]? = some o) (hd : o.dst = d)
    (hw : Region.wanted o (yielded ops a.tmps) = true) (he : (execOp a.eval o).run P U = .ok (.enter f args) U)
    (h : Calls P f args U fun e V => ∃ v, e = .returned v ∧ RelP S i v V ∧ Fr0 U V) :
    wpOp P ops Q i (fun a' V => ∃ v, a' = a.put d v ∧ RelP S i v V ∧ Fr0 U V) a U := by
  unfold wpOp
  rw [ho]
  simp only [hw, if_true]
  refine .inl ?_
  unfold Oper.wp
  rw [he, Oper.upon_enter]
  refine h.mono ?_
  rintro e V ⟨v, rfl, h1, h2⟩
  exact ⟨v, by rw [hd], h1, h2⟩
theorem rel_value {i : Nat} {o : Oper} {a : Act} {d : Option Tmp} {U : World} {S : Nat → Nat ⊕ Value} (v : Value) (ho : ops[i]? = some o) (hd : o.dst = d)
    (hw : Region.wanted o (yielded ops a.tmps) = true) (he : (execOp a.eval o).run P U = .ok (.value v) U)
    (h : RelP S i v U) :
    wpOp P ops Q i (fun a' V => ∃ v, a' = a.put d v ∧ RelP S i v V ∧ Fr0 U V) a U := by
  unfold wpOp
  rw [ho]
  simp only [hw, if_true]
  refine .inl ?_
  unfold Oper.wp
  rw [he, Oper.upon_value]
  exact ⟨v, by rw [hd], h, Fr.refl _ _⟩
end
theorem of_rel {n : Nat} (hn : n < 18446744073709551616) (U : World) {S : Nat → Nat ⊕ Value} {i : Nat} (hS : S i = .inl n) :
    Calls Try.prog 40 #[u64v n] U fun e V => ∃ v, e = .returned v ∧ RelP S i v V ∧ Fr0 U V :=
  (rof_calls n hn U).mono (fun e V h => by
    obtain ⟨⟨v, rfl, hv⟩, hf⟩ := h
    exact ⟨v, rfl, by unfold RelP; rw [hS]; exact hv, hf⟩)
theorem of_rel2 {n : Nat} {u : Value} (hu : u = u64v n) (hn : n < 18446744073709551616) (U : World) {S : Nat → Nat ⊕ Value} {i : Nat} (hS : S i = .inl n) :
    Calls Try.prog 40 #[u] U fun e V => ∃ v, e = .returned v ∧ RelP S i v V ∧ Fr0 U V := by
  subst hu
  exact of_rel hn U hS
theorem mul_rel {n m : Nat} {va vb : Value} {U : World} {S : Nat → Nat ⊕ Value} {i : Nat} (hS : S i = .inl (n * m)) (ha : IsB U va n) (hb : IsB U vb m) (hn : (bd n).length ≤ 400) (hm : (bd m).length ≤ 400) :
    Calls Try.prog 50 #[va, vb] U fun e V => ∃ v, e = .returned v ∧ RelP S i v V ∧ Fr0 U V :=
  (bmul_calls n m va vb U ha hb hn hm).mono (fun e V h => by
    obtain ⟨⟨v, rfl, hv⟩, hf⟩ := h
    exact ⟨v, rfl, by unfold RelP; rw [hS]; exact hv.weak, hf⟩)
theorem size_rel {n : Int} {m : Nat} (hm : m = n.natAbs) (hn : I64r n) (U : World) {S : Nat → Nat ⊕ Value} {i : Nat} (hS : S i = .inr (u64v m)) :
    Calls Try.prog 41 #[.int .i64 n] U fun e V => ∃ v, e = .returned v ∧ RelP S i v V ∧ Fr0 U V :=
  (size_calls n hn U).mono (fun e V h => by
    obtain ⟨rfl, hf⟩ := h
    exact ⟨_, rfl, by unfold RelP; rw [hS, hm], hf⟩)
theorem size_keep {n : Int} {m : Nat} (hm : m = n.natAbs) (hn : I64r n) (U : World) : Calls Try.prog 41 #[.int .i64 n] U fun e w' => e = .returned (u64v m) ∧ Fr0 U w' := hm ▸ size_calls n hn U
theorem add_rel {n m : Nat} {va vb : Value} {U : World} {S : Nat → Nat ⊕ Value} {i : Nat} (hS : S i = .inl (n + m)) (ha : IsB U va n) (hb : IsB U vb m) (hn : (bd n).length ≤ 400) (hm : (bd m).length ≤ 400) :
    Calls Try.prog 51 #[va, vb] U fun e V => ∃ v, e = .returned v ∧ RelP S i v V ∧ Fr0 U V :=
  (badd_calls n m va vb U ha hb (by omega) (by omega)).mono (fun e V h => by
    obtain ⟨⟨v, rfl, hv⟩, hf⟩ := h
    exact ⟨v, rfl, by unfold RelP; rw [hS]; exact hv.weak, hf⟩)
theorem sub_rel {n m : Nat} {va vb : Value} {U : World} {S : Nat → Nat ⊕ Value} {i : Nat} (hS : S i = .inl (n - m)) (hle : m ≤ n) (ha : IsB U va n) (hb : IsB U vb m) (hn : (bd n).length ≤ 400) (hm : (bd m).length ≤ 400) :
    Calls Try.prog 53 #[va, vb] U fun e V => ∃ v, e = .returned v ∧ RelP S i v V ∧ Fr0 U V :=
  (bsub_calls n m va vb U hle ha hb (by omega) (by omega)).mono (fun e V h => by
    obtain ⟨⟨v, rfl, hv⟩, hf⟩ := h
    exact ⟨v, rfl, by unfold RelP; rw [hS]; exact hv.weak, hf⟩)
theorem val_rel {P : Program} {f : FuncId} {args : Array Value} {U : World} {r : Value} {S : Nat → Nat ⊕ Value} {i : Nat} (hS : S i = .inr r) (h : Calls P f args U fun e w' => e = .returned r ∧ Fr0 U w') :
    Calls P f args U fun e V => ∃ v, e = .returned v ∧ RelP S i v V ∧ Fr0 U V :=
  h.mono (fun e V h => by
    obtain ⟨rfl, hf⟩ := h
    exact ⟨_, rfl, by unfold RelP; rw [hS], hf⟩)
theorem run_ext0 {P : Program} {o : Oper} {ev : Operand → Value} {t : Operand} {v : Value} {a b k : Int} (U : World) (ho : o.op = .extract t 0) (he : ev t = v) (h : v = .tuple #[rtv a b, .int .i64 k]) :
    (execOp ev o).run P U = .ok (.value (rtv a b)) U := by
  subst h
  unfold execOp
  rw [ho]
  simp only [he]
  rfl
theorem run_ext1 {P : Program} {o : Oper} {ev : Operand → Value} {t : Operand} {v : Value} {a b k : Int} (U : World) (ho : o.op = .extract t 1) (he : ev t = v) (h : v = .tuple #[rtv a b, .int .i64 k]) :
    (execOp ev o).run P U = .ok (.value (.int .i64 k)) U := by
  subst h
  unfold execOp
  rw [ho]
  simp only [he]
  rfl
section
variable {P : Program} {md : Region.Mode} {ops : Array Oper} {Q : Exit → Act → World → Prop} {R : World → Prop}
/-- An operation that yields a value and turns nothing is next. -/
theorem allG_value {f i : Nat} {listed : Array Bool} {a : Act} {W : World} {o : Oper} {rs : List Nat} (d : Option Tmp) (v : Value) (hd : o.dst = d) (ho : ops[i]? = some o) (hw : Region.wanted o (yielded ops a.tmps) = true)
    (he : ∀ U, (execOp a.eval o).run P U = .ok (.value v) U)
    (h : ∀ U, Fr0 W U → R U ∧ wpAnyG P md ops Q R f (listed.setIfInBounds i true) (a.put d v) U)
    (hs : AllG P md ops Q R f listed a W rs) : AllG P md ops Q R f listed a W (i :: rs) := by
  subst hd
  refine AllG.cons ho (fun U hU K hK => ?_) hs
  rw [if_pos hw]
  unfold Oper.wp
  rw [he U, Oper.upon_value]
  exact hK.out _ _ ⟨U, (h U hU).1, Fr.refl _ _, (h U hU).2⟩
/-- An operation that turns the world is next. -/
theorem allG_turn {f i : Nat} {listed : Array Bool} {a : Act} {W : World} {o : Oper} {rs : List Nat} (T : World → World) (ho : ops[i]? = some o) (hw : Region.wanted o (yielded ops a.tmps) = true) (hd : o.dst = none)
    (he : ∀ U, Fr0 W U → (execOp a.eval o).run P U = .ok .skip (T U))
    (h : ∀ U, Fr0 W U → R (T U) ∧ wpAnyG P md ops Q R f (listed.setIfInBounds i true) a (T U))
    (hs : AllG P md ops Q R f listed a W rs) : AllG P md ops Q R f listed a W (i :: rs) := by
  refine AllG.cons ho (fun U hU K hK => ?_) hs
  rw [if_pos hw]
  unfold Oper.wp
  rw [he U hU, Oper.upon_skip, hd]
  exact hK.out _ _ ⟨T U, (h U hU).1, Fr.refl _ _, (h U hU).2⟩
end
/-- A fraction, laid into its two cells. -/
def ratAt (b : Nat) (x y : Int) (U : World) : World := (U.setCell ⟨b, 0, none⟩ (.int .i64 x)).setCell ⟨b, 1, none⟩ (.int .i64 y)
theorem fr_ratAt {S : Nat → Prop} {a U : World} {b : Nat} (h : Fr S a U) (hb : b < a.heap.size → S b) (x y : Int) : Fr S a (ratAt b x y U) :=
  (h.setCell (p := ⟨b, 0, none⟩) hb _).setCell (p := ⟨b, 1, none⟩) hb _
theorem run_store {o : Oper} {ev : Operand → Value} {p q : Operand} {b : Nat} {x y : Int} {v1 v2 : Value} {U : World} {m n : Int} (ho : o.op = .store 23 p q) (h1 : ev p = v1) (e1 : v1 = .pointer (some ⟨b, 0, none⟩)) (h2 : ev q = v2) (e2 : v2 = rtv x y)
    (hb : U.heap[b]? = some (.cells (rtc m n) 23 (0, 0))) :
    (execOp ev o).run Try.prog U = .ok .skip (ratAt b x y U) := by
  subst e1; subst e2
  obtain ⟨c0, c1, f0, f1⟩ := two_facts hb
  unfold execOp
  rw [ho]
  simp only [h1, h2]
  go_simp
  rfl
section
variable {P : Program} {md : Region.Mode} {ops : Array Oper} {Q : Exit → Act → World → Prop} {R : World → Prop}
/-- An operation that makes a block is next. -/
theorem allG_make {f i : Nat} {listed : Array Bool} {a : Act} {W : World} {o : Oper} {rs : List Nat} (d : Option Tmp) (x : Obj) (hd : o.dst = d) (ho : ops[i]? = some o) (hw : Region.wanted o (yielded ops a.tmps) = true)
    (he : ∀ U : World, (execOp a.eval o).run P U = .ok (.value (.pointer (some ⟨U.heap.size, 0, none⟩))) (U.alloc x))
    (h : ∀ U, Fr0 W U → R (U.alloc x) ∧ wpAnyG P md ops Q R f (listed.setIfInBounds i true) (a.put d (.pointer (some ⟨U.heap.size, 0, none⟩))) (U.alloc x))
    (hs : AllG P md ops Q R f listed a W rs) : AllG P md ops Q R f listed a W (i :: rs) := by
  subst hd
  refine AllG.cons ho (fun U hU K hK => ?_) hs
  rw [if_pos hw]
  unfold Oper.wp
  rw [he U, Oper.upon_value]
  exact hK.out _ _ ⟨U.alloc x, (h U hU).1, Fr.refl _ _, (h U hU).2⟩
end
theorem run_alloc {o : Oper} {ev : Operand → Value} (ho : o.op = .alloc 23) (U : World) :
    (execOp ev o).run Try.prog U = .ok (.value (.pointer (some ⟨U.heap.size, 0, none⟩))) (U.alloc (.cells (rtc 0 0) 23)) := by
  unfold execOp
  rw [ho]
  go_simp
end Go.Proofs.Ytdakeenjeieekaa
