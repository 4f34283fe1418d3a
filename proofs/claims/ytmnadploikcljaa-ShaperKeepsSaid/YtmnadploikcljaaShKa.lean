/- Chapter 13: three rows of a call's own beside a shaper (what came, what went, what was sent). -/
import Derived.Test.YtmnadploikcljaaShU
import Derived.Test.YtmnadploikcljaaBkM
set_option linter.unusedVariables false
set_option linter.unusedSimpArgs false
namespace Go.Proofs.Ytmnadploikcljaa
open Go.RowKit

theorem own_types {w : World} {base base' e e' n n' : Nat} {v v' : Value} {xs xs' : List Value} (h : w.ownsRow base e 2 v n xs) (h' : w.ownsRow base' e' 2 v' n' xs') (he : e ≠ e') : ∀ q, v.ownBlock = some q → ¬ v'.ownBlock = some q := fun q hq hq' => by
  obtain ⟨_, cs, hc⟩ := own_blk h hq
  obtain ⟨_, cs', hc'⟩ := own_blk h' hq'
  rw [hc] at hc'
  simp at hc'
  exact he hc'.2
structure Rows3 (w wr : World) (b m : Nat) (X : Sh) (C W T : List (Int × Int)) (v7 v8 v9 : Value) : Prop where
  o7 : wr.ownsRow (w.heap.size + 1) 33 2 v7 C.length (sends C)
  o8 : wr.ownsRow (w.heap.size + 1) 33 2 v8 W.length (sends W)
  o9 : wr.ownsRow (w.heap.size + 1) 40 2 v9 T.length (sends T)
  sh : IsShT (fun q => (some q = v7.ownBlock ∨ some q = v8.ownBlock) ∨ some q = v9.ownBlock) wr b m X
  ne : ∀ q, v8.ownBlock = some q → ¬ v7.ownBlock = some q
  fr : Fr0 w wr
theorem Rows3.kept0 {w wr w' : World} {b m : Nat} {X : Sh} {C W T : List (Int × Int)} {v7 v8 v9 : Value} (h : Rows3 w wr b m X C W T v7 v8 v9) (hf : Fr0 wr w') : Rows3 w w' b m X C W T v7 v8 v9 :=
  ⟨own_kept0 h.o7 hf, own_kept0 h.o8 hf, own_kept0 h.o9 hf, h.sh.kept0 hf, h.ne, h.fr.trans hf⟩
/-- A call on the shaper. -/
theorem Rows3.turn {w wr w' : World} {b m : Nat} {X X' : Sh} {C W T : List (Int × Int)} {v7 v8 v9 : Value} (h : Rows3 w wr b m X C W T v7 v8 v9) (hbm : w.heap.size + 1 ≤ b ∧ w.heap.size + 1 ≤ m) (hf : Fr (ShS b m) wr w')
    (hx : IsShT (fun q => (some q = v7.ownBlock ∨ some q = v8.ownBlock) ∨ some q = v9.ownBlock) w' b m X') : Rows3 w w' b m X' C W T v7 v8 v9 :=
  ⟨own_kept h.o7 hf (fun q hq => own_not_sh h.o7 h.sh.sh hq), own_kept h.o8 hf (fun q hq => own_not_sh h.o8 h.sh.sh hq), own_kept h.o9 hf (fun q hq => own_not_shE (by decide) h.o9 h.sh.sh hq), hx, h.ne,
   h.fr.then hf (fun q hq e => by rcases e with e | e <;> omega)⟩
theorem Rows3.low {w wr : World} {b m : Nat} {X : Sh} {C W T : List (Int × Int)} {v7 v8 v9 : Value} (h : Rows3 w wr b m X C W T v7 v8 v9) : ∀ k, wr.heap.size ≤ k → ¬ ((some k = v7.ownBlock ∨ some k = v8.ownBlock) ∨ some k = v9.ownBlock) := fun k hk e => by
  rcases e with (e | e) | e
  · exact own_lt h.o7 k hk e
  · exact own_lt h.o8 k hk e
  · exact own_lt h.o9 k hk e
theorem Rows3.push7 {w wr w' : World} {b m : Nat} {X : Sh} {C C' W T : List (Int × Int)} {v7 v8 v9 v' : Value} (h : Rows3 w wr b m X C W T v7 v8 v9) (ho : w'.ownsRow (w.heap.size + 1) 33 2 v' C'.length (sends C')) (hg : wr.grownBy w' v7.ownBlock) (hat : v'.ownBlock = v7.ownBlock ∨ v'.ownBlock = some wr.heap.size) : Rows3 w w' b m X C' W T v' v8 v9 := by
  have hgr : Fr (fun q => some q = v7.ownBlock) wr w' := (Fr.refl _ wr).grown hg (fun q _ e => e.symm)
  refine ⟨ho, own_kept h.o8 hgr (fun q hq e => h.ne q hq e.symm), own_kept h.o9 hgr (fun q hq e => own_types h.o9 h.o7 (by decide) q hq e.symm), ?_, ?_, h.fr.grown hg (fun q hq e => by have := (own_blk h.o7 e).1; omega)⟩
  · refine (sh_push (T := fun q => some q = v8.ownBlock ∨ some q = v9.ownBlock) h.o7 (h.sh.mono ?_) hg hat).mono ?_
    · rintro k _ ((e | e) | e)
      · exact .inl (.inr e)
      · exact .inr e
      · exact .inl (.inl e)
    · rintro k _ ((e | e) | e)
      · exact .inr e
      · exact .inl (.inl e)
      · exact .inl (.inr e)
  · intro q hq e
    rcases hat with h2 | h2
    · exact h.ne q hq (h2.symm.trans e)
    · exact own_lt h.o8 q (by have := h2.symm.trans e; simp at this; omega) hq.symm
theorem Rows3.push8 {w wr w' : World} {b m : Nat} {X : Sh} {C W W' T : List (Int × Int)} {v7 v8 v9 v' : Value} (h : Rows3 w wr b m X C W T v7 v8 v9) (ho : w'.ownsRow (w.heap.size + 1) 33 2 v' W'.length (sends W')) (hg : wr.grownBy w' v8.ownBlock) (hat : v'.ownBlock = v8.ownBlock ∨ v'.ownBlock = some wr.heap.size) : Rows3 w w' b m X C W' T v7 v' v9 := by
  have hgr : Fr (fun q => some q = v8.ownBlock) wr w' := (Fr.refl _ wr).grown hg (fun q _ e => e.symm)
  refine ⟨own_kept h.o7 hgr (fun q hq e => h.ne q e.symm hq), ho, own_kept h.o9 hgr (fun q hq e => own_types h.o9 h.o8 (by decide) q hq e.symm), ?_, ?_, h.fr.grown hg (fun q hq e => by have := (own_blk h.o8 e).1; omega)⟩
  · refine (sh_push (T := fun q => some q = v7.ownBlock ∨ some q = v9.ownBlock) h.o8 (h.sh.mono ?_) hg hat).mono ?_
    · rintro k _ ((e | e) | e)
      · exact .inl (.inl e)
      · exact .inr e
      · exact .inl (.inr e)
    · rintro k _ ((e | e) | e)
      · exact .inl (.inl e)
      · exact .inr e
      · exact .inl (.inr e)
  · intro q hq e
    rcases hat with h2 | h2
    · exact h.ne q (h2.symm.trans hq) e
    · exact own_lt h.o7 q (by have := h2.symm.trans hq; simp at this; omega) e.symm
theorem Rows3.push9 {w wr w' : World} {b m : Nat} {X : Sh} {C W T T' : List (Int × Int)} {v7 v8 v9 v' : Value} (h : Rows3 w wr b m X C W T v7 v8 v9) (ho : w'.ownsRow (w.heap.size + 1) 40 2 v' T'.length (sends T')) (hg : wr.grownBy w' v9.ownBlock) (hat : v'.ownBlock = v9.ownBlock ∨ v'.ownBlock = some wr.heap.size) : Rows3 w w' b m X C W T' v7 v8 v' := by
  have hgr : Fr (fun q => some q = v9.ownBlock) wr w' := (Fr.refl _ wr).grown hg (fun q _ e => e.symm)
  refine ⟨own_kept h.o7 hgr (fun q hq e => own_types h.o7 h.o9 (by decide) q hq e.symm), own_kept h.o8 hgr (fun q hq e => own_types h.o8 h.o9 (by decide) q hq e.symm), ho, ?_, h.ne, h.fr.grown hg (fun q hq e => by have := (own_blk h.o9 e).1; omega)⟩
  exact sh_pushE (T := fun q => some q = v7.ownBlock ∨ some q = v8.ownBlock) (by decide) h.o9 h.sh hg hat
theorem rd_push {T : Nat → Prop} {w w' : World} {A : Option Addr} {vs : List Value} {v v' : Value} (h : Rd (fun q => T q ∨ some q = v.ownBlock) w A vs) (hg : w.grownBy w' v.ownBlock) (hat : v'.ownBlock = v.ownBlock ∨ v'.ownBlock = some w.heap.size) : Rd (fun q => T q ∨ some q = v'.ownBlock) w' A vs := by
  have hgr : Fr (fun q => some q = v.ownBlock) w w' := (Fr.refl _ w).grown hg (fun q _ e => e.symm)
  have h1 : Rd (fun q => (T q ∨ some q = v'.ownBlock) ∨ some q = v.ownBlock) w A vs := h.mono (fun k hk e => by
    rcases e with (e | e) | e
    · exact .inl e
    · rcases hat with h | h
      · exact .inr (e.trans h)
      · have := e.trans h
        simp at this
        omega
    · exact .inr e)
  exact (h1.kept (hgr.mono (fun q _ e => .inr e))).mono (fun _ _ h => .inl h)
theorem go_facts {X X' : Sh} {O : List (Int × Int)} {er t : Int} (h : GoS X t X' O er) (he : er = 0) : X.L = O ++ X'.L ∧ X'.t = X.t ++ tag t O ∧ X'.s = X.s ∧ (0 < X'.L.length → ¬ Keeps X.s (X'.t ++ [(t, sz_ X'.L 0)])) := by
  unfold GoS at h
  split at h
  · obtain ⟨_, rfl, B, _, rfl⟩ := h
    refine ⟨(List.take_append_drop _ _).symm, rfl, rfl, fun hl => ?_⟩
    have hl' : goN X.s t X.t X.L < X.L.length := by simp [goX] at hl; omega
    have e : sz_ (goX X t (goN X.s t X.t X.L) B).L 0 = sz_ X.L (goN X.s t X.t X.L) := (at_drop X.L _ hl').2
    rw [e]
    exact goN_max hl'
  · rw [h.1] at he; cases he
theorem go_not {X X' : Sh} {O : List (Int × Int)} {er t : Int} (h : GoS X t X' O er) (he : er ≠ 0) : X' = X := by
  unfold GoS at h
  split at h
  · exact absurd h.1 he
  · exact h.2.2
theorem sz_app0 (W L : List (Int × Int)) (h : 0 < L.length) : sz_ (W ++ L) W.length = sz_ L 0 := by
  cases L with
  | nil => simp at h
  | cons x D => simp [sz_]
/-- append as a step of a region that draws, where a guard asks for it. -/
theorem step_appG {P : Program} {w : World} {base : Nat} {e : TypeId} {size bytes : Nat} {ops : Array Oper} {o : Oper} {a : Act} {K : Act → World → Prop} {Q : Exit → Act → World → Prop} {E : Prop} (hw : Region.wanted o (yielded ops a.tmps) = true) (s x : Operand) (t : TypeId)
    (ho : o.op = .call { callee := .builtin .append, args := #[s, x], argTypes := #[t, t] })
    (ht : P.underlying t = some (.slice e)) (he : Elem P e size bytes) (v : Value) (n : Nat) (xs : List Value) (hs : a.eval s = v) (hown : w.ownsRow base e size v n xs)
    (S : Nat → Prop) (A : Option Addr) (m c : Nat) (news : List Value) (hx : a.eval x = .slice A m c) (hr : Rd S w A news) (hl : news.length = m * size) (h1 : ∀ u ∈ news, u.oneCell' = true)
    (h63 : n + m ≤ maxLen) (hbytes : (n + m) * bytes ≤ 140737488355328) (hbase : base ≤ w.heap.size) (hm : A = none → m = 0)
    (h : ∀ v' w', w'.ownsRow base e size v' (n + m) (xs ++ news) → w.grownBy w' v.ownBlock → (v'.ownBlock = v.ownBlock ∨ v'.ownBlock = some w.heap.size) → K (a.put o.dst v') w') :
    if Region.wanted o (yielded ops a.tmps) = true then Oper.wp P o a w K Q else E := by
  rw [if_pos hw]
  obtain ⟨v', w', hrun, h2, h3, h4⟩ := append_run (P := P) t o.type ht he v n xs hown S A m c news hr hl h1 h63 hbytes hbase hm
  unfold Oper.wp execOp
  simp only [ho, resolve, invoke, builtin, Sem.run_bind, Sem.run_pure, Result.andThen_ok, List.map_toArray, List.map_cons, List.map_nil, hs, hx, hrun]
  exact h v' w' h2 h3 h4
/-- What was there is there behind an append. -/
theorem blk_push {wr U w' : World} {k base n : Nat} {e : TypeId} {o : Obj} {v : Value} {xs : List Value} (hb : wr.heap[k]? = some o) (hf : Fr0 wr U) (ho : U.ownsRow base e 2 v n xs) (hk : k < base) (hg : U.grownBy w' v.ownBlock) : w'.heap[k]? = some o :=
  blk_grown (hf.blk hb (fun h => h)) hg (fun e => by have := (own_blk ho e.symm).1; omega)
theorem Rd.pre {S : Nat → Prop} {w : World} {A : Option Addr} {xs ys : List Value} (h : Rd S w A (xs ++ ys)) : Rd S w A xs := by
  rcases h with h | ⟨b, off, rfl, hs, h⟩
  · exact .inl (by simp at h; exact h.1)
  · refine .inr ⟨b, off, rfl, hs, fun i hi => ?_⟩
    have := h i (by simp; omega)
    rw [this, List.getElem_append_left hi]
end Go.Proofs.Ytmnadploikcljaa
