/- Words of this place's own: a frame with a set of blocks that may turn, slices that read as lists of cells, blocks known whole. No program in sight. -/
import Derived.Below
import Derived.OneCell
import Derived.WalkKit
import Derived.OwnWalk
import Derived.RangeFuncNested
import Derived.RangeFuncWrites
import Derived.Lib.Hide
import Derived.Deep.Draws
import Derived.Deep.QuietTactic
import Derived.BigQuiet
import Derived.StillTailTactics
import Derived.WalkSpells
import Derived.WalkLawsBesides
import Derived.RangeFuncBound
import Derived.RangeFuncCalls
import Derived.RangeFuncLeaves
import Derived.Shelf.Abstract
import Derived.Shelf.RegionOpen
import Derived.OwnWalkIn
import Derived.TacticsInMore
import Derived.LoopNIn
import Derived.LoopIn
import Derived.KernelRfl
import Derived.Deep.LoopGhost
import Derived.Deep.DeepFit
set_option linter.unusedVariables false
set_option linter.unusedSimpArgs false
namespace Go.Proofs.Ytdakeenjeieekaa
open Go.RowKit

/-- Of the blocks of w those outside S are in w' as they were. -/
structure Fr (S : Nat → Prop) (w w' : World) : Prop where
  os : w'.os = w.os
  tape : w'.tape = w.tape
  output : w'.output = w.output
  size : w.heap.size ≤ w'.heap.size
  block : ∀ k, k < w.heap.size → ¬ S k → w'.heap[k]? = w.heap[k]?

theorem Fr.refl (S : Nat → Prop) (w : World) : Fr S w w := ⟨rfl, rfl, rfl, Nat.le_refl _, fun _ _ _ => rfl⟩
theorem Fr.trans {S : Nat → Prop} {a b c : World} (h : Fr S a b) (k : Fr S b c) : Fr S a c :=
  ⟨k.os.trans h.os, k.tape.trans h.tape, k.output.trans h.output, Nat.le_trans h.size k.size,
   fun i hi hs => (k.block i (Nat.lt_of_lt_of_le hi h.size) hs).trans (h.block i hi hs)⟩
theorem Fr.mono {S T : Nat → Prop} {a b : World} (h : Fr S a b) (hst : ∀ k, k < a.heap.size → S k → T k) : Fr T a b :=
  ⟨h.os, h.tape, h.output, h.size, fun k hk hT => h.block k hk (fun hs => hT (hst k hk hs))⟩
/-- A step whose turned blocks are S's, or new ones. -/
theorem Fr.then {S T : Nat → Prop} {a b c : World} (h : Fr S a b) (k : Fr T b c) (ht : ∀ i, i < a.heap.size → T i → S i) : Fr S a c :=
  ⟨k.os.trans h.os, k.tape.trans h.tape, k.output.trans h.output, Nat.le_trans h.size k.size,
   fun i hi hs => (k.block i (Nat.lt_of_lt_of_le hi h.size) (fun hT => hs (ht i hi hT))).trans (h.block i hi hs)⟩
theorem Fr.grown {S : Nat → Prop} {a w w' : World} {row : Option Nat} (h : Fr S a w) (hg : w.grownBy w' row) (hr : ∀ k, k < a.heap.size → row = some k → S k) : Fr S a w' :=
  h.then (T := fun k => row = some k) ⟨hg.os, hg.tape, hg.output, hg.size, fun k hk hn => hg.block k hk (fun e => hn e.symm)⟩ hr
theorem Fr.alloc {S : Nat → Prop} {a w : World} (h : Fr S a w) (o : Obj) : Fr S a (w.alloc o) := h.grown (World.grownBy_alloc w o none) (by simp)
theorem Fr.setCell {S : Nat → Prop} {a w : World} (h : Fr S a w) {p : Addr} (hp : p.block < a.heap.size → S p.block) (u : Value) : Fr S a (w.setCell p u) :=
  h.then (T := fun k => k = p.block) ⟨rfl, rfl, rfl, by simp [World.setCell], fun k _ hk => Below.heap_setCell _ _ _ _ hk⟩ (fun i hi e => by subst e; exact hp hi)
theorem Fr.drew {S : Nat → Prop} {a w : World} (h : Fr S a w) : Fr S a w.drew := ⟨h.os, h.tape, h.output, h.size, h.block⟩
theorem Fr.drewN {S : Nat → Prop} {a w : World} (h : Fr S a w) (n : Nat) : Fr S a (w.drewN n) := ⟨h.os, h.tape, h.output, h.size, h.block⟩
theorem Fr.of_below {S : Nat → Prop} {n : Nat} {a w : World} (h : Below n a w) (hn : ∀ k, k < a.heap.size → n ≤ k → S k) : Fr S a w :=
  ⟨h.os, h.tape, h.output, h.size, fun k hk hs => h.block k (Nat.lt_of_not_le fun hle => hs (hn k hk hle))⟩
theorem Fr.below {S : Nat → Prop} {a w : World} (h : Fr S a w) (n : Nat) (hn : n ≤ a.heap.size) (hs : ∀ k, k < n → ¬ S k) : Below n a w :=
  ⟨h.os, h.tape, h.output, h.size, fun k hk => h.block k (Nat.lt_of_lt_of_le hk hn) (hs k hk)⟩
theorem Fr.cell {S : Nat → Prop} {a w : World} (h : Fr S a w) {p : Addr} {v : Value} (hc : a.cell? p = some v) (hs : ¬ S p.block) : w.cell? p = some v :=
  (World.cell?_of_block (h.block p.block (World.block_lt_of_cell? a p hc) hs)).trans hc
theorem Fr.blk {S : Nat → Prop} {a w : World} (h : Fr S a w) {b : Nat} {o : Obj} (hb : a.heap[b]? = some o) (hs : ¬ S b) : w.heap[b]? = some o :=
  (h.block b (lt_of_block hb) hs).trans hb

/-- Nothing turns. -/
abbrev Fr0 (w w' : World) : Prop := Fr (fun _ => False) w w'
theorem Fr0.below {w w' : World} (h : Fr0 w w') : Below w.heap.size w w' := Fr.below h _ (Nat.le_refl _) (fun _ _ h => h)
theorem Fr0.of_below {w w' : World} (h : Below w.heap.size w w') : Fr0 w w' := Fr.of_below h (fun k hk hn => absurd hk (by omega))
theorem Fr0.any {S : Nat → Prop} {w w' : World} (h : Fr0 w w') : Fr S w w' := h.mono (fun _ _ h => h.elim)

/-- The slice at A reads as these cells, in a block that is none of S's. -/
def Rd (S : Nat → Prop) (w : World) (A : Option Addr) (vs : List Value) : Prop :=
  vs = [] ∨ ∃ b off, A = some ⟨b, off, none⟩ ∧ ¬ S b ∧ ∀ i (h : i < vs.length), w.cell? ⟨b, off + i, none⟩ = some vs[i]
theorem Rd.nil (S : Nat → Prop) (w : World) (A : Option Addr) : Rd S w A [] := .inl rfl
theorem Rd.kept {S : Nat → Prop} {w w' : World} {A : Option Addr} {vs : List Value} (h : Rd S w A vs) (hf : Fr S w w') : Rd S w' A vs := by
  rcases h with h | ⟨b, off, rfl, hs, h⟩
  · exact .inl h
  · exact .inr ⟨b, off, rfl, hs, fun i hi => hf.cell (h i hi) hs⟩
theorem Rd.mono {S T : Nat → Prop} {w : World} {A : Option Addr} {vs : List Value} (h : Rd S w A vs) (ht : ∀ k, k < w.heap.size → T k → S k) : Rd T w A vs := by
  rcases h with h | ⟨b, off, rfl, hs, h⟩
  · exact .inl h
  · rcases Nat.eq_zero_or_pos vs.length with h0 | h0
    · exact .inl (List.length_eq_zero_iff.1 h0)
    · exact .inr ⟨b, off, rfl, fun hT => hs (ht b (World.block_lt_of_cell? _ _ (h 0 h0)) hT), h⟩
theorem Rd.at_ {S : Nat → Prop} {w : World} {b off : Nat} {vs : List Value} (h : Rd S w (some ⟨b, off, none⟩) vs) (i : Nat) (hi : i < vs.length) : w.cell? ⟨b, off + i, none⟩ = some vs[i] := by
  rcases h with h | ⟨b', off', e, hs, h⟩
  · subst h; simp at hi
  · cases e; exact h i hi
theorem Rd.some_ {S : Nat → Prop} {w : World} {A : Option Addr} {vs : List Value} (h : Rd S w A vs) (hn : 0 < vs.length) : ∃ b off, A = some ⟨b, off, none⟩ := by
  rcases h with h | ⟨b, off, e, hs, h⟩
  · subst h; simp at hn
  · exact ⟨b, off, e⟩

/-- A block known whole: its cells. -/
theorem cell_of_blk {w : World} {b : Nat} {cs : Array Value} {t : TypeId} {fr : Nat × Nat} (h : w.heap[b]? = some (.cells cs t fr)) (i : Nat) : w.cell? ⟨b, i, none⟩ = cs[i]? := by simp [World.cell?, h]
theorem free_of_blk {w : World} {b : Nat} {cs : Array Value} {t : TypeId} (h : w.heap[b]? = some (.cells cs t (0, 0))) (i : Nat) : w.frozen? ⟨b, i, none⟩ = false := by simp [World.frozen?, h]
theorem blk_setCell {w : World} {b : Nat} {cs : Array Value} {t : TypeId} {fr : Nat × Nat} (h : w.heap[b]? = some (.cells cs t fr)) (i : Nat) (u : Value) : (w.setCell ⟨b, i, none⟩ u).heap[b]? = some (.cells (cs.setIfInBounds i u) t fr) := by
  have hlt := lt_of_block h
  have h' : w.heap[b] = .cells cs t fr := by simpa [Array.getElem?_eq_getElem hlt] using h
  show (w.heap.modify b _)[b]? = _
  rw [Array.getElem?_eq_getElem (by simpa using hlt), Array.getElem_modify_self, h']
  rfl
theorem blk_drew {w : World} {b : Nat} {o : Obj} (h : w.heap[b]? = some o) : w.drew.heap[b]? = some o := h
theorem blk_setCell_other {w : World} {b : Nat} {o : Obj} (h : w.heap[b]? = some o) {p : Addr} (hp : p.block ≠ b) (u : Value) : (w.setCell p u).heap[b]? = some o := (Below.heap_setCell _ _ _ _ (Ne.symm hp)).trans h
theorem blk_alloc {w : World} {b : Nat} {o : Obj} (h : w.heap[b]? = some o) (o' : Obj) : (w.alloc o').heap[b]? = some o := (Below.heap_alloc _ _ _ (lt_of_block h)).trans h
theorem blk_grown {w w' : World} {b : Nat} {o : Obj} {row : Option Nat} (h : w.heap[b]? = some o) (hg : w.grownBy w' row) (hne : some b ≠ row) : w'.heap[b]? = some o := (hg.block b (lt_of_block h) hne).trans h

/-- What a round over an iterator keeps: every cell outside of S. -/
def Ck (S : Nat → Prop) (w w' : World) : Prop := ∀ p v, ¬ S p.block → w.cell? p = some v → w'.cell? p = some v
theorem Ck.refl (S : Nat → Prop) (w : World) : Ck S w w := fun _ _ _ h => h
theorem Ck.trans {S : Nat → Prop} {a b c : World} (h : Ck S a b) (k : Ck S b c) : Ck S a c := fun p v hs hc => k p v hs (h p v hs hc)
theorem Ck.of_fr {S : Nat → Prop} {a b : World} (h : Fr S a b) : Ck S a b := fun p v hs hc => h.cell hc hs
theorem Ck.putObj {S : Nat → Prop} (W : World) (l : Nat) (o o' : Obj) (h : W.heap[l]? = some o) (ho : o.isCells = false) : Ck S W (W.putObj l o') := by
  intro p v _ hc
  have hne : p.block ≠ l := by
    intro e
    simp only [World.cell?, e, h] at hc
    cases o <;> simp_all [Obj.isCells]
  exact (World.cell?_of_block (World.putObj_heap_other hne)).trans hc
theorem Rd.ck {S : Nat → Prop} {w w' : World} {A : Option Addr} {vs : List Value} (h : Rd S w A vs) (hf : Ck S w w') : Rd S w' A vs := by
  rcases h with h | ⟨b, off, rfl, hs, h⟩
  · exact .inl h
  · exact .inr ⟨b, off, rfl, hs, fun i hi => hf _ _ hs (h i hi)⟩

/-- Bytes as cells. -/
def u8s (bs : List UInt8) : List Value := bs.map fun x => .int .u8 (x.toNat : Int)
theorem u8s_length (bs : List UInt8) : (u8s bs).length = bs.length := by simp [u8s]
/-- A value that is a slice of bytes. -/
def RdB (S : Nat → Prop) (w : World) (v : Value) (bs : List UInt8) : Prop := ∃ A c, v = .slice A bs.length c ∧ Rd S w A (u8s bs)
theorem RdB.ck {S : Nat → Prop} {w w' : World} {v : Value} {bs : List UInt8} (h : RdB S w v bs) (hf : Ck S w w') : RdB S w' v bs := by obtain ⟨A, c, e, h⟩ := h; exact ⟨A, c, e, h.ck hf⟩
theorem RdB.kept {S : Nat → Prop} {w w' : World} {v : Value} {bs : List UInt8} (h : RdB S w v bs) (hf : Fr S w w') : RdB S w' v bs := h.ck (.of_fr hf)
theorem RdB.mono {S T : Nat → Prop} {w : World} {v : Value} {bs : List UInt8} (h : RdB S w v bs) (ht : ∀ k, k < w.heap.size → T k → S k) : RdB T w v bs := by obtain ⟨A, c, e, h⟩ := h; exact ⟨A, c, e, h.mono ht⟩
/-- A value that is a slice of slices of bytes. -/
def RdBB (S : Nat → Prop) (w : World) (v : Value) (l : List (List UInt8)) : Prop :=
  ∃ A c vs, v = .slice A l.length c ∧ vs.length = l.length ∧ Rd S w A vs ∧ ∀ i (h : i < vs.length) (h' : i < l.length), RdB S w vs[i] l[i]
theorem RdBB.ck {S : Nat → Prop} {w w' : World} {v : Value} {l : List (List UInt8)} (h : RdBB S w v l) (hf : Ck S w w') : RdBB S w' v l := by
  obtain ⟨A, c, vs, e, hl, h, hr⟩ := h; exact ⟨A, c, vs, e, hl, h.ck hf, fun i h h' => (hr i h h').ck hf⟩
theorem RdBB.kept {S : Nat → Prop} {w w' : World} {v : Value} {l : List (List UInt8)} (h : RdBB S w v l) (hf : Fr S w w') : RdBB S w' v l := h.ck (.of_fr hf)
theorem RdBB.mono {S T : Nat → Prop} {w : World} {v : Value} {l : List (List UInt8)} (h : RdBB S w v l) (ht : ∀ k, k < w.heap.size → T k → S k) : RdBB T w v l := by
  obtain ⟨A, c, vs, e, hl, h, hr⟩ := h; exact ⟨A, c, vs, e, hl, h.mono ht, fun i h h' => (hr i h h').mono ht⟩

theorem ret_int {k : IntKind} {a b : Int} (h : a = b) : Ending.returned (.int k a) = .returned (.int k b) := by rw [h]
theorem ret_bool {a b : Bool} (h : a = b) : Ending.returned (.bool a) = .returned (.bool b) := by rw [h]

end Go.Proofs.Ytdakeenjeieekaa
