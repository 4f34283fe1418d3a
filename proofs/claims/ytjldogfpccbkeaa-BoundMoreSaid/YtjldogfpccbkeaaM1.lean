/- Several texts in one: Base Mem Region RegB RegC RegG RegH Open. -/
import Derived.Below
import Derived.OneCell
import Derived.WalkKit
import Derived.OwnWalk
import Derived.RangeFuncNested
import Derived.RangeFuncWrites
import Derived.Lib.Hide
import Derived.Deep.Draws
import Derived.Deep.QuietTactic
import Derived.BigQuiet
import Derived.StillTailTactics
import Derived.WalkSpells
import Derived.WalkLawsBesides
import Derived.RangeFuncBound
import Derived.RangeFuncCalls
import Derived.RangeFuncLeaves
import Derived.Shelf.Abstract
import Derived.Shelf.RegionOpen
import Derived.OwnWalkIn
import Derived.TacticsInMore
import Derived.LoopNIn
import Derived.LoopIn
import Derived.KernelRfl
import Derived.Deep.LoopGhost
import Derived.Deep.DeepFit
import Derived.Maps.AppendAt
import Derived.Deep.AppendLies
import Derived.RegionTactic
import Derived.Deep.Onto
import Derived.Deep.RegionLaw
import Derived.OrdersIn
import Derived.ScopeJumps
import Derived.Deep.RegionHeld
import Derived.ProofKit
import Derived.OpenShut
import Derived.ShutString
import Derived.ChangeOld
import Derived.SizedLaws
/- Words of this place's own: a frame with a set of blocks that may turn, slices that read as lists of cells, blocks known whole. No program in sight. -/
set_option linter.unusedVariables false
set_option linter.unusedSimpArgs false
namespace Go.Proofs.Ytjldogfpccbkeaa
open Go.RowKit

/-- Of the blocks of w those outside S are in w' as they were. -/
structure Fr (S : Nat → Prop) (w w' : World) : Prop where
  os : w'.os = w.os
  tape : w'.tape = w.tape
  output : w'.output = w.output
  size : w.heap.size ≤ w'.heap.size
  block : ∀ k, k < w.heap.size → ¬ S k → w'.heap[k]? = w.heap[k]?

theorem Fr.refl (S : Nat → Prop) (w : World) : Fr S w w := ⟨rfl, rfl, rfl, Nat.le_refl _, fun _ _ _ => rfl⟩
theorem Fr.trans {S : Nat → Prop} {a b c : World} (h : Fr S a b) (k : Fr S b c) : Fr S a c :=
  ⟨k.os.trans h.os, k.tape.trans h.tape, k.output.trans h.output, Nat.le_trans h.size k.size,
   fun i hi hs => (k.block i (Nat.lt_of_lt_of_le hi h.size) hs).trans (h.block i hi hs)⟩
theorem Fr.mono {S T : Nat → Prop} {a b : World} (h : Fr S a b) (hst : ∀ k, k < a.heap.size → S k → T k) : Fr T a b :=
  ⟨h.os, h.tape, h.output, h.size, fun k hk hT => h.block k hk (fun hs => hT (hst k hk hs))⟩
/-- A step whose turned blocks are S's, or new ones. -/
theorem Fr.then {S T : Nat → Prop} {a b c : World} (h : Fr S a b) (k : Fr T b c) (ht : ∀ i, i < a.heap.size → T i → S i) : Fr S a c :=
  ⟨k.os.trans h.os, k.tape.trans h.tape, k.output.trans h.output, Nat.le_trans h.size k.size,
   fun i hi hs => (k.block i (Nat.lt_of_lt_of_le hi h.size) (fun hT => hs (ht i hi hT))).trans (h.block i hi hs)⟩
theorem Fr.grown {S : Nat → Prop} {a w w' : World} {row : Option Nat} (h : Fr S a w) (hg : w.grownBy w' row) (hr : ∀ k, k < a.heap.size → row = some k → S k) : Fr S a w' :=
  h.then (T := fun k => row = some k) ⟨hg.os, hg.tape, hg.output, hg.size, fun k hk hn => hg.block k hk (fun e => hn e.symm)⟩ hr
theorem Fr.alloc {S : Nat → Prop} {a w : World} (h : Fr S a w) (o : Obj) : Fr S a (w.alloc o) := h.grown (World.grownBy_alloc w o none) (by simp)
theorem Fr.setCell {S : Nat → Prop} {a w : World} (h : Fr S a w) {p : Addr} (hp : p.block < a.heap.size → S p.block) (u : Value) : Fr S a (w.setCell p u) :=
  h.then (T := fun k => k = p.block) ⟨rfl, rfl, rfl, by simp [World.setCell], fun k _ hk => Below.heap_setCell _ _ _ _ hk⟩ (fun i hi e => by subst e; exact hp hi)
theorem Fr.drew {S : Nat → Prop} {a w : World} (h : Fr S a w) : Fr S a w.drew := ⟨h.os, h.tape, h.output, h.size, h.block⟩
theorem Fr.drewN {S : Nat → Prop} {a w : World} (h : Fr S a w) (n : Nat) : Fr S a (w.drewN n) := ⟨h.os, h.tape, h.output, h.size, h.block⟩
theorem Fr.of_below {S : Nat → Prop} {n : Nat} {a w : World} (h : Below n a w) (hn : ∀ k, k < a.heap.size → n ≤ k → S k) : Fr S a w :=
  ⟨h.os, h.tape, h.output, h.size, fun k hk hs => h.block k (Nat.lt_of_not_le fun hle => hs (hn k hk hle))⟩
theorem Fr.below {S : Nat → Prop} {a w : World} (h : Fr S a w) (n : Nat) (hn : n ≤ a.heap.size) (hs : ∀ k, k < n → ¬ S k) : Below n a w :=
  ⟨h.os, h.tape, h.output, h.size, fun k hk => h.block k (Nat.lt_of_lt_of_le hk hn) (hs k hk)⟩
theorem Fr.cell {S : Nat → Prop} {a w : World} (h : Fr S a w) {p : Addr} {v : Value} (hc : a.cell? p = some v) (hs : ¬ S p.block) : w.cell? p = some v :=
  (World.cell?_of_block (h.block p.block (World.block_lt_of_cell? a p hc) hs)).trans hc
theorem Fr.blk {S : Nat → Prop} {a w : World} (h : Fr S a w) {b : Nat} {o : Obj} (hb : a.heap[b]? = some o) (hs : ¬ S b) : w.heap[b]? = some o :=
  (h.block b (lt_of_block hb) hs).trans hb

/-- Nothing turns. -/
abbrev Fr0 (w w' : World) : Prop := Fr (fun _ => False) w w'
theorem Fr0.below {w w' : World} (h : Fr0 w w') : Below w.heap.size w w' := Fr.below h _ (Nat.le_refl _) (fun _ _ h => h)
theorem Fr0.of_below {w w' : World} (h : Below w.heap.size w w') : Fr0 w w' := Fr.of_below h (fun k hk hn => absurd hk (by omega))
theorem Fr0.any {S : Nat → Prop} {w w' : World} (h : Fr0 w w') : Fr S w w' := h.mono (fun _ _ h => h.elim)

/-- The slice at A reads as these cells, in a block that is none of S's. -/
def Rd (S : Nat → Prop) (w : World) (A : Option Addr) (vs : List Value) : Prop :=
  vs = [] ∨ ∃ b off, A = some ⟨b, off, none⟩ ∧ ¬ S b ∧ ∀ i (h : i < vs.length), w.cell? ⟨b, off + i, none⟩ = some vs[i]
theorem Rd.nil (S : Nat → Prop) (w : World) (A : Option Addr) : Rd S w A [] := .inl rfl
theorem Rd.kept {S : Nat → Prop} {w w' : World} {A : Option Addr} {vs : List Value} (h : Rd S w A vs) (hf : Fr S w w') : Rd S w' A vs := by
  rcases h with h | ⟨b, off, rfl, hs, h⟩
  · exact .inl h
  · exact .inr ⟨b, off, rfl, hs, fun i hi => hf.cell (h i hi) hs⟩
theorem Rd.mono {S T : Nat → Prop} {w : World} {A : Option Addr} {vs : List Value} (h : Rd S w A vs) (ht : ∀ k, k < w.heap.size → T k → S k) : Rd T w A vs := by
  rcases h with h | ⟨b, off, rfl, hs, h⟩
  · exact .inl h
  · rcases Nat.eq_zero_or_pos vs.length with h0 | h0
    · exact .inl (List.length_eq_zero_iff.1 h0)
    · exact .inr ⟨b, off, rfl, fun hT => hs (ht b (World.block_lt_of_cell? _ _ (h 0 h0)) hT), h⟩
theorem Rd.at_ {S : Nat → Prop} {w : World} {b off : Nat} {vs : List Value} (h : Rd S w (some ⟨b, off, none⟩) vs) (i : Nat) (hi : i < vs.length) : w.cell? ⟨b, off + i, none⟩ = some vs[i] := by
  rcases h with h | ⟨b', off', e, hs, h⟩
  · subst h; simp at hi
  · cases e; exact h i hi
theorem Rd.some_ {S : Nat → Prop} {w : World} {A : Option Addr} {vs : List Value} (h : Rd S w A vs) (hn : 0 < vs.length) : ∃ b off, A = some ⟨b, off, none⟩ := by
  rcases h with h | ⟨b, off, e, hs, h⟩
  · subst h; simp at hn
  · exact ⟨b, off, e⟩

/-- A block known whole: its cells. -/
theorem cell_of_blk {w : World} {b : Nat} {cs : Array Value} {t : TypeId} {fr : Nat × Nat} (h : w.heap[b]? = some (.cells cs t fr)) (i : Nat) : w.cell? ⟨b, i, none⟩ = cs[i]? := by simp [World.cell?, h]
theorem free_of_blk {w : World} {b : Nat} {cs : Array Value} {t : TypeId} (h : w.heap[b]? = some (.cells cs t (0, 0))) (i : Nat) : w.frozen? ⟨b, i, none⟩ = false := by simp [World.frozen?, h]
theorem blk_setCell {w : World} {b : Nat} {cs : Array Value} {t : TypeId} {fr : Nat × Nat} (h : w.heap[b]? = some (.cells cs t fr)) (i : Nat) (u : Value) : (w.setCell ⟨b, i, none⟩ u).heap[b]? = some (.cells (cs.setIfInBounds i u) t fr) := by
  have hlt := lt_of_block h
  have h' : w.heap[b] = .cells cs t fr := by simpa [Array.getElem?_eq_getElem hlt] using h
  show (w.heap.modify b _)[b]? = _
  rw [Array.getElem?_eq_getElem (by simpa using hlt), Array.getElem_modify_self, h']
  rfl
theorem blk_drew {w : World} {b : Nat} {o : Obj} (h : w.heap[b]? = some o) : w.drew.heap[b]? = some o := h
theorem blk_setCell_other {w : World} {b : Nat} {o : Obj} (h : w.heap[b]? = some o) {p : Addr} (hp : p.block ≠ b) (u : Value) : (w.setCell p u).heap[b]? = some o := (Below.heap_setCell _ _ _ _ (Ne.symm hp)).trans h
theorem blk_alloc {w : World} {b : Nat} {o : Obj} (h : w.heap[b]? = some o) (o' : Obj) : (w.alloc o').heap[b]? = some o := (Below.heap_alloc _ _ _ (lt_of_block h)).trans h
theorem blk_grown {w w' : World} {b : Nat} {o : Obj} {row : Option Nat} (h : w.heap[b]? = some o) (hg : w.grownBy w' row) (hne : some b ≠ row) : w'.heap[b]? = some o := (hg.block b (lt_of_block h) hne).trans h

/-- What a round over an iterator keeps: every cell outside of S. -/
def Ck (S : Nat → Prop) (w w' : World) : Prop := ∀ p v, ¬ S p.block → w.cell? p = some v → w'.cell? p = some v
theorem Ck.refl (S : Nat → Prop) (w : World) : Ck S w w := fun _ _ _ h => h
theorem Ck.trans {S : Nat → Prop} {a b c : World} (h : Ck S a b) (k : Ck S b c) : Ck S a c := fun p v hs hc => k p v hs (h p v hs hc)
theorem Ck.of_fr {S : Nat → Prop} {a b : World} (h : Fr S a b) : Ck S a b := fun p v hs hc => h.cell hc hs
theorem Ck.putObj {S : Nat → Prop} (W : World) (l : Nat) (o o' : Obj) (h : W.heap[l]? = some o) (ho : o.isCells = false) : Ck S W (W.putObj l o') := by
  intro p v _ hc
  have hne : p.block ≠ l := by
    intro e
    simp only [World.cell?, e, h] at hc
    cases o <;> simp_all [Obj.isCells]
  exact (World.cell?_of_block (World.putObj_heap_other hne)).trans hc
theorem Rd.ck {S : Nat → Prop} {w w' : World} {A : Option Addr} {vs : List Value} (h : Rd S w A vs) (hf : Ck S w w') : Rd S w' A vs := by
  rcases h with h | ⟨b, off, rfl, hs, h⟩
  · exact .inl h
  · exact .inr ⟨b, off, rfl, hs, fun i hi => hf _ _ hs (h i hi)⟩

/-- Bytes as cells. -/
def u8s (bs : List UInt8) : List Value := bs.map fun x => .int .u8 (x.toNat : Int)
theorem u8s_length (bs : List UInt8) : (u8s bs).length = bs.length := by simp [u8s]
/-- A value that is a slice of bytes. -/
def RdB (S : Nat → Prop) (w : World) (v : Value) (bs : List UInt8) : Prop := ∃ A c, v = .slice A bs.length c ∧ Rd S w A (u8s bs)
theorem RdB.ck {S : Nat → Prop} {w w' : World} {v : Value} {bs : List UInt8} (h : RdB S w v bs) (hf : Ck S w w') : RdB S w' v bs := by obtain ⟨A, c, e, h⟩ := h; exact ⟨A, c, e, h.ck hf⟩
theorem RdB.kept {S : Nat → Prop} {w w' : World} {v : Value} {bs : List UInt8} (h : RdB S w v bs) (hf : Fr S w w') : RdB S w' v bs := h.ck (.of_fr hf)
theorem RdB.mono {S T : Nat → Prop} {w : World} {v : Value} {bs : List UInt8} (h : RdB S w v bs) (ht : ∀ k, k < w.heap.size → T k → S k) : RdB T w v bs := by obtain ⟨A, c, e, h⟩ := h; exact ⟨A, c, e, h.mono ht⟩
/-- A value that is a slice of slices of bytes. -/
def RdBB (S : Nat → Prop) (w : World) (v : Value) (l : List (List UInt8)) : Prop :=
  ∃ A c vs, v = .slice A l.length c ∧ vs.length = l.length ∧ Rd S w A vs ∧ ∀ i (h : i < vs.length) (h' : i < l.length), RdB S w vs[i] l[i]
theorem RdBB.ck {S : Nat → Prop} {w w' : World} {v : Value} {l : List (List UInt8)} (h : RdBB S w v l) (hf : Ck S w w') : RdBB S w' v l := by
  obtain ⟨A, c, vs, e, hl, h, hr⟩ := h; exact ⟨A, c, vs, e, hl, h.ck hf, fun i h h' => (hr i h h').ck hf⟩
theorem RdBB.kept {S : Nat → Prop} {w w' : World} {v : Value} {l : List (List UInt8)} (h : RdBB S w v l) (hf : Fr S w w') : RdBB S w' v l := h.ck (.of_fr hf)
theorem RdBB.mono {S T : Nat → Prop} {w : World} {v : Value} {l : List (List UInt8)} (h : RdBB S w v l) (ht : ∀ k, k < w.heap.size → T k → S k) : RdBB T w v l := by
  obtain ⟨A, c, vs, e, hl, h, hr⟩ := h; exact ⟨A, c, vs, e, hl, h.mono ht, fun i h h' => (hr i h h').mono ht⟩

theorem ret_int {k : IntKind} {a b : Int} (h : a = b) : Ending.returned (.int k a) = .returned (.int k b) := by rw [h]
theorem ret_bool {a b : Bool} (h : a = b) : Ending.returned (.bool a) = .returned (.bool b) := by rw [h]

end Go.Proofs.Ytjldogfpccbkeaa

/- Slices that the call makes: append from whatever source, clone, reading them again. No program in sight. (The append law follows the block that howto/extra-words.md gives for copying.) -/
set_option linter.unusedVariables false
set_option linter.unusedSimpArgs false
namespace Go.Proofs.Ytjldogfpccbkeaa
open Go.RowKit

/-- An element type: its cells, its bytes. -/
structure Elem (P : Program) (e : TypeId) (size bytes : Nat) : Prop where
  ex : ∃ i z, P.info? e = some i ∧ i.zero = some z ∧ i.size = size ∧ i.bytes = bytes ∧ z.cells.size = size ∧ 0 < size
theorem Elem.of {P : Program} {e : TypeId} {size bytes : Nat} (z : Value) (h : (P.info? e).map (fun i => (i.zero, i.size, i.bytes)) = some (some z, size, bytes)) (hz : z.cells.size = size) (h0 : 0 < size) : Elem P e size bytes := by
  obtain ⟨i, hi, h1, h2, h3⟩ := info_parts h
  exact ⟨i, z, hi, h1, h2, h3, hz, h0⟩

section
variable {P : Program} {w : World} {base : Nat} {e : TypeId} {size bytes : Nat}

theorem add_plain (g j : Nat) : (⟨g, 0, none⟩ : Addr).add j = ⟨g, j, none⟩ := by unfold Addr.add; split <;> simp_all
theorem own_nil (w : World) (base : Nat) (e : TypeId) (size : Nat) : w.ownsRow base e size (.slice none 0 0) 0 [] := World.ownsRow_nil _ _ _ _
theorem own_form {v : Value} {n : Nat} {xs : List Value} (h : w.ownsRow base e size v n xs) : ∃ A c, v = .slice A n c ∧ n ≤ c ∧ c ≤ maxLen := by
  rcases h.2 with ⟨rfl, rfl⟩ | ⟨g, cap, cur, rfl, _, _, h1, h2, _⟩
  · exact ⟨_, _, rfl, Nat.le_refl _, by simp [maxLen]⟩
  · exact ⟨_, _, rfl, h1, h2⟩
theorem own_len {v : Value} {n : Nat} {xs : List Value} (h : w.ownsRow base e size v n xs) : xs.length = n * size := h.1
/-- What the call owns reads as a slice, apart from whatever its block is apart from. -/
theorem own_rd {A : Option Addr} {n m c : Nat} {xs : List Value} (S : Nat → Prop) (h : w.ownsRow base e size (.slice A m c) n xs) (hS : ∀ k, base ≤ k → k < w.heap.size → ¬ S k) : Rd S w A xs := by
  rcases Nat.eq_zero_or_pos xs.length with h0 | h0
  · exact .inl (List.length_eq_zero_iff.1 h0)
  · have hn : 0 < n := by
      have := h.1
      rcases Nat.eq_zero_or_pos n with hn | hn
      · subst hn; rw [Nat.zero_mul] at this; omega
      · exact hn
    obtain ⟨g, cap, hv, hb, hlt⟩ := h.form hn
    injection hv with hA hm hc
    subst hA
    refine .inr ⟨g, 0, rfl, hS g hb hlt, fun i hi => ?_⟩
    have := h.cells (g := g) (by rfl) i _ (List.getElem?_eq_getElem hi)
    rw [add_plain] at this
    rw [Nat.zero_add]
    exact this
theorem own_kept {v : Value} {n : Nat} {xs : List Value} {S : Nat → Prop} {w' : World} (h : w.ownsRow base e size v n xs) (hf : Fr S w w') (hS : ∀ k, v.ownBlock = some k → ¬ S k) : w'.ownsRow base e size v n xs := by
  obtain ⟨h1, h2⟩ := h
  refine ⟨h1, ?_⟩
  rcases h2 with h2 | ⟨g, cap, cur, rfl, hg, hh, hr⟩
  · exact .inl h2
  · exact .inr ⟨g, cap, cur, rfl, hg, hf.blk hh (hS g rfl), hr⟩
theorem own_kept0 {v : Value} {n : Nat} {xs : List Value} {w' : World} (h : w.ownsRow base e size v n xs) (hf : Fr0 w w') : w'.ownsRow base e size v n xs := own_kept h hf (fun _ _ h => h)

theorem own_blk {v : Value} {n : Nat} {xs : List Value} (h : w.ownsRow base e size v n xs) {k : Nat} (hk : v.ownBlock = some k) : base ≤ k ∧ ∃ cs, w.heap[k]? = some (.cells cs e (0, 0)) := by
  rcases h.2 with ⟨rfl, _⟩ | ⟨g, cap, cur, rfl, hb, hh, _⟩
  · simp [Value.ownBlock] at hk
  · have : g = k := by simpa [Value.ownBlock] using hk
    subst this
    exact ⟨hb, _, hh⟩
theorem own_mono {v : Value} {n : Nat} {xs : List Value} {base' : Nat} (h : w.ownsRow base e size v n xs) (hb : base' ≤ base) : w.ownsRow base' e size v n xs := by
  obtain ⟨h1, h2⟩ := h
  refine ⟨h1, ?_⟩
  rcases h2 with h2 | ⟨g, cap, cur, rfl, hg, hr⟩
  · exact .inl h2
  · exact .inr ⟨g, cap, cur, rfl, Nat.le_trans hb hg, hr⟩
theorem own_some {g n cap : Nat} {xs : List Value} (h : w.ownsRow base e 1 (.slice (some ⟨g, 0, none⟩) n cap) n xs) (j : Nat) (hj : j < n) : ∃ u, w.cell? ⟨g, j, none⟩ = some u ∧ xs[j]? = some u := by
  have hl := h.1
  rw [Nat.mul_one] at hl
  have hx : j < xs.length := by omega
  exact ⟨xs[j], (h.cellAt j (by omega)).trans (List.getElem?_eq_getElem hx), List.getElem?_eq_getElem hx⟩
theorem own_set {g n cap : Nat} {xs : List Value} (h : w.ownsRow base e size (.slice (some ⟨g, 0, none⟩) n cap) n xs) (j : Nat) (u : Value) : (w.setCell ⟨g, j, none⟩ u).ownsRow base e size (.slice (some ⟨g, 0, none⟩) n cap) n (xs.set j u) := (h.stored j u).1

theorem append_nil (t ty : TypeId) (ht : P.underlying t = some (.slice e)) (he : Elem P e size bytes) (v : Value) (n : Nat) (xs : List Value) (hown : w.ownsRow base e size v n xs) (c : Nat) :
    (Builtin.append_ #[t, t] ty #[v, .slice none 0 c]).run P w = .ok v w := by
  obtain ⟨i, z, hi, _⟩ := he.ex
  rcases hown.2 with ⟨rfl, rfl⟩ | ⟨g, cap, cur, rfl, _, _, hnc, _⟩
  · simp [Builtin.append_, run_underlying ht, sizeOf, typeInfo, hi, Builtin.lenOf, Builtin.firstCells]
  · simp [Builtin.append_, run_underlying ht, sizeOf, typeInfo, hi, Builtin.lenOf, Builtin.firstCells, hnc, storeCells]

theorem append_run (t ty : TypeId) (ht : P.underlying t = some (.slice e)) (he : Elem P e size bytes) (v : Value) (n : Nat) (xs : List Value) (hown : w.ownsRow base e size v n xs)
    (S : Nat → Prop) (A : Option Addr) (m c : Nat) (news : List Value) (hr : Rd S w A news) (hl : news.length = m * size) (h1 : ∀ u ∈ news, u.oneCell' = true)
    (h63 : n + m ≤ maxLen) (hbytes : (n + m) * bytes ≤ 140737488355328) (hbase : base ≤ w.heap.size) (hm : A = none → m = 0) :
    ∃ v' w', (Builtin.append_ #[t, t] ty #[v, .slice A m c]).run P w = .ok v' w' ∧ w'.ownsRow base e size v' (n + m) (xs ++ news) ∧ w.grownBy w' v.ownBlock ∧
      (v'.ownBlock = v.ownBlock ∨ v'.ownBlock = some w.heap.size) := by
  rcases A with _ | ad
  · obtain rfl := hm rfl
    have hn : news = [] := List.eq_nil_of_length_eq_zero (by simpa using hl)
    subst hn
    exact ⟨v, w, append_nil t ty ht he v n xs hown c, by simpa using hown, World.grownBy.refl w _, .inl rfl⟩
  · have hcells : ∀ j u, news[j]? = some u → w.cell? (ad.add j) = some u := by
      intro j u hu
      rcases hr with rfl | ⟨b, off, e', _, hc⟩
      · simp at hu
      · cases e'
        obtain ⟨hj, rfl⟩ := List.getElem?_eq_some_iff.1 hu
        have := hc j hj
        have ha : (⟨b, off, none⟩ : Addr).add j = ⟨b, off + j, none⟩ := by unfold Addr.add; split <;> simp_all
        rw [ha]
        exact this
    obtain ⟨i, z, hi, hz, hsize, hby, hzs, hsz⟩ := he.ex
    obtain ⟨v', w', hrun, h2, h3, _, h5⟩ := run_append_own_at (P := P) w base t ty e i z size bytes ht hi hz hsize hby hzs hsz v n xs hown ad m c news hl hcells h1 h63 hbytes hbase
    exact ⟨v', w', hrun, h2, h3, h5⟩

/-- append(s, x...), s a row of the call's own, x whatever reads. -/
theorem wpList_app {ops : Array Oper} {rest : List Oper} {o : Oper} {a : Act} {Q : Exit → Act → World → Prop} (hgd : o.guard = none) (s x : Operand) (t : TypeId)
    (ho : o.op = .call { callee := .builtin .append, args := #[s, x], argTypes := #[t, t] })
    (ht : P.underlying t = some (.slice e)) (he : Elem P e size bytes) (v : Value) (n : Nat) (xs : List Value) (hs : a.eval s = v) (hown : w.ownsRow base e size v n xs)
    (S : Nat → Prop) (A : Option Addr) (m c : Nat) (news : List Value) (hx : a.eval x = .slice A m c) (hr : Rd S w A news) (hl : news.length = m * size) (h1 : ∀ u ∈ news, u.oneCell' = true)
    (h63 : n + m ≤ maxLen) (hbytes : (n + m) * bytes ≤ 140737488355328) (hbase : base ≤ w.heap.size) (hm : A = none → m = 0)
    (h : ∀ v' w', w'.ownsRow base e size v' (n + m) (xs ++ news) → w.grownBy w' v.ownBlock → (v'.ownBlock = v.ownBlock ∨ v'.ownBlock = some w.heap.size) → wpList P ops Q rest (a.put o.dst v') w') : wpList P ops Q (o :: rest) a w :=
  wpList_plain hgd fun _ hK => by
    obtain ⟨v', w', hrun, h2, h3, h4⟩ := append_run (P := P) t o.type ht he v n xs hown S A m c news hr hl h1 h63 hbytes hbase hm
    unfold Oper.wp execOp
    simp only [ho, resolve, invoke, builtin, Sem.run_bind, Sem.run_pure, Result.andThen_ok, List.map_toArray, List.map_cons, List.map_nil, hs, hx, hrun]
    exact hK _ _ (h v' w' h2 h3 h4)

/-- The same as one step of a region that draws. -/
theorem step_app {ops : Array Oper} {o : Oper} {a : Act} {K : Act → World → Prop} {Q : Exit → Act → World → Prop} {E : Prop} (hgd : o.guard = none) (s x : Operand) (t : TypeId)
    (ho : o.op = .call { callee := .builtin .append, args := #[s, x], argTypes := #[t, t] })
    (ht : P.underlying t = some (.slice e)) (he : Elem P e size bytes) (v : Value) (n : Nat) (xs : List Value) (hs : a.eval s = v) (hown : w.ownsRow base e size v n xs)
    (S : Nat → Prop) (A : Option Addr) (m c : Nat) (news : List Value) (hx : a.eval x = .slice A m c) (hr : Rd S w A news) (hl : news.length = m * size) (h1 : ∀ u ∈ news, u.oneCell' = true)
    (h63 : n + m ≤ maxLen) (hbytes : (n + m) * bytes ≤ 140737488355328) (hbase : base ≤ w.heap.size) (hm : A = none → m = 0)
    (h : ∀ v' w', w'.ownsRow base e size v' (n + m) (xs ++ news) → w.grownBy w' v.ownBlock → (v'.ownBlock = v.ownBlock ∨ v'.ownBlock = some w.heap.size) → K (a.put o.dst v') w') :
    if Region.wanted o (yielded ops a.tmps) = true then Oper.wp P o a w K Q else E := by
  rw [if_pos (by simp [Region.wanted, hgd])]
  obtain ⟨v', w', hrun, h2, h3, h4⟩ := append_run (P := P) t o.type ht he v n xs hown S A m c news hr hl h1 h63 hbytes hbase hm
  unfold Oper.wp execOp
  simp only [ho, resolve, invoke, builtin, Sem.run_bind, Sem.run_pure, Result.andThen_ok, List.map_toArray, List.map_cons, List.map_nil, hs, hx, hrun]
  exact h v' w' h2 h3 h4

theorem u8s_one (bs : List UInt8) : ∀ u ∈ u8s bs, u.oneCell' = true := by
  intro u hu
  simp only [u8s, List.mem_map] at hu
  obtain ⟨x, _, rfl⟩ := hu
  rfl
end
end Go.Proofs.Ytjldogfpccbkeaa

/- A region that draws its order: a head of operations, each of which yields one value in every world of a class, and a forced tail; and the same in a round of a range over a function. No program in sight. -/
set_option linter.unusedVariables false
set_option linter.unusedSimpArgs false
namespace Go.Proofs.Ytjldogfpccbkeaa
open Go.RowKit

section
variable {P : Program} {ops : Array Oper} {md : Region.Mode} {C : World → Prop}

/-- Whatever order is picked from here on, f operations of the head (those below n) come up, and L holds behind them. -/
def anyHead (P : Program) (md : Region.Mode) (ops : Array Oper) (C : World → Prop) (n : Nat) (L : Array Bool → Act → Prop) : Nat → Array Bool → Act → Prop
  | 0, listed, a => L listed a
  | f + 1, listed, a => Region.ready md ops listed ≠ [] ∧ ∀ i ∈ Region.ready md ops listed, i < n ∧ qOp P ops C i (anyHead P md ops C n L f (listed.setIfInBounds i true)) a

theorem any_of_head {n g : Nat} {L : Array Bool → Act → Prop} {Q : Exit → Act → World → Prop} (hL : ∀ listed a, L listed a → ∀ w, C w → wpAny P md ops Q g listed a w) :
    ∀ (f : Nat) (listed : Array Bool) (a : Act), anyHead P md ops C n L f listed a → ∀ w, C w → wpAny P md ops Q (f + g) listed a w
  | 0, listed, a, h, w, hw => by rw [Nat.zero_add]; exact hL _ _ h w hw
  | f + 1, listed, a, h, w, hw => by
    rw [Nat.add_right_comm f 1 g]
    exact ⟨fun h0 => absurd h0 h.1, fun i hi => wpOp_of_qOp hw (fun a' w' hw' h' => any_of_head hL f _ a' h' w' hw') (h.2 i hi).2⟩

theorem head_first {n i : Nat} {oi : Oper} {v : Value} {L : Array Bool → Act → Prop} (hi : ops[i]? = some oi) (hsel : ∀ (j : Nat) (o : Oper) cs b, ops[j]? = some o → o.op ≠ .select cs b)
    (hs : Region.sinkB md ops n = true) (hc : Region.chainB md ops n = true) (hn : n < ops.size) (hin : i < n)
    (hdone : ∀ listed a, L listed a → ∀ j ∈ Region.ready md ops listed, n ≤ j) (f : Nat) :
    ∀ (listed : Array Bool) (a : Act), HeadInv md ops n listed →
      (∀ j oj, ops[j]? = some oj → j ≠ i → listed.getD j true = false → (∀ e ∈ oj.after, Region.binds md e = true → e.on ≠ i) → oi.apart ops oj = true) →
      i ∈ Region.ready md ops listed → YieldsIn P ops C oi v a →
      anyHead P md ops C n L f (listed.setIfInBounds i true) (a.put oi.dst v) → anyHead P md ops C n L (f + 1) listed a := by
  induction f with
  | zero =>
    intro listed a inv _ hr hy H
    refine ⟨fun h => (by rw [h] at hr; cases hr), fun j hj => ?_⟩
    have hjn : j < n := Nat.lt_of_not_le fun h => absurd hj (tail_waits hs hc hn inv _ i rfl hin (mem_ready.1 hr).1 j h)
    refine ⟨hjn, ?_⟩
    by_cases hji : j = i
    · subst hji; exact hy.qOp hi H
    · have := hdone _ _ H j (ready_mono hj hji)
      omega
  | succ f ih =>
    intro listed a inv hfree hr hy H
    refine ⟨fun h => (by rw [h] at hr; cases hr), fun j hj => ?_⟩
    have hun := (mem_ready.1 hr).1
    have hjn : j < n := Nat.lt_of_not_le fun h => absurd hj (tail_waits hs hc hn inv _ i rfl hin hun j h)
    refine ⟨hjn, ?_⟩
    by_cases hji : j = i
    · subst hji; exact hy.qOp hi H
    · obtain ⟨hjun, oj, hoj, hall⟩ := mem_ready.1 hj
      have hnot : ∀ e ∈ oj.after, Region.binds md e = true → e.on ≠ i := fun e he hb heq => by
        have h1 := hall e he hb
        rw [heq, getD_both hun] at h1
        cases h1
      have h2 := qOp_put hoj (hfree j oj hoj hji hjun hnot) (fun cs b => hsel i oi cs b hi) (fun cs b => hsel j oj cs b hoj) hy (H.2 j (ready_mono hj hji)).2
      refine qOp_mono (fun a' h3 => ih (listed.setIfInBounds j true) a' (inv.set hj hjn) (fun k ok hk hki hu hno => hfree k ok hk hki ?_ hno) (ready_mono hr (Ne.symm hji)) h3.1 ?_) h2
      · by_cases hjk : j = k
        · subst hjk; exact hjun
        · rwa [getD_set_ne true hjk] at hu
      · rw [Array.setIfInBounds_comm _ _ hji]
        exact h3.2

theorem head_lex {n g : Nat} {Lq : Act → Prop} (hsel : Region.noSelect ops = true) (hs : Region.sinkB md ops n = true) (hc : Region.chainB md ops n = true) (hn : n < ops.size) :
    ∀ (l : List Oper) (k : Nat) (listed : Array Bool) (a : Act), (∀ j, j < l.length → l[j]? = ops[k + j]?) → k + l.length = n → HeadInv md ops n listed →
    Region.lexHead md ops g l.length k listed = true → wpQuiet P ops C Lq l a →
    anyHead P md ops C n (fun listed' a' => Region.seqB md ops g n listed' = true ∧ Lq a') l.length listed a
  | [], k, listed, a, _, hk, _, hB, h => by
    obtain rfl : k = n := by simpa using hk
    exact ⟨by simpa [Region.lexHead] using hB, h⟩
  | o :: l, k, listed, a, hl, hk, inv, hB, h => by
    have h0 : ops[k]? = some o := by simpa using (hl 0 (by simp)).symm
    simp only [List.length_cons, Region.lexHead, Bool.and_eq_true] at hB
    obtain ⟨⟨hr, hf⟩, hB'⟩ := hB
    simp only [List.length_cons] at hk
    have hkn : k < n := by omega
    have hr' : k ∈ Region.ready md ops listed := by simpa using hr
    obtain ⟨v, hy, hK⟩ := yieldsIn_of_qOp h0 (show qOp P ops C k (wpQuiet P ops C Lq l) a by unfold qOp; simp only [h0]; exact h)
    exact head_first h0 (Region.noSelect_spec hsel) hs hc hn hkn (fun listed' a' hL => seqB_ready hL.1) l.length listed a inv (Region.free_spec h0 hf) hr' hy
      (head_lex hsel hs hc hn l (k + 1) _ _ (fun j hj => by have := hl (j + 1) (by simp; omega); simpa [Nat.add_assoc, Nat.add_comm 1 j] using this) (by omega) (inv.set hr' hkn) hB' hK)

/-- Whatever order is picked: the head's values, then the tail from every world of the class. -/
theorem any_of_class {Q : Exit → Act → World → Prop} {a : Act} {w : World} {l : List Oper} (n : Nat) (hB : Region.lexTailB .any l.toArray n = true) (hw : C w)
    (h : wpQuiet P l.toArray C (fun a' => ∀ w', C w' → wpList P l.toArray Q (l.drop n) a' w') (l.take n) a) : wpAny P .any l.toArray Q l.toArray.size (Array.replicate l.toArray.size false) a w := by
  simp only [Region.lexTailB, Bool.and_eq_true, decide_eq_true_eq] at hB
  obtain ⟨⟨⟨⟨hsel, hn⟩, hs⟩, hc⟩, hlex⟩ := hB
  have hn' : n < l.length := by simpa using hn
  have htl : (l.take n).length = n := by simp; omega
  have hdl : (l.drop n).length = l.toArray.size - n := by simp
  have inv0 : HeadInv .any l.toArray n (Array.replicate l.toArray.size false) :=
    ⟨by simp, fun j oj _ hl => (by rw [getD_replicate_false] at hl; cases hl), fun t _ ht => getD_in (by simpa using ht) (getD_replicate_false _ _)⟩
  have H := head_lex (md := .any) (g := l.toArray.size - n) hsel hs hc hn (l.take n) 0 _ a (fun j hj => by
    have hj' : j < n := by rw [htl] at hj; exact hj
    simp [hj']) (by simpa using htl) inv0 (by rw [htl]; exact hlex) h
  have := any_of_head (Q := Q) (g := l.toArray.size - n) (fun listed a' hL w' hw' => by
    have := wpAny_of_seq (md := .any) (Q' := Q) (l.drop n) n listed a' w' (fun j => by simp [List.getElem?_drop]) (by rw [hdl]; exact hL.1) (hL.2 w' hw')
    rwa [hdl] at this) _ _ _ H w hw
  rwa [htl, show n + (l.toArray.size - n) = l.toArray.size by omega] at this

/-- A region that draws: the head's operations quiet in the class C, the tail forced. -/
theorem wp_region_class {id : Nat} {Q : Exit → Act → World → Prop} {a : Act} {w : World} {l : List Oper} (C : World → Prop) (n : Nat) (hm : P.follows .mixedOrders = true) (hB : Region.lexTailB .any l.toArray n = true) (hw : C w.drew)
    (h : wpQuiet P l.toArray C (fun a' => ∀ w', C w' → wpList P l.toArray Q (l.drop n) a' w') (l.take n) a) : (Code.region id l.toArray true).wp P Q a w :=
  wp_region_any hm (any_of_class n hB hw h)

/-- No operation is a 'defer'. -/
def noDefer (ops : List Oper) : Bool := ops.all fun o => match o.op with | .defer _ => false | _ => true

theorem opIn_of_op {l n : Nat} {Q : Exit → Act → World → Prop} (hd : noDefer ops.toList = true) (hout : ¬ LetsOut Q) {i : Nat} {K : Act → World → Prop} {a : Act} {w : World} (h : wpOp P ops Q i K a w) :
    wpOpIn (Fence.wide.inRound l) n P ops Q i K a w := by
  unfold wpOp at h
  unfold wpOpIn
  split at h
  · simp_all
  · rename_i o ho
    simp only [ho]
    split
    · rename_i hwd
      simp only [hwd, if_true] at h
      rcases h with h | ⟨_, h⟩
      · refine ⟨fun f _ => trivial, ?_⟩
        have hnd : ∀ c, o.op ≠ .defer c := by
          intro c e
          have := List.all_eq_true.1 hd o (Array.mem_toList_iff.2 (Array.mem_of_getElem? ho))
          rw [e] at this
          cases this
        show o.uponIn (Fence.wide.inRound l) n P a K Q ((o.semAt (some l) a.eval).run P w)
        rw [Oper.semAt_eq _ _ _ hnd]
        unfold Oper.wp at h
        generalize (execOp a.eval o).run P w = r at h
        cases r with
        | ok x w' =>
          cases x <;> simp only [Oper.upon] at h <;> simp only [Oper.uponIn] <;> try exact h
          case enter f args => exact ⟨fun hh => by simp [Fence.inRound, Fence.wide] at hh, CallsIn.inRound l (callsIn_wide.2 h)⟩
          case row row args => exact ⟨fun hh => by simp [Fence.inRound, Fence.wide] at hh, fun c cs _ => by obtain ⟨v, w'', hR, hs⟩ := h c cs; exact ⟨v, w'', hR, stepsIn_wide.2 hs⟩⟩
        | halt x w' => cases x <;> simp only [Oper.upon] at h <;> simp only [Oper.uponIn] <;> exact h
      · exact absurd h hout
    · rename_i hwd
      simp only [hwd] at h
      exact ⟨fun f _ => trivial, h⟩

theorem opIn_mono {F : Fence} {n : Nat} {Q : Exit → Act → World → Prop} {i : Nat} {K K' : Act → World → Prop} (hK : ∀ a w, K a w → K' a w) {a : Act} {w : World} (h : wpOpIn F n P ops Q i K a w) : wpOpIn F n P ops Q i K' a w := by
  unfold wpOpIn at *
  split
  · exact hK _ _ (by simpa [*] using h)
  · rename_i o ho
    simp only [ho] at h
    split
    · rename_i hw; simp only [hw, if_true] at h; exact Oper.wpIn_mono hK h
    · rename_i hw; simp only [hw] at h; exact ⟨h.1, hK _ _ h.2⟩

theorem anyIn_of_any {l n : Nat} {Q : Exit → Act → World → Prop} (hd : noDefer ops.toList = true) (hout : ¬ LetsOut Q) : ∀ (f : Nat) (listed : Array Bool) (a : Act) (w : World),
    wpAny P md ops Q f listed a w → wpAnyIn (Fence.wide.inRound l) n P md ops Q f listed a w
  | 0, _, _, _, h => h
  | f + 1, _, _, _, h => ⟨h.1, fun i hi => opIn_mono (fun a' w' h' => anyIn_of_any hd hout f _ a' w' h') (opIn_of_op hd hout (h.2 i hi))⟩

/-- The same in a round of a range over a function. -/
theorem wpIn_region_class {id l n : Nat} {Q : Exit → Act → World → Prop} {a : Act} {w : World} {ol : List Oper} (C : World → Prop) (m : Nat) (hm : P.follows .mixedOrders = true) (hB : Region.lexTailB .any ol.toArray m = true) (hd : noDefer ol = true) (hout : ¬ LetsOut Q) (hw : C w.drew)
    (h : wpQuiet P ol.toArray C (fun a' => ∀ w', C w' → wpList P ol.toArray Q (ol.drop m) a' w') (ol.take m) a) : (Code.region id ol.toArray true).wpIn (Fence.wide.inRound l) n P Q a w :=
  wpIn_region_any hm (anyIn_of_any (by simpa using hd) hout _ _ _ _ (any_of_class m hB hw h))
end

/-- A scope whose gotos all lead forward to one label. -/
theorem wp_scope_fwd {P : Program} {c rest : Code} {a : Act} {w : World} {Q : Exit → Act → World → Prop} (l : Nat) (hf : findLabel c l = some rest)
    (h : c.wp P (Exit.jump l (fun a w => rest.wp P (Exit.noGoto Q) a w) Q) a w) : (Code.scope c).wp P Q a w :=
  wp_scope_jumps l _ (fun _ _ => 0) hf h fun a w hJ => wp_mono hJ fun e a' w' q => by
    cases e <;> first | exact q | exact q.elim

/-- The class of worlds that grew out of w by draws. -/
def Cd (w w' : World) : Prop := ∃ n, w' = w.drewN n
theorem Cd.cell {w w' : World} (h : Cd w w') (p : Addr) : w'.cell? p = w.cell? p := by obtain ⟨n, rfl⟩ := h; rfl
/-- The class of worlds in which all of w lies unturned. -/
def Cg (w w' : World) : Prop := Fr0 w w'
theorem Cg.cell {w w' : World} (h : Cg w w') {p : Addr} {v : Value} (hc : w.cell? p = some v) : w'.cell? p = some v := Fr.cell h hc (fun h => h)

end Go.Proofs.Ytjldogfpccbkeaa

/- A region that draws its order: some moves that only the tail awaits are taken first; then a head that is quiet in a class of worlds; then a forced tail. No program in sight. -/
set_option linter.unusedVariables false
set_option linter.unusedSimpArgs false
namespace Go.Proofs.Ytjldogfpccbkeaa
open Go.RowKit

section
variable {P : Program} {ops : Array Oper} {md : Region.Mode} {C : World → Prop}

def masked : List Bool → List Oper → List Oper
  | true :: ms, o :: l => o :: masked ms l
  | false :: ms, _ :: l => masked ms l
  | _, _ => []
def unmasked : List Bool → List Oper → List Oper
  | true :: ms, _ :: l => unmasked ms l
  | false :: ms, o :: l => o :: unmasked ms l
  | _, _ => []
/-- Every operation of the head is masked or is awaited below or at n. -/
def sinkM (md : Region.Mode) (ops : Array Oper) (ms : List Bool) (n : Nat) : Bool :=
  (List.range n).all fun i => ms.getD i false || (List.range (n + 1)).any fun j => decide (i < j) && Region.waitsFor md ops j i
def lexPre (md : Region.Mode) (ops : Array Oper) (K : Array Bool → Bool) : List Bool → Nat → Array Bool → Bool
  | [], _, listed => K listed
  | true :: ms, k, listed => (Region.ready md ops listed).contains k && Region.free md ops listed k && lexPre md ops K ms (k + 1) (listed.setIfInBounds k true)
  | false :: ms, k, listed => lexPre md ops K ms (k + 1) listed
def lexRest (md : Region.Mode) (ops : Array Oper) (K : Array Bool → Bool) : List Bool → Nat → Array Bool → Bool
  | [], _, listed => K listed
  | false :: ms, k, listed => (Region.ready md ops listed).contains k && Region.free md ops listed k && lexRest md ops K ms (k + 1) (listed.setIfInBounds k true)
  | true :: ms, k, listed => lexRest md ops K ms (k + 1) listed
def preTailB (md : Region.Mode) (ops : Array Oper) (ms : List Bool) : Bool :=
  Region.noSelect ops && decide (ms.length < ops.size) && sinkM md ops ms ms.length && Region.chainB md ops ms.length &&
    lexPre md ops (lexRest md ops (Region.seqB md ops (ops.size - ms.length) ms.length) ms 0) ms 0 (Array.replicate ops.size false)

/-- Moves, one behind the other. -/
def wpMoves (L : Act → Prop) : List Oper → Act → Prop
  | [], a => L a
  | o :: l, a => ∃ x, o.op = .move x ∧ o.guard = none ∧ wpMoves L l (a.put o.dst (a.eval x))
theorem wpMoves_nil {L : Act → Prop} {a : Act} (h : L a) : wpMoves L [] a := h
/-- All masked operations have come up. -/
def MaskIn (ms : List Bool) (listed : Array Bool) : Prop := ∀ i, ms.getD i false = true → listed.getD i false = true

theorem tail_waitsM {n : Nat} {ms : List Bool} {listed : Array Bool} (hs : sinkM md ops ms n = true) (hc : Region.chainB md ops n = true) (hn : n < ops.size) (inv : HeadInv md ops n listed) (hm : MaskIn ms listed) :
    ∀ (d i : Nat), n - i = d → i < n → listed.getD i true = false → ∀ t, n ≤ t → t ∉ Region.ready md ops listed := by
  intro d
  induction d using Nat.strongRecOn with
  | _ d ih =>
    intro i hd hi hun t ht hr
    obtain ⟨_, ot, hot, hall⟩ := mem_ready.1 hr
    have htlt : t < ops.size := (Array.getElem?_eq_some_iff.1 hot).1
    by_cases htn : t = n
    · subst htn
      have h1 := List.all_eq_true.1 hs i (List.mem_range.2 hi)
      simp only [Bool.or_eq_true] at h1
      rcases h1 with h1 | h1
      · have := hm i h1
        rw [getD_both hun] at this
        cases this
      obtain ⟨j, hj, hj2⟩ := List.any_eq_true.1 h1
      simp only [Bool.and_eq_true, decide_eq_true_eq] at hj2
      obtain ⟨oj, hoj, e, he, hb, hon⟩ := Region.waitsFor_spec hj2.2
      have hjle : j ≤ t := by have := List.mem_range.1 hj; omega
      by_cases hjt : j = t
      · subst hjt
        have : oj = ot := Option.some.inj (hoj.symm.trans hot)
        subst this
        have h2 := hall e he hb
        rw [hon, getD_both hun] at h2
        cases h2
      · cases hl : listed.getD j false with
        | true =>
          have h2 := inv.closed j oj hoj hl e he hb
          rw [hon, getD_both hun] at h2
          cases h2
        | false =>
          have hjs : j < listed.size := by rw [inv.size]; omega
          exact ih (t - j) (by omega) j rfl (by omega) (getD_in hjs hl) t (Nat.le_refl _) hr
    · have h1 := List.all_eq_true.1 hc t (List.mem_range.2 htlt)
      simp only [Bool.or_eq_true, decide_eq_true_eq] at h1
      rcases h1 with h1 | h1
      · omega
      · obtain ⟨o', ho', e, he, hb, hon⟩ := Region.waitsFor_spec h1
        have : o' = ot := Option.some.inj (ho'.symm.trans hot)
        subst this
        have h2 := hall e he hb
        rw [hon, getD_both (inv.tail (t - 1) (by omega) (by omega))] at h2
        cases h2

theorem MaskIn.set {ms : List Bool} {listed : Array Bool} (h : MaskIn ms listed) (i : Nat) : MaskIn ms (listed.setIfInBounds i true) := fun j hj => getD_set_true (h j hj)

theorem headM_first {n i : Nat} {ms : List Bool} {oi : Oper} {v : Value} {L : Array Bool → Act → Prop} (hi : ops[i]? = some oi) (hsel : ∀ (j : Nat) (o : Oper) cs b, ops[j]? = some o → o.op ≠ .select cs b)
    (hs : sinkM md ops ms n = true) (hc : Region.chainB md ops n = true) (hn : n < ops.size) (hin : i < n)
    (hdone : ∀ listed a, L listed a → ∀ j ∈ Region.ready md ops listed, n ≤ j) (f : Nat) :
    ∀ (listed : Array Bool) (a : Act), HeadInv md ops n listed → MaskIn ms listed →
      (∀ j oj, ops[j]? = some oj → j ≠ i → listed.getD j true = false → (∀ e ∈ oj.after, Region.binds md e = true → e.on ≠ i) → oi.apart ops oj = true) →
      i ∈ Region.ready md ops listed → YieldsIn P ops C oi v a →
      anyHead P md ops C n L f (listed.setIfInBounds i true) (a.put oi.dst v) → anyHead P md ops C n L (f + 1) listed a := by
  induction f with
  | zero =>
    intro listed a inv hm _ hr hy H
    refine ⟨fun h => (by rw [h] at hr; cases hr), fun j hj => ?_⟩
    have hjn : j < n := Nat.lt_of_not_le fun h => absurd hj (tail_waitsM hs hc hn inv hm _ i rfl hin (mem_ready.1 hr).1 j h)
    refine ⟨hjn, ?_⟩
    by_cases hji : j = i
    · subst hji; exact hy.qOp hi H
    · have := hdone _ _ H j (ready_mono hj hji)
      omega
  | succ f ih =>
    intro listed a inv hm hfree hr hy H
    refine ⟨fun h => (by rw [h] at hr; cases hr), fun j hj => ?_⟩
    have hun := (mem_ready.1 hr).1
    have hjn : j < n := Nat.lt_of_not_le fun h => absurd hj (tail_waitsM hs hc hn inv hm _ i rfl hin hun j h)
    refine ⟨hjn, ?_⟩
    by_cases hji : j = i
    · subst hji; exact hy.qOp hi H
    · obtain ⟨hjun, oj, hoj, hall⟩ := mem_ready.1 hj
      have hnot : ∀ e ∈ oj.after, Region.binds md e = true → e.on ≠ i := fun e he hb heq => by
        have h1 := hall e he hb
        rw [heq, getD_both hun] at h1
        cases h1
      have h2 := qOp_put hoj (hfree j oj hoj hji hjun hnot) (fun cs b => hsel i oi cs b hi) (fun cs b => hsel j oj cs b hoj) hy (H.2 j (ready_mono hj hji)).2
      refine qOp_mono (fun a' h3 => ih (listed.setIfInBounds j true) a' (inv.set hj hjn) (hm.set j) (fun k ok hk hki hu hno => hfree k ok hk hki ?_ hno) (ready_mono hr (Ne.symm hji)) h3.1 ?_) h2
      · by_cases hjk : j = k
        · subst hjk; exact hjun
        · rwa [getD_set_ne true hjk] at hu
      · rw [Array.setIfInBounds_comm _ _ hji]
        exact h3.2

def falses : List Bool → Nat
  | [] => 0
  | true :: ms => falses ms
  | false :: ms => falses ms + 1
def trues : List Bool → Nat
  | [] => 0
  | true :: ms => trues ms + 1
  | false :: ms => trues ms

theorem headM_lex {n : Nat} {Lq : Act → Prop} {K : Array Bool → Bool} {ms0 : List Bool} (hsel : Region.noSelect ops = true) (hs : sinkM md ops ms0 n = true) (hc : Region.chainB md ops n = true) (hn : n < ops.size)
    (hK : ∀ listed, K listed = true → ∀ j ∈ Region.ready md ops listed, n ≤ j) :
    ∀ (ms : List Bool) (l : List Oper) (k : Nat) (listed : Array Bool) (a : Act), (∀ j, j < ms.length → l[j]? = ops[k + j]?) → k + ms.length = n → HeadInv md ops n listed → MaskIn ms0 listed →
    lexRest md ops K ms k listed = true → wpQuiet P ops C Lq (unmasked ms l) a →
    anyHead P md ops C n (fun listed' a' => K listed' = true ∧ Lq a') (falses ms) listed a
  | [], l, k, listed, a, _, _, _, _, hB, h => by
    refine ⟨by simpa [lexRest] using hB, ?_⟩
    cases l <;> exact h
  | true :: ms, l, k, listed, a, hl, hk, inv, hm, hB, h => by
    simp only [List.length_cons] at hk hl
    cases l with
    | nil =>
      have := hl 0 (by omega)
      simp at this
      omega
    | cons o l =>
      exact headM_lex hsel hs hc hn hK ms l (k + 1) listed a (fun j hj => by have := hl (j + 1) (by omega); simpa [Nat.add_assoc, Nat.add_comm 1 j] using this) (by omega) inv hm hB h
  | false :: ms, l, k, listed, a, hl, hk, inv, hm, hB, h => by
    simp only [List.length_cons] at hk hl
    cases l with
    | nil =>
      have := hl 0 (by omega)
      simp at this
      omega
    | cons o l =>
      have h0 : ops[k]? = some o := by simpa using (hl 0 (by omega)).symm
      simp only [lexRest, Bool.and_eq_true] at hB
      obtain ⟨⟨hr, hf⟩, hB'⟩ := hB
      have hkn : k < n := by omega
      have hr' : k ∈ Region.ready md ops listed := by simpa using hr
      obtain ⟨v, hy, hK'⟩ := yieldsIn_of_qOp h0 (show qOp P ops C k (wpQuiet P ops C Lq (unmasked ms l)) a by unfold qOp; simp only [h0]; exact h)
      exact headM_first h0 (Region.noSelect_spec hsel) hs hc hn hkn (fun listed' a' hL => hK _ hL.1) (falses ms) listed a inv hm (Region.free_spec h0 hf) hr' hy
        (headM_lex hsel hs hc hn hK ms l (k + 1) _ _ (fun j hj => by have := hl (j + 1) (by omega); simpa [Nat.add_assoc, Nat.add_comm 1 j] using this) (by omega) (inv.set hr' hkn) (hm.set k) hB' hK')

/-- The moves taken first. -/
theorem pre_lex {Q : Exit → Act → World → Prop} {n : Nat} {K : Array Bool → Bool} {L : Act → Prop} {w : World} {ms0 : List Bool} (hsel : Region.noSelect ops = true) (hn : n < ops.size)
    (hQ : ∀ c a d v w, Q (.panic c) (a.put d v) w → Q (.panic c) a w) (fuel : Nat)
    (hK : ∀ listed a, HeadInv md ops n listed → MaskIn ms0 listed → K listed = true → L a → wpAny P md ops Q fuel listed a w) :
    ∀ (ms : List Bool) (l : List Oper) (k : Nat) (listed : Array Bool) (a : Act), (∀ j, j < ms.length → l[j]? = ops[k + j]?) → k + ms.length = n → HeadInv md ops n listed →
    (∀ i, ms0.getD i false = true → i < k → listed.getD i false = true) → (∀ j, ms0.getD (k + j) false = ms.getD j false) →
    lexPre md ops K ms k listed = true → wpMoves L (masked ms l) a →
    wpAny P md ops Q (trues ms + fuel) listed a w
  | [], l, k, listed, a, _, hk, inv, hm, hms, hB, h => by
    rw [show trues [] + fuel = fuel by simp [trues]]
    refine hK _ _ inv (fun i hi => ?_) hB (by cases l <;> exact h)
    by_cases hik : i < k
    · exact hm i hi hik
    · have := hms (i - k)
      rw [show k + (i - k) = i by omega, hi] at this
      simp at this
  | false :: ms, l, k, listed, a, hl, hk, inv, hm, hms, hB, h => by
    simp only [List.length_cons] at hk hl
    cases l with
    | nil =>
      have := hl 0 (by omega)
      simp at this
      omega
    | cons o l =>
      refine pre_lex hsel hn hQ fuel hK ms l (k + 1) listed a (fun j hj => by have := hl (j + 1) (by omega); simpa [Nat.add_assoc, Nat.add_comm 1 j] using this) (by omega) inv (fun i hi hik => ?_) (fun j => ?_) hB h
      · by_cases hik' : i < k
        · exact hm i hi hik'
        · have := hms 0
          rw [show k + 0 = i by omega, hi] at this
          simp at this
      · have := hms (j + 1)
        rw [show k + 1 + j = k + (j + 1) by omega, this]
        simp
  | true :: ms, l, k, listed, a, hl, hk, inv, hm, hms, hB, h => by
    simp only [List.length_cons] at hk hl
    cases l with
    | nil =>
      have := hl 0 (by omega)
      simp at this
      omega
    | cons o l =>
      have h0 : ops[k]? = some o := by simpa using (hl 0 (by omega)).symm
      simp only [lexPre, Bool.and_eq_true] at hB
      obtain ⟨⟨hr, hf⟩, hB'⟩ := hB
      have hkn : k < n := by omega
      have hr' : k ∈ Region.ready md ops listed := by simpa using hr
      obtain ⟨x, hx, hg, hK'⟩ := h
      have hyy : Yields P ops o (a.eval x) a := .inl ⟨by simp [Region.wanted, hg], fun w => by unfold execOp; rw [hx]; rfl⟩
      rw [show trues (true :: ms) + fuel = (trues ms + fuel) + 1 by simp only [trues]; omega]
      refine wpAny_take h0 hsel hf hr (fun c a w hq => hQ _ _ _ _ _ hq) hyy ?_
      refine pre_lex hsel hn hQ fuel hK ms l (k + 1) _ _ (fun j hj => by have := hl (j + 1) (by omega); simpa [Nat.add_assoc, Nat.add_comm 1 j] using this) (by omega) (inv.set hr' hkn) (fun i hi hik => ?_) (fun j => ?_) hB' hK'
      · by_cases hik' : i = k
        · subst hik'
          have hlt : i < listed.size := by rw [inv.size]; omega
          simp [Array.getElem?_setIfInBounds, hlt]
        · exact getD_set_true (hm i hi (by omega))
      · have := hms (j + 1)
        rw [show k + 1 + j = k + (j + 1) by omega, this]
        simp

theorem trues_falses : ∀ ms : List Bool, trues ms + falses ms = ms.length
  | [] => rfl
  | true :: ms => by simp only [trues, falses, List.length_cons]; have := trues_falses ms; omega
  | false :: ms => by simp only [trues, falses, List.length_cons]; have := trues_falses ms; omega

/-- A region that draws: moves that the tail alone awaits (true in the mask), a head that is quiet in the class C, a forced tail. -/
theorem any_of_masked {Q : Exit → Act → World → Prop} {a : Act} {w : World} {l : List Oper} (ms : List Bool) (hB : preTailB .any l.toArray ms = true) (hQ : ∀ c a d v w, Q (.panic c) (a.put d v) w → Q (.panic c) a w) (hw : C w)
    (h : wpMoves (fun a1 => wpQuiet P l.toArray C (fun a' => ∀ w', C w' → wpList P l.toArray Q (l.drop ms.length) a' w') (unmasked ms l) a1) (masked ms l) a) : wpAny P .any l.toArray Q l.toArray.size (Array.replicate l.toArray.size false) a w := by
  simp only [preTailB, Bool.and_eq_true, decide_eq_true_eq] at hB
  obtain ⟨⟨⟨⟨hsel, hn⟩, hs⟩, hc⟩, hlex⟩ := hB
  have hn' : ms.length < l.length := by simpa using hn
  have hdl : (l.drop ms.length).length = l.toArray.size - ms.length := by simp
  have hidx : ∀ j, j < ms.length → l[j]? = l.toArray[0 + j]? := fun j _ => by simp
  have inv0 : HeadInv .any l.toArray ms.length (Array.replicate l.toArray.size false) :=
    ⟨by simp, fun j oj _ hl => (by rw [getD_replicate_false] at hl; cases hl), fun t _ ht => getD_in (by simpa using ht) (getD_replicate_false _ _)⟩
  have e : l.toArray.size = trues ms + (falses ms + (l.toArray.size - ms.length)) := by have := trues_falses ms; omega
  rw [show wpAny P .any l.toArray Q l.toArray.size (Array.replicate l.toArray.size false) a w = wpAny P .any l.toArray Q (trues ms + (falses ms + (l.toArray.size - ms.length))) (Array.replicate l.toArray.size false) a w by rw [← e]]
  refine pre_lex (ms0 := ms) hsel hn hQ _ (fun listed a1 inv hm hK hL => ?_) ms l 0 _ a hidx (by omega) inv0 (fun i _ h => absurd h (by omega)) (fun j => by rw [Nat.zero_add]) hlex h
  have H := headM_lex (md := .any) (n := ms.length) (ms0 := ms) hsel hs hc hn (fun listed' h => seqB_ready h) ms l 0 listed a1 hidx (by omega) inv hm hK hL
  exact any_of_head (Q := Q) (g := l.toArray.size - ms.length) (fun listed' a' hL' w' hw' => by
    have := wpAny_of_seq (md := .any) (Q' := Q) (l.drop ms.length) ms.length listed' a' w' (fun j => by simp [List.getElem?_drop]) (by rw [hdl]; exact hL'.1) (hL'.2 w' hw')
    rwa [hdl] at this) _ _ _ H w hw

/-- No panic is let out. -/
def noPanic (Q : Exit → Act → World → Prop) : Exit → Act → World → Prop
  | .panic _, _, _ => False
  | e, a, w => Q e a w
theorem noPanic_normal {Q : Exit → Act → World → Prop} {a : Act} {w : World} (h : Q .normal a w) : noPanic Q .normal a w := h
theorem noPanic_le {Q : Exit → Act → World → Prop} (e : Exit) (a : Act) (w : World) (h : noPanic Q e a w) : Q e a w := by
  cases e <;> first | exact h | exact h.elim

theorem wp_leQ {o : Oper} {a : Act} {w : World} {K : Act → World → Prop} {Q Q' : Exit → Act → World → Prop} (hQ : ∀ e a w, Q e a w → Q' e a w) (hh : o.wp P a w K Q) : o.wp P a w K Q' := by
  unfold Oper.wp at *
  generalize (execOp a.eval o).run P w = r at *
  cases r with
  | ok n w' =>
    cases n <;> simp only [Oper.upon] at hh ⊢ <;>
      first
        | exact hh
        | exact Calls.mono hh (fun e w'' he => by cases e <;> first | exact he | exact hQ _ _ _ he | exact (let ⟨a, w, h⟩ := he; ⟨a, w, hQ _ _ _ h⟩))
  | halt x w' => cases x <;> simp only [Oper.upon] at hh ⊢ <;> first | exact hh | exact hQ _ _ _ hh
theorem wpOp_leQ {i : Nat} {a : Act} {w : World} {K : Act → World → Prop} {Q Q' : Exit → Act → World → Prop} (hQ : ∀ e a w, Q e a w → Q' e a w) (hh : wpOp P ops Q i K a w) : wpOp P ops Q' i K a w := by
  unfold wpOp at *
  split
  · simpa [*] using hh
  · rename_i o ho
    simp only [ho] at hh
    split
    · rename_i hw; simp only [hw, if_true] at hh; exact hh.imp (wp_leQ hQ) (fun ⟨h1, a, w, h⟩ => ⟨h1, a, w, hQ _ _ _ h⟩)
    · rename_i hw; simp only [hw] at hh; exact hh
theorem wpAny_leQ {Q Q' : Exit → Act → World → Prop} (hQ : ∀ e a w, Q e a w → Q' e a w) : ∀ (f : Nat) (listed : Array Bool) (a : Act) (w : World), wpAny P md ops Q f listed a w → wpAny P md ops Q' f listed a w
  | 0, _, _, _, h => ⟨h.1, hQ _ _ _ h.2⟩
  | f + 1, _, _, _, h => ⟨fun h0 => hQ _ _ _ (h.1 h0), fun i hi => wpOp_mono (fun a w h => wpAny_leQ hQ f _ a w h) (wpOp_leQ hQ (h.2 i hi))⟩

theorem wp_region_masked {id : Nat} {Q : Exit → Act → World → Prop} {a : Act} {w : World} {l : List Oper} (C : World → Prop) (ms : List Bool) (hm : P.follows .mixedOrders = true) (hB : preTailB .any l.toArray ms = true) (hw : C w.drew)
    (h : wpMoves (fun a1 => wpQuiet P l.toArray C (fun a' => ∀ w', C w' → wpList P l.toArray (noPanic Q) (l.drop ms.length) a' w') (unmasked ms l) a1) (masked ms l) a) : (Code.region id l.toArray true).wp P Q a w :=
  wp_region_any hm (wpAny_leQ noPanic_le _ _ _ _ (any_of_masked ms hB (fun _ _ _ _ _ h => h) hw h))

/-- The same in a round of a range over a function. -/
theorem wpIn_region_masked {id r n : Nat} {Q : Exit → Act → World → Prop} {a : Act} {w : World} {l : List Oper} (C : World → Prop) (ms : List Bool) (hm : P.follows .mixedOrders = true) (hB : preTailB .any l.toArray ms = true) (hd : noDefer l = true) (hout : ¬ LetsOut Q) (hw : C w.drew)
    (h : wpMoves (fun a1 => wpQuiet P l.toArray C (fun a' => ∀ w', C w' → wpList P l.toArray (noPanic Q) (l.drop ms.length) a' w') (unmasked ms l) a1) (masked ms l) a) : (Code.region id l.toArray true).wpIn (Fence.wide.inRound r) n P Q a w :=
  wpIn_region_any hm (anyIn_of_any (by simpa using hd) hout _ _ _ _ (wpAny_leQ noPanic_le _ _ _ _ (any_of_masked ms hB (fun _ _ _ _ _ h => h) hw h)))
end
end Go.Proofs.Ytjldogfpccbkeaa

/- A region that draws and whose operations read what lies unturned, or call what leaves it unturned: one walk in the order of the text. No program in sight. -/
set_option linter.unusedVariables false
set_option linter.unusedSimpArgs false
namespace Go.Proofs.Ytjldogfpccbkeaa
open Go.RowKit

theorem jump_ret {l : Nat} {J : Act → World → Prop} {Q : Exit → Act → World → Prop} {a : Act} {w : World} : Exit.jump l J Q .ret a w = Q .ret a w := rfl
/-- The worlds in which all of W lies unturned. -/
structure Wx (W : World) : Type where
  u : World
  fr : Fr0 W u
instance (W : World) : Nonempty (Wx W) := ⟨⟨W, Fr.refl _ W⟩⟩
def CgX (W U : World) : Prop := ∃ x : Wx W, U = x.u
theorem CgX.fr {W U : World} (h : CgX W U) : Fr0 W U := by obtain ⟨x, rfl⟩ := h; exact x.fr
theorem quiet_cg {P : Program} {f : FuncId} {args : Array Value} {W : World} {x : Wx W} {v : Value} (h : Calls P f args x.u fun e w' => e = .returned v ∧ Fr0 x.u w') :
    Calls P f args x.u fun e w'' => e = .returned v ∧ ∃ y : Wx W, w'' = y.u := h.mono fun _ w' ⟨he, hf⟩ => ⟨he, ⟨w', x.fr.trans hf⟩, rfl⟩
theorem cg_cell {W : World} {p : Addr} {v : Value} (h : W.cell? p = some v) (x : Wx W) : x.u.cell? p = some v := Fr.cell x.fr h (fun h => h)
theorem wpq_mono {P : Program} {ops : Array Oper} {C : World → Prop} {Q Q' : Act → Prop} (hQ : ∀ a, Q a → Q' a) : ∀ (l : List Oper) (a : Act), wpQuiet P ops C Q l a → wpQuiet P ops C Q' l a
  | [], a, h => hQ a h
  | o :: rest, a, h => by
    unfold wpQuiet at *
    split
    · rename_i hw
      rw [if_pos hw] at h
      exact Oper.quiet_mono (fun a h => wpq_mono hQ rest a h) h
    · rename_i hw
      rw [if_neg hw] at h
      exact wpq_mono hQ rest _ h
theorem wp_region_cg {P : Program} {id : Nat} {Q : Exit → Act → World → Prop} {a : Act} {w : World} {l : List Oper} (hm : P.follows .mixedOrders = true) (hB : Region.lexB .any l.toArray = true)
    (h : wpQuiet P l.toArray (fun U => ∃ x : Wx w, U = x.u) (fun a' => ∀ w', Fr0 w w' → Q .normal a' w') l a) : (Code.region id l.toArray true).wp P Q a w := by
  refine wp_region_quiet (C := fun U => ∃ x : Wx w, U = x.u) hm hB ⟨⟨w.drew, (Fr.refl _ w).drew⟩, rfl⟩ ?_
  refine wpq_mono ?_ _ _ (by simpa using h)
  rintro a' h' _ ⟨x, rfl⟩
  exact h' _ x.fr
theorem heap_alloc_nn {w : World} {n : Nat} {o : Obj} (hn : w.heap.size = n) : (w.alloc o).heap[n]? = some o := hn ▸ heap_alloc_new w o
theorem keeps_of_fr {S : Nat → Prop} {W W' : World} (h : Fr S W W') (n : Nat) (hS : ∀ k o, n ≤ k → W.heap[k]? = some o → o.isCells = false → ¬ S k) : KeepsFrom n W W' :=
  ⟨h.size, fun k o hk ho hc => h.blk ho (hS k o hk ho hc)⟩
theorem ne_row {n : Nat} {A : World} {row : Option Nat} (hr : ∀ r, row = some r → n ≤ r ∧ ∃ o : Obj, A.heap[r]? = some o ∧ o.isCells = false) : ∀ k cs t fr, A.heap[k]? = some (.cells cs t fr) → some k ≠ row := by
  rintro k cs t fr hk rfl
  obtain ⟨_, o, ho, hc⟩ := hr k rfl
  rw [hk] at ho; cases ho; simp [Obj.isCells] at hc
end Go.Proofs.Ytjldogfpccbkeaa

/- Regions in whatever order, in which memory is made and stored into beside calls that turn nothing: the operations that yield one value in every world in which the base lies unturned are taken first. No program in sight. -/
set_option linter.unusedVariables false
set_option linter.unusedSimpArgs false
namespace Go.Proofs.Ytjldogfpccbkeaa
open Go.RowKit
section
variable {P : Program} {md : Region.Mode} {ops : Array Oper} {Q : Exit → Act → World → Prop} {R : World → Prop}

/-- In every world of R the operation leaves v and turns nothing. -/
def YG (P : Program) (ops : Array Oper) (R : World → Prop) (o : Oper) (v : Value) (a : Act) : Prop :=
  (Region.wanted o (yielded ops a.tmps) = true ∧ ∀ U, R U → o.quietAt P a (fun V => Fr0 U V) U v) ∨
  (Region.wanted o (yielded ops a.tmps) = false ∧ v = undef)
theorem YG.of_same {o : Oper} {v : Value} {a a' : Act} (hy : YG P ops R o v a) (he : execOp a'.eval o = execOp a.eval o)
    (hw : Region.wanted o (yielded ops a'.tmps) = Region.wanted o (yielded ops a.tmps)) : YG P ops R o v a' := by
  unfold YG Oper.quietAt at *
  rw [he, hw]
  exact hy
theorem YG.wpOp {i : Nat} {o : Oper} {v : Value} {a : Act} (hi : ops[i]? = some o) (hy : YG P ops R o v a)
    {K : Act → World → Prop} {U : World} (hU : R U) (h : ∀ V, Fr0 U V → K (a.put o.dst v) V) : wpOp P ops Q i K a U := by
  unfold Go.wpOp
  simp only [hi]
  rcases hy with ⟨hw, hv⟩ | ⟨hw, rfl⟩
  · simp only [hw, if_true, Oper.wp]
    have hq := hv U hU
    unfold Oper.quietAt at hq
    refine .inl ?_
    generalize (execOp a.eval o).run P U = r at *
    cases r with
    | ok n w' =>
      cases n <;> simp only [Oper.quietUpon, Oper.upon] at hq ⊢
      case value u => obtain ⟨rfl, rfl⟩ := hq; exact h _ (Fr.refl _ _)
      case skip => obtain ⟨rfl, rfl⟩ := hq; exact h _ (Fr.refl _ _)
      case enter f args =>
        obtain ⟨rfl, hc⟩ := hq
        exact hc.mono fun e w'' he => by obtain ⟨rfl, hf⟩ := he; exact h _ hf
    | halt x w' => simp only [Oper.quietUpon] at hq
  · simp only [hw, Bool.false_eq_true, if_false]; exact h _ (Fr.refl _ _)
theorem wpOp_putG {j : Nat} {oi oj : Oper} {v : Value} (hj : ops[j]? = some oj) (hap : oi.apart ops oj = true)
    (hsi : ∀ cs b, oi.op ≠ .select cs b) (hsj : ∀ cs b, oj.op ≠ .select cs b)
    (hQ : ∀ c a w, Q (.panic c) (a.put oi.dst v) w → Q (.panic c) a w) {K : Act → World → Prop} {a : Act} {w : World}
    (hy : YG P ops R oi v a) (h : wpOp P ops Q j K (a.put oi.dst v) w) :
    wpOp P ops Q j (fun a' w' => YG P ops R oi v a' ∧ K (a'.put oi.dst v) w') a w := by
  obtain ⟨h1, h2, h3⟩ := Oper.apart_spec hap
  have keep : ∀ (a : Act), YG P ops R oi v a → ∀ u, YG P ops R oi v (a.put oj.dst u) := fun a hy u =>
    hy.of_same (execOp_put oi hsi a oj.dst u h3) (wanted_put oi a oj.dst u h3)
  have keepD : ∀ d, YG P ops R oi v { a with defers := d :: a.defers } := fun d => hy.of_same rfl rfl
  unfold wpOp at *
  simp only [hj] at *
  rw [wanted_put oj a oi.dst v h1] at h
  split
  · rename_i hw
    simp only [hw, if_true] at h
    rcases h with h | ⟨hasks, hlets⟩
    case inr => exact .inr ⟨by unfold Oper.asks at *; rw [execOp_put oj hsj a oi.dst v h1] at hasks; exact hasks, hlets⟩
    refine .inl ?_
    unfold Oper.wp at *
    rw [execOp_put oj hsj a oi.dst v h1] at h
    generalize (execOp a.eval oj).run P w = r at *
    cases r with
    | ok n w' =>
      cases n <;> simp only [Oper.upon] at h ⊢
      case value u => exact ⟨keep a hy u, by rw [← Act.put_comm a v u h2]; exact h⟩
      case skip => exact ⟨keep a hy _, by rw [← Act.put_comm a v undef h2]; exact h⟩
      case defer d =>
        refine ⟨keep _ (keepD d) _, ?_⟩
        rw [← Act.put_comm _ v undef h2, ← Act.put_defers]
        exact h
      case enter f args =>
        refine Calls.mono h fun e w'' he => ?_
        cases e with
        | returned u => exact ⟨keep a hy u, by rw [← Act.put_comm a v u h2]; exact he⟩
        | panicked c => exact hQ _ _ _ he
        | outgrown => exact he
      case row row args => exact Rows.mono h fun u w'' he => ⟨keep a hy u, by rw [← Act.put_comm a v u h2]; exact he⟩
    | halt x w' =>
      cases x <;> simp only [Oper.upon] at h ⊢
      case panic u => exact hQ _ _ _ h
  · rename_i hw
    simp only [hw] at h
    exact ⟨keep a hy _, by rw [← Act.put_comm a v undef h2]; exact h⟩

/-- Whatever order is picked from here on, in every world in which W lies unturned. -/
def wpAnyG (P : Program) (md : Region.Mode) (ops : Array Oper) (Q : Exit → Act → World → Prop) (R : World → Prop) : Nat → Array Bool → Act → World → Prop
  | 0, listed, a, W => Region.ready md ops listed = [] ∧ ∀ U, Fr0 W U → Q .normal a U
  | f + 1, listed, a, W =>
    (Region.ready md ops listed = [] → ∀ U, Fr0 W U → Q .normal a U) ∧
    ∀ i ∈ Region.ready md ops listed, ∀ U, Fr0 W U → wpOp P ops Q i (fun a' w' => ∃ W', R W' ∧ Fr0 W' w' ∧ wpAnyG P md ops Q R f (listed.setIfInBounds i true) a' W') a U
theorem wpAny_of_G : ∀ (f : Nat) (listed : Array Bool) (a : Act) (W : World), wpAnyG P md ops Q R f listed a W → ∀ U, Fr0 W U → wpAny P md ops Q f listed a U
  | 0, _, _, _, h, U, hU => ⟨h.1, h.2 U hU⟩
  | f + 1, _, _, _, h, U, hU => ⟨fun h0 => h.1 h0 U hU, fun i hi => wpOp_mono (fun a' w' ⟨W', _, h2, h3⟩ => wpAny_of_G f _ a' W' h3 w' h2) (h.2 i hi U hU)⟩
theorem wpAnyG_first {i : Nat} {oi : Oper} {v : Value} (hR : ∀ U V, R U → Fr0 U V → R V) (hi : ops[i]? = some oi) (hsel : ∀ (j : Nat) (o : Oper) cs b, ops[j]? = some o → o.op ≠ .select cs b)
    (hQ : ∀ c a w, Q (.panic c) (a.put oi.dst v) w → Q (.panic c) a w) :
    ∀ (f : Nat) (listed : Array Bool) (a : Act) (W : World),
      (∀ j oj, ops[j]? = some oj → j ≠ i → listed.getD j true = false → (∀ e ∈ oj.after, Region.binds md e = true → e.on ≠ i) → oi.apart ops oj = true) →
      i ∈ Region.ready md ops listed → YG P ops R oi v a → R W →
      wpAnyG P md ops Q R f (listed.setIfInBounds i true) (a.put oi.dst v) W → wpAnyG P md ops Q R (f + 1) listed a W := by
  intro f
  induction f with
  | zero =>
    intro listed a W _ hr hy hS H
    refine ⟨fun h => (by rw [h] at hr; cases hr), fun j hj U hU => ?_⟩
    by_cases hji : j = i
    · subst hji; exact hy.wpOp hi (hR _ _ hS hU) (fun V hV => ⟨W, hS, hU.trans hV, H⟩)
    · have := ready_mono hj hji
      rw [H.1] at this
      cases this
  | succ f ih =>
    intro listed a W hfree hr hy hS H
    refine ⟨fun h => (by rw [h] at hr; cases hr), fun j hj U hU => ?_⟩
    by_cases hji : j = i
    · subst hji; exact hy.wpOp hi (hR _ _ hS hU) (fun V hV => ⟨W, hS, hU.trans hV, H⟩)
    · have h1 := H.2 j (ready_mono hj hji) U hU
      obtain ⟨hjun, oj, hoj, hall⟩ := mem_ready.1 hj
      have hnot : ∀ e ∈ oj.after, Region.binds md e = true → e.on ≠ i := fun e he hb heq => by
        have h1 := hall e he hb
        have h0 := (mem_ready.1 hr).1
        rw [heq] at h1
        rcases Nat.lt_or_ge i listed.size with h' | h'
        · simp [h'] at h0 h1; rw [h0] at h1; cases h1
        · simp [Array.getElem?_eq_none h'] at h1
      have h2 := wpOp_putG hoj (hfree j oj hoj hji hjun hnot) (fun cs b => hsel i oi cs b hi) (fun cs b => hsel j oj cs b hoj) hQ hy h1
      have hfree' : ∀ k ok, ops[k]? = some ok → k ≠ i → (listed.setIfInBounds j true).getD k true = false →
          (∀ e ∈ ok.after, Region.binds md e = true → e.on ≠ i) → oi.apart ops ok = true := fun k ok hk hki hun hno => by
        refine hfree k ok hk hki ?_ hno
        by_cases hjk : j = k
        · subst hjk; exact hjun
        · rw [getD_set_ne true hjk] at hun; exact hun
      refine wpOp_mono (fun a' w' h3 => ?_) h2
      obtain ⟨hy', W', g1, g2, g3⟩ := h3
      refine ⟨W', g1, g2, ih (listed.setIfInBounds j true) a' W' hfree' (ready_mono hr (Ne.symm hji)) hy' g1 ?_⟩
      rw [Array.setIfInBounds_comm _ _ hji]
      exact g3

/-- These may be taken one behind the other. -/
def takesB (md : Region.Mode) (ops : Array Oper) : List Nat → Array Bool → Bool
  | [], _ => true
  | i :: l, listed => (Region.ready md ops listed).contains i && Region.free md ops listed i && takesB md ops l (listed.setIfInBounds i true)
def takeL : List Nat → Array Bool → Array Bool
  | [], listed => listed
  | i :: l, listed => takeL l (listed.setIfInBounds i true)
/-- Each has a temporary of its own, below n. -/
def dstsB (ops : Array Oper) (n : Nat) : List Nat → Bool
  | [] => true
  | i :: l => (match (ops[i]?).bind (·.dst) with
    | some d => decide (d < n) && l.all fun j => match (ops[j]?).map (·.dst) with
      | some e => e != some d
      | none => false
    | none => false) && dstsB ops n l
theorem wpq_keeps {C : World → Prop} {af : Act} : ∀ (l : List Oper) (a : Act), wpQuiet P ops C (· = af) l a → ∀ d, (∀ o ∈ l, o.dst ≠ some d) → af.tmps[d]? = a.tmps[d]?
  | [], a, h, d, _ => by rw [show a = af from h]
  | o :: l, a, h, d, hd => by
    have h1 : ∀ v, (a.put o.dst v).tmps[d]? = a.tmps[d]? := fun v => by
      have := hd o (List.mem_cons_self ..)
      cases ho : o.dst with
      | none => rfl
      | some e =>
        rw [ho] at this
        simp only [Act.put]
        rw [Array.getElem?_setIfInBounds_ne]
        intro he; exact this (he ▸ rfl)
    unfold wpQuiet at h
    split at h
    · obtain ⟨v, _, h2⟩ := h
      rw [wpq_keeps l _ h2 d (fun o' ho' => hd o' (List.mem_cons_of_mem _ ho')), h1]
    · rw [wpq_keeps l _ h d (fun o' ho' => hd o' (List.mem_cons_of_mem _ ho')), h1]
theorem put_get {a : Act} {d : Nat} {v : Value} (h : d < a.tmps.size) : (a.put (some d) v).tmps[d]? = some v := by
  simp [Act.put, h]
theorem put_size {a : Act} {d : Option Tmp} {v : Value} : (a.put d v).tmps.size = a.tmps.size := by cases d <;> simp [Act.put]

theorem takes_aux {f n : Nat} {W : World} {af : Act} (hsel : Region.noSelect ops = true) (hQ : ∀ c a d v w, Q (.panic c) (a.put d v) w → Q (.panic c) a w) (hR : ∀ U V, R U → Fr0 U V → R V) (hS : R W) :
    ∀ (is : List Nat) (ls : List Oper) (listed : Array Bool) (a : Act), (is.map fun i => ops[i]?) = ls.map some → takesB md ops is listed = true → a.tmps.size = n → dstsB ops n is = true →
      (∀ W', R W' → wpQuiet P ops (fun U => ∃ x : Wx W', U = x.u) (· = af) ls a) →
      wpAnyG P md ops Q R f (takeL is listed) af W → wpAnyG P md ops Q R (f + is.length) listed a W
  | [], [], listed, a, _, _, _, _, H, h => by
    have : a = af := H W hS
    subst this
    exact h
  | [], _ :: _, _, _, hm, _, _, _, _, _ => by simp at hm
  | _ :: _, [], _, _, hm, _, _, _, _, _ => by simp at hm
  | i :: is, o :: ls, listed, a, hm, hB, hn, hD, H, h => by
    simp only [List.map_cons, List.cons.injEq] at hm
    obtain ⟨hio, hm⟩ := hm
    simp only [takesB, Bool.and_eq_true] at hB
    obtain ⟨⟨hr, hf⟩, hB⟩ := hB
    simp only [dstsB, Bool.and_eq_true] at hD
    obtain ⟨hd, hD⟩ := hD
    rw [hio] at hd
    simp only [Option.bind_some] at hd
    cases hdo : o.dst with
    | none => rw [hdo] at hd; cases hd
    | some d =>
      rw [hdo] at hd
      simp only [Bool.and_eq_true, decide_eq_true_eq] at hd
      have hnd : ∀ o' ∈ ls, o'.dst ≠ some d := by
        intro o' ho' he
        obtain ⟨k, hk, hk2⟩ := List.getElem_of_mem ho'
        have hk3 : k < is.length := by have := congrArg List.length hm; simp at this; omega
        have hk4 := List.all_eq_true.1 hd.2 is[k] (List.getElem_mem hk3)
        have hk5 : ops[is[k]]? = some o' := by
          have := congrArg (fun l => l[k]?) hm
          simp only [List.getElem?_map, List.getElem?_eq_getElem hk3, List.getElem?_eq_getElem hk, Option.map_some, hk2] at this
          simpa using this
        rw [hk5] at hk4
        simp [he] at hk4
      have hst : ∃ v, YG P ops R o v a ∧ ∀ W', R W' → wpQuiet P ops (fun U => ∃ x : Wx W', U = x.u) (· = af) ls (a.put o.dst v) := by
        by_cases hw : Region.wanted o (yielded ops a.tmps) = true
        · have hv : ∀ W', R W' → (∀ w, (∃ x : Wx W', w = x.u) → o.quietAt P a (fun U => ∃ x : Wx W', U = x.u) w (af.tmps[d]?.getD undef)) ∧ wpQuiet P ops (fun U => ∃ x : Wx W', U = x.u) (· = af) ls (a.put o.dst (af.tmps[d]?.getD undef)) := by
            intro W' hW'
            have h1 := H W' hW'
            unfold wpQuiet at h1
            rw [if_pos hw] at h1
            obtain ⟨v, h2, h3⟩ := h1
            have h4 := wpq_keeps ls _ h3 d hnd
            rw [hdo, put_get (by rw [hn]; exact hd.1)] at h4
            rw [h4]
            exact ⟨h2, h3⟩
          refine ⟨af.tmps[d]?.getD undef, .inl ⟨hw, fun U hU => ?_⟩, fun W' hW' => (hv W' hW').2⟩
          have h5 := (hv U hU).1 U ⟨⟨U, Fr.refl _ _⟩, rfl⟩
          unfold Oper.quietAt at h5 ⊢
          generalize (execOp a.eval o).run P U = r at *
          cases r with
          | ok nx w' =>
            cases nx <;> simp only [Oper.quietUpon] at h5 ⊢
            case value u => exact h5
            case skip => exact h5
            case enter g args => exact ⟨h5.1, h5.2.mono fun e w'' he => ⟨he.1, by obtain ⟨y, rfl⟩ := he.2; exact y.fr⟩⟩
          | halt x w' => simp only [Oper.quietUpon] at h5
        · refine ⟨undef, .inr ⟨by simpa using hw, rfl⟩, fun W' hW' => ?_⟩
          have h1 := H W' hW'
          unfold wpQuiet at h1
          rwa [if_neg hw] at h1
      obtain ⟨v, hy, hrest⟩ := hst
      have ih := takes_aux hsel hQ hR hS is ls (listed.setIfInBounds i true) (a.put o.dst v) hm hB (by rw [put_size]; exact hn) hD hrest h
      exact wpAnyG_first hR hio (Region.noSelect_spec hsel) (fun c a w => hQ c a o.dst v w) (f + is.length) listed a W (Region.free_spec hio hf) (by simpa using hr) hy hS ih

/-- The first n operations are taken first. -/
theorem takesG {l : List Oper} {W : World} {a af : Act} {id : Nat} (n : Nat) (R : World → Prop) (hR : ∀ U V, R U → Fr0 U V → R V) (hS : R W) (hm : P.follows .mixedOrders = true) (hQ : ∀ c a d v w, Q (.panic c) (a.put d v) w → Q (.panic c) a w)
    (hB : (Region.noSelect l.toArray && takesB .any l.toArray (List.range n) (Array.replicate l.length false) && decide (n ≤ l.length)) = true) (hD : dstsB l.toArray a.tmps.size (List.range n) = true)
    (H : ∀ W', R W' → wpQuiet P l.toArray (fun U => ∃ x : Wx W', U = x.u) (· = af) (l.take n) a)
    (h : wpAnyG P .any l.toArray Q R (l.length - n) (takeL (List.range n) (Array.replicate l.length false)) af W) : (Code.region id l.toArray true).wp P Q a W := by
  simp only [Bool.and_eq_true, decide_eq_true_eq] at hB
  obtain ⟨⟨h1, h2⟩, h3⟩ := hB
  refine wp_region_any hm (wpAny_of_G (R := R) _ _ _ W ?_ _ (Fr.refl _ W).drew)
  have := takes_aux (P := P) (Q := Q) (R := R) (md := .any) (ops := l.toArray) (f := l.length - n) (n := a.tmps.size) (W := W) (af := af) h1 hQ hR hS (List.range n) (l.take n) (Array.replicate l.length false) a
    (by
      apply List.ext_getElem?
      intro k
      simp only [List.getElem?_map, List.getElem?_range', List.getElem?_take]
      by_cases hk : k < n
      · rw [List.getElem?_range hk]
        simp only [Option.map_some, if_pos hk, List.getElem?_toArray]
        rw [List.getElem?_eq_getElem (by omega : k < l.length)]
        rfl
      · rw [List.getElem?_eq_none (by simpa using hk)]
        simp [hk]) h2 rfl hD H h
  rw [List.length_range, Nat.sub_add_cancel h3] at this
  simpa using this

theorem takesG_ex {l : List Oper} {W : World} {a : Act} {id : Nat} (n : Nat) (R : World → Prop) (hR : ∀ U V, R U → Fr0 U V → R V) (hS : R W) (hm : P.follows .mixedOrders = true) (hQ : ∀ c a d v w, Q (.panic c) (a.put d v) w → Q (.panic c) a w)
    (hB : (Region.noSelect l.toArray && takesB .any l.toArray (List.range n) (Array.replicate l.length false) && decide (n ≤ l.length)) = true) (hD : dstsB l.toArray a.tmps.size (List.range n) = true)
    (h : ∃ af, (∀ W', R W' → wpQuiet P l.toArray (fun U => ∃ x : Wx W', U = x.u) (fun a' => a' = af) (l.take n) a) ∧
      wpAnyG P .any l.toArray Q R (l.length - n) (takeL (List.range n) (Array.replicate l.length false)) af W) : (Code.region id l.toArray true).wp P Q a W := by
  obtain ⟨af, h1, h2⟩ := h
  exact takesG n R hR hS hm hQ hB hD h1 h2

/-- Each of these comes up next. -/
def AllG (P : Program) (md : Region.Mode) (ops : Array Oper) (Q : Exit → Act → World → Prop) (R : World → Prop) (f : Nat) (listed : Array Bool) (a : Act) (W : World) (rs : List Nat) : Prop :=
  ∀ i ∈ rs, ∀ U, Fr0 W U → wpOp P ops Q i (fun a' w' => ∃ W', R W' ∧ Fr0 W' w' ∧ wpAnyG P md ops Q R f (listed.setIfInBounds i true) a' W') a U
theorem AllG.nil {f : Nat} {listed : Array Bool} {a : Act} {W : World} : AllG P md ops Q R f listed a W [] := fun _ h => by cases h
theorem AllG.cons {f i : Nat} {listed : Array Bool} {a : Act} {W : World} {o : Oper} {rs : List Nat} (ho : ops[i]? = some o)
    (h : ∀ U, Fr0 W U → ∀ K' : Act → World → Prop, Shut (∀ a' w', (∃ W', R W' ∧ Fr0 W' w' ∧ wpAnyG P md ops Q R f (listed.setIfInBounds i true) a' W') → K' a' w') →
      if Region.wanted o (yielded ops a.tmps) = true then Oper.wp P o a U K' Q else K' (a.put o.dst undef) U)
    (hs : AllG P md ops Q R f listed a W rs) : AllG P md ops Q R f listed a W (i :: rs) := fun j hj => by
  rcases List.mem_cons.1 hj with rfl | hj
  · exact fun U hU => wpOp_step ho (fun K' hK => h U hU K' hK)
  · exact hs j hj
theorem wpAnyG_ready {rs : List Nat} {f : Nat} {listed : Array Bool} {a : Act} {W : World} (hr : Region.ready md ops listed = rs) (hne : rs ≠ [])
    (h : AllG P md ops Q R f listed a W rs) : wpAnyG P md ops Q R (f + 1) listed a W := ⟨fun h0 => absurd (hr ▸ h0) hne, hr ▸ h⟩
theorem wpAnyG_done {listed : Array Bool} {a : Act} {W : World} (hr : Region.ready md ops listed = []) (h : ∀ U, Fr0 W U → Q .normal a U) : wpAnyG P md ops Q R 0 listed a W := ⟨hr, h⟩
end
end Go.Proofs.Ytjldogfpccbkeaa

/- Regions in whatever order, in which calls leave values that hang on the world (new memory): each operation leaves a value with a property that stays while the world only grows. No program in sight. -/
set_option linter.unusedVariables false
set_option linter.unusedSimpArgs false
namespace Go.Proofs.Ytjldogfpccbkeaa
open Go.RowKit
section
variable {P : Program} {md : Region.Mode} {ops : Array Oper} {Q : Exit → Act → World → Prop} {R : World → Prop}

/-- The values of these operations, put down. -/
def puts (a : Act) (x : Nat → Value) : List (Nat × Option Tmp) → Act
  | [] => a
  | q :: l => puts (a.put q.2 (x q.1)) x l
def upd (x : Nat → Value) (i : Nat) (v : Value) : Nat → Value := fun j => if j = i then v else x j
theorem upd_self (x : Nat → Value) (i : Nat) (v : Value) : upd x i v i = v := if_pos rfl
theorem upd_ne {x : Nat → Value} {i j : Nat} {v : Value} (h : j ≠ i) : upd x i v j = x j := if_neg h
theorem puts_agree {x y : Nat → Value} : ∀ (l : List (Nat × Option Tmp)) (a : Act), (∀ q ∈ l, x q.1 = y q.1) → puts a x l = puts a y l
  | [], _, _ => rfl
  | q :: l, a, h => by
    rw [puts, puts, h q (List.mem_cons_self ..)]
    exact puts_agree l _ (fun r hr => h r (List.mem_cons_of_mem _ hr))
theorem puts_out {x : Nat → Value} {d : Option Tmp} {v : Value} : ∀ (l : List (Nat × Option Tmp)) (a : Act), (∀ q ∈ l, ∀ e, d = some e → q.2 ≠ some e) → (puts a x l).put d v = puts (a.put d v) x l
  | [], _, _ => rfl
  | q :: l, a, h => by
    rw [puts, puts, puts_out l _ (fun r hr => h r (List.mem_cons_of_mem _ hr)), Act.put_comm a v (x q.1) (h q (List.mem_cons_self ..))]
theorem put_twice (a : Act) (d : Option Tmp) (u v : Value) : (a.put d u).put d v = a.put d v := by
  cases d with
  | none => rfl
  | some d => simp [Act.put]
theorem put_own (a : Act) (d : Option Tmp) : ∃ v, a.put d v = a := by
  cases d with
  | none => exact ⟨undef, rfl⟩
  | some d =>
    refine ⟨a.tmps.getD d undef, ?_⟩
    simp only [Act.put]
    have : a.tmps.setIfInBounds d (a.tmps.getD d undef) = a.tmps := by
      apply Array.ext_getElem?
      intro k
      rw [Array.getElem?_setIfInBounds]
      split
      · rename_i h
        subst h
        split
        · rename_i h; simp [h]
        · rename_i h; simp [Array.getElem?_eq_none (Nat.le_of_not_lt h)]
      · rfl
    rw [this]
/-- No two write one temporary. -/
def apartB : List (Nat × Option Tmp) → Bool
  | [] => true
  | q :: l => (l.all fun r => (r.1 != q.1) && (q.2 == none || r.2 != q.2)) && apartB l
theorem apart_cons {q : Nat × Option Tmp} {l : List (Nat × Option Tmp)} (h : apartB (q :: l) = true) : (∀ r ∈ l, r.1 ≠ q.1 ∧ ∀ e, q.2 = some e → r.2 ≠ some e) ∧ apartB l = true := by
  simp only [apartB, Bool.and_eq_true, List.all_eq_true] at h
  refine ⟨fun r hr => ?_, h.2⟩
  have := h.1 r hr
  simp only [bne_iff_ne, ne_eq, Bool.or_eq_true, beq_iff_eq] at this
  refine ⟨this.1, fun e he => ?_⟩
  rcases this.2 with h2 | h2
  · rw [h2] at he; cases he
  · rw [← he]; exact h2
theorem apart_nodup : ∀ (ds : List (Nat × Option Tmp)), apartB ds = true → (ds.map (·.1)).Nodup
  | [], _ => by simp
  | q :: l, h => by
    obtain ⟨h1, h2⟩ := apart_cons h
    rw [List.map_cons, List.nodup_cons]
    refine ⟨fun h => ?_, apart_nodup l h2⟩
    obtain ⟨r, hr, hrq⟩ := List.mem_map.1 h
    exact (h1 r hr).1 hrq
theorem puts_init (a : Act) : ∀ (l : List (Nat × Option Tmp)), apartB l = true → ∃ x, puts a x l = a
  | [], _ => ⟨fun _ => undef, rfl⟩
  | q :: l, h => by
    obtain ⟨h1, h2⟩ := apart_cons h
    obtain ⟨x, hx⟩ := puts_init a l h2
    obtain ⟨v, hv⟩ := put_own a q.2
    refine ⟨upd x q.1 v, ?_⟩
    rw [puts, upd_self, hv, puts_agree l a (fun r hr => upd_ne (h1 r hr).1), hx]
theorem puts_put {x : Nat → Value} {q : Nat × Option Tmp} {v : Value} : ∀ (l : List (Nat × Option Tmp)) (a : Act), apartB l = true → q ∈ l → (puts a x l).put q.2 v = puts a (upd x q.1 v) l
  | [], _, _, h => by cases h
  | r :: l, a, h, hq => by
    obtain ⟨h1, h2⟩ := apart_cons h
    by_cases e : q = r
    · subst e
      rw [puts, puts, upd_self, puts_out l _ (fun r hr e he => (h1 r hr).2 e he), put_twice]
      exact puts_agree l _ (fun r hr => (upd_ne (h1 r hr).1).symm)
    · have hq' : q ∈ l := by
        rcases List.mem_cons.1 hq with h | h
        · exact absurd h e
        · exact h
      rw [puts, puts, upd_ne (Ne.symm (h1 q hq').1), puts_put l _ h2 hq']
/-- Is the operation i behind the operation j? -/
def depB (md : Region.Mode) (ops : Array Oper) (i j : Nat) : Bool := ((ops[i]?).map fun o => o.after.any fun e => Region.binds md e && e.on == j).getD false
theorem depB_spec {i j : Nat} (h : depB md ops i j = true) {o : Oper} (ho : ops[i]? = some o) : ∃ e ∈ o.after, Region.binds md e = true ∧ e.on = j := by
  unfold depB at h
  rw [ho] at h
  simp only [Option.map_some, Option.getD_some] at h
  rw [Array.any_eq_true] at h
  obtain ⟨k, hk, h⟩ := h
  simp only [Bool.and_eq_true, beq_iff_eq] at h
  exact ⟨o.after[k], Array.getElem_mem hk, h.1, h.2⟩
/-- These operations are what is left ahead of a tail; each stands behind what is taken or what is left. -/
def relB (md : Region.Mode) (ops : Array Oper) (ds : List (Nat × Option Tmp)) (listed : Array Bool) : Bool :=
  apartB ds &&
  ds.all (fun q => decide (q.1 < ops.size) && !listed.getD q.1 true && ((ops[q.1]?).map fun o => o.after.all fun e => !Region.binds md e || listed.getD e.on false || (decide (e.on < q.1) && (ds.map (·.1)).contains e.on)).getD false) &&
  (List.range ops.size).all (fun t => listed.getD t true || (ds.map (·.1)).contains t || ds.all fun q => depB md ops t q.1)

theorem takeL_get {d : Bool} : ∀ (is : List Nat) (listed : Array Bool) (j : Nat), j ∉ is → (takeL is listed).getD j d = listed.getD j d
  | [], _, _, _ => rfl
  | i :: is, listed, j, h => by
    rw [takeL, takeL_get is _ j (fun h' => h (List.mem_cons_of_mem _ h')), getD_set_ne d (fun e => h (by rw [← e]; exact List.mem_cons_self ..))]
theorem takeL_size : ∀ (is : List Nat) (listed : Array Bool), (takeL is listed).size = listed.size
  | [], _ => rfl
  | i :: is, listed => by rw [takeL, takeL_size is]; simp
theorem takeL_in : ∀ (is : List Nat) (listed : Array Bool) (j : Nat), (listed.getD j false = true ∨ (j ∈ is ∧ j < listed.size)) → (takeL is listed).getD j false = true
  | [], _, _, h => by rcases h with h | ⟨h, _⟩; exact h; cases h
  | i :: is, listed, j, h => by
    rw [takeL]
    refine takeL_in is _ j ?_
    rcases h with h | ⟨h, hs⟩
    · exact .inl (getD_set_true h)
    · by_cases hij : i = j
      · subst hij; exact .inl (by simp [hs])
      · rcases List.mem_cons.1 h with h | h
        · exact absurd h.symm hij
        · exact .inr ⟨h, by simpa using hs⟩
theorem arr_ext {x y : Array Bool} (h1 : x.size = y.size) (h2 : ∀ j, j < x.size → x.getD j false = y.getD j false) : x = y := by
  refine Array.ext h1 (fun i hi hj => ?_)
  have := h2 i hi
  simpa [hi, hj] using this

theorem rel_aux {ds : List (Nat × Option Tmp)} {p : Nat → Value → World → Prop} {g : Nat} {listed : Array Bool} {a : Act} {W : World}
    (hB : relB md ops ds listed = true) (hR : ∀ U V, R U → Fr0 U V → R V) (hp : ∀ i v U V, p i v U → Fr0 U V → p i v V)
    (hstep : ∀ q ∈ ds, ∀ (x : Nat → Value) (U : World), R U → Fr0 W U → (∀ j, depB md ops q.1 j = true → (ds.map (·.1)).contains j = true → p j (x j) U) →
      wpOp P ops Q q.1 (fun a' V => ∃ v, a' = (puts a x ds).put q.2 v ∧ p q.1 v V ∧ Fr0 U V) (puts a x ds) U)
    (hdone : ∀ (x : Nat → Value) (U : World), R U → Fr0 W U → (∀ q ∈ ds, p q.1 (x q.1) U) → wpAnyG P md ops Q R g (takeL (ds.map (·.1)) listed) (puts a x ds) U) :
    ∀ (f : Nat) (un : List Nat) (listed' : Array Bool) (x : Nat → Value) (U : World), un.length = f → un.Nodup → (∀ j ∈ un, j ∈ ds.map (·.1)) → listed'.size = listed.size →
      (∀ j ∈ un, listed'.getD j true = false) → (∀ j ∈ ds.map (·.1), j ∉ un → listed'.getD j false = true) → (∀ j d, j ∉ ds.map (·.1) → listed'.getD j d = listed.getD j d) →
      R U → Fr0 W U → (∀ j ∈ ds.map (·.1), j ∉ un → p j (x j) U) → wpAnyG P md ops Q R (f + g) listed' (puts a x ds) U := by
  simp only [relB, Bool.and_eq_true] at hB
  obtain ⟨⟨hap, hds⟩, htl⟩ := hB
  intro f
  induction f with
  | zero =>
    intro un listed' x U hl hn hsub hsz h1 h2 h3 hRU hFU hpx
    have hu : un = [] := List.length_eq_zero_iff.1 hl
    subst hu
    have e : listed' = takeL (ds.map (·.1)) listed := by
      refine arr_ext (by rw [takeL_size, hsz]) (fun j hj => ?_)
      by_cases hj2 : j ∈ ds.map (·.1)
      · rw [h2 j hj2 (by simp), takeL_in _ _ _ (.inr ⟨hj2, by omega⟩)]
      · rw [h3 j false hj2, takeL_get _ _ _ hj2]
    rw [Nat.zero_add, e]
    exact hdone x U hRU hFU (fun q hq => hpx q.1 (List.mem_map_of_mem hq) (by simp))
  | succ f ih =>
    intro un listed' x U hl hn hsub hsz h1 h2 h3 hRU hFU hpx
    rw [show f + 1 + g = (f + g) + 1 by omega]
    have hlist : ∀ j, j ∈ ds.map (·.1) → listed'.getD j false = true → j ∉ un := fun j hj h hu => by
      have := getD_both (h1 j hu)
      rw [h] at this; cases this
    refine ⟨fun h0 => ?_, fun i hi V hV => ?_⟩
    · exfalso
      have hne : un ≠ [] := fun h => by rw [h] at hl; cases hl
      -- the least one that is left is ready
      have hmin : ∀ n, ∀ i ∈ un, i ≤ n → ∃ i ∈ un, i ∈ Region.ready md ops listed' := by
        intro n
        induction n with
        | zero =>
          intro i hi hin
          refine ⟨i, hi, ?_⟩
          obtain ⟨q, hq, hqi⟩ := List.mem_map.1 (hsub i hi)
          have hq2 := List.all_eq_true.1 hds q hq
          simp only [Bool.and_eq_true, decide_eq_true_eq] at hq2
          obtain ⟨⟨hsz2, _⟩, hq3⟩ := hq2
          have hqo : ops[q.1]? = some ops[q.1] := Array.getElem?_eq_getElem hsz2
          rw [hqo] at hq3
          simp only [Option.map_some, Option.getD_some, Array.all_eq_true_iff_forall_mem, Bool.or_eq_true, Bool.not_eq_true', Bool.and_eq_true, decide_eq_true_eq] at hq3
          subst hqi
          refine mem_ready.2 ⟨h1 _ hi, ops[q.1], hqo, fun e he hb => ?_⟩
          rcases hq3 e he with (h | h) | h
          · rw [hb] at h; cases h
          · by_cases hj : e.on ∈ ds.map (·.1)
            · by_cases hu : e.on ∈ un
              · exfalso
                obtain ⟨r, hr, hre⟩ := List.mem_map.1 hj
                have hr2 := List.all_eq_true.1 hds r hr
                simp only [Bool.and_eq_true, decide_eq_true_eq, Bool.not_eq_true'] at hr2
                have := getD_both hr2.1.2
                rw [hre, h] at this; cases this
              · exact h2 _ hj hu
            · rw [h3 _ _ hj]; exact h
          · omega
        | succ n ihn =>
          intro i hi hin
          by_cases hex : ∃ k ∈ un, k ≤ n
          · obtain ⟨k, hk, hkn⟩ := hex
            exact ihn k hk hkn
          refine ⟨i, hi, ?_⟩
          obtain ⟨q, hq, hqi⟩ := List.mem_map.1 (hsub i hi)
          have hq2 := List.all_eq_true.1 hds q hq
          simp only [Bool.and_eq_true, decide_eq_true_eq] at hq2
          obtain ⟨⟨hsz2, _⟩, hq3⟩ := hq2
          have hqo : ops[q.1]? = some ops[q.1] := Array.getElem?_eq_getElem hsz2
          rw [hqo] at hq3
          simp only [Option.map_some, Option.getD_some, Array.all_eq_true_iff_forall_mem, Bool.or_eq_true, Bool.not_eq_true', Bool.and_eq_true, decide_eq_true_eq] at hq3
          subst hqi
          refine mem_ready.2 ⟨h1 _ hi, ops[q.1], hqo, fun e he hb => ?_⟩
          rcases hq3 e he with (h | h) | ⟨h, h'⟩
          · rw [hb] at h; cases h
          · by_cases hj : e.on ∈ ds.map (·.1)
            · by_cases hu : e.on ∈ un
              · exfalso
                obtain ⟨r, hr, hre⟩ := List.mem_map.1 hj
                have hr2 := List.all_eq_true.1 hds r hr
                simp only [Bool.and_eq_true, decide_eq_true_eq, Bool.not_eq_true'] at hr2
                have := getD_both hr2.1.2
                rw [hre, h] at this; cases this
              · exact h2 _ hj hu
            · rw [h3 _ _ hj]; exact h
          · have hj : e.on ∈ ds.map (·.1) := by simpa using h'
            by_cases hu : e.on ∈ un
            · exact absurd ⟨e.on, hu, by omega⟩ hex
            · exact h2 _ hj hu
      obtain ⟨i0, hi0⟩ := List.exists_mem_of_ne_nil un hne
      obtain ⟨i, _, hi⟩ := hmin i0 i0 hi0 (Nat.le_refl _)
      rw [h0] at hi
      cases hi
    · obtain ⟨hun, o, ho, hall⟩ := mem_ready.1 hi
      have hne : un ≠ [] := fun h => by rw [h] at hl; cases hl
      have hiu : i ∈ un := by
        by_cases hids : i ∈ ds.map (·.1)
        · by_cases hu : i ∈ un
          · exact hu
          · have := h2 i hids hu
            rw [getD_both hun] at this; cases this
        · exfalso
          have hlt : i < ops.size := (Array.getElem?_eq_some_iff.1 ho).1
          have ht := List.all_eq_true.1 htl i (List.mem_range.2 hlt)
          simp only [Bool.or_eq_true] at ht
          rcases ht with (ht | ht) | ht
          · rw [h3 i true hids] at hun
            rw [hun] at ht; cases ht
          · exact hids (by simpa using ht)
          · obtain ⟨k, hk⟩ := List.exists_mem_of_ne_nil un hne
            obtain ⟨r, hr, hrk⟩ := List.mem_map.1 (hsub k hk)
            obtain ⟨e, he, hb, heo⟩ := depB_spec (List.all_eq_true.1 ht r hr) ho
            have h5 := hall e he hb
            rw [heo, hrk] at h5
            exact hlist k (hsub k hk) h5 hk
      obtain ⟨q, hq, hqi⟩ := List.mem_map.1 (hsub i hiu)
      have hst := hstep q hq x V (hR _ _ hRU hV) (hFU.trans hV) (fun j hdj hcj => by
        have hj : j ∈ ds.map (·.1) := by simpa using hcj
        obtain ⟨e, he, hb, heo⟩ := depB_spec hdj (hqi ▸ ho)
        have h5 := hall e he hb
        rw [heo] at h5
        exact hp _ _ _ _ (hpx j hj (hlist j hj h5)) hV)
      rw [← hqi]
      refine wpOp_mono (fun a' w' h => ?_) hst
      obtain ⟨v, ha', hpv, hfv⟩ := h
      rw [puts_put ds a hap hq] at ha'
      subst ha'
      have hsame : ∀ j, j ∉ un.erase i → j ∈ ds.map (·.1) → j ≠ i → j ∉ un := fun j h _ hji hu => h (hn.mem_erase_iff.2 ⟨hji, hu⟩)
      have hilt : i < listed'.size := by
        rw [hsz]
        have := List.all_eq_true.1 hds q hq
        simp only [Bool.and_eq_true, Bool.not_eq_true'] at this
        have h6 := this.1.2
        rw [hqi] at h6
        rcases Nat.lt_or_ge i listed.size with h | h
        · exact h
        · simp [Array.getElem?_eq_none h] at h6
      refine ⟨w', hR _ _ (hR _ _ hRU hV) hfv, Fr.refl _ _, ?_⟩
      rw [hqi]
      refine ih (un.erase i) (listed'.setIfInBounds i true) (upd x i v) w' (by rw [List.length_erase_of_mem hiu, hl]; rfl) (hn.erase _) (fun j hj => hsub j (List.mem_of_mem_erase hj)) (by simp [hsz]) (fun j hj => ?_) (fun j hj hju => ?_) (fun j d hj => ?_) (hR _ _ (hR _ _ hRU hV) hfv) ((hFU.trans hV).trans hfv) (fun j hj hju => ?_)
      · have := hn.mem_erase_iff.1 hj
        rw [getD_set_ne true (Ne.symm this.1)]
        exact h1 j this.2
      · by_cases hji : j = i
        · subst hji; simp [hilt]
        · exact getD_set_true (h2 j hj (hsame j hju hj hji))
      · have : i ≠ j := fun h => hj (h ▸ hsub i hiu)
        rw [getD_set_ne d this]; exact h3 j d hj
      · by_cases hji : j = i
        · subst hji; rw [upd_self]; rw [← hqi]; exact hpv
        · rw [upd_ne hji]
          exact hp _ _ _ _ (hpx j hj (hsame j hju hj hji)) (hV.trans hfv)

/-- What is left, in whatever order: each operation leaves a value with its property. -/
theorem wpAnyG_rel {ds : List (Nat × Option Tmp)} (p : Nat → Value → World → Prop) {f g : Nat} {listed : Array Bool} {a : Act} {W : World} (hf : f = ds.length + g)
    (hB : relB md ops ds listed = true) (hR : ∀ U V, R U → Fr0 U V → R V) (hS : R W) (hp : ∀ i v U V, p i v U → Fr0 U V → p i v V)
    (hstep : ∀ q ∈ ds, ∀ (x : Nat → Value) (U : World), R U → Fr0 W U → (∀ j, depB md ops q.1 j = true → (ds.map (·.1)).contains j = true → p j (x j) U) →
      wpOp P ops Q q.1 (fun a' V => ∃ v, a' = (puts a x ds).put q.2 v ∧ p q.1 v V ∧ Fr0 U V) (puts a x ds) U)
    (hdone : ∀ (x : Nat → Value) (U : World), R U → Fr0 W U → (∀ q ∈ ds, p q.1 (x q.1) U) → wpAnyG P md ops Q R g (takeL (ds.map (·.1)) listed) (puts a x ds) U) :
    wpAnyG P md ops Q R f listed a W := by
  subst hf
  have hB' := hB
  simp only [relB, Bool.and_eq_true] at hB'
  obtain ⟨⟨hap, hds⟩, _⟩ := hB'
  obtain ⟨x, hx⟩ := puts_init a ds hap
  have hnd := apart_nodup ds hap
  have H := rel_aux (P := P) (Q := Q) (R := R) (g := g) (a := a) (W := W) hB hR hp hstep hdone ds.length (ds.map (·.1)) listed x W (by simp) hnd (fun j hj => hj) rfl (fun j hj => ?_) (fun j hj h => absurd hj h) (fun j d hj => rfl) hS (Fr.refl _ _) (fun j hj h => absurd hj h)
  · rwa [hx] at H
  · obtain ⟨q, hq, rfl⟩ := List.mem_map.1 hj
    have := List.all_eq_true.1 hds q hq
    simp only [Bool.and_eq_true, Bool.not_eq_true'] at this
    exact this.1.2

/-- These of the operations. -/
def pickL (l : List Oper) : List Nat → List Oper
  | [] => []
  | i :: is => match l[i]? with
    | some o => o :: pickL l is
    | none => pickL l is
theorem pickL_map (l : List Oper) : ∀ is : List Nat, (∀ i ∈ is, i < l.length) → (is.map fun i => l.toArray[i]?) = (pickL l is).map some
  | [], _ => rfl
  | i :: is, h => by
    have hi := h i (List.mem_cons_self ..)
    have e : l[i]? = some l[i] := List.getElem?_eq_getElem hi
    rw [pickL, e, List.map_cons, List.map_cons, pickL_map l is (fun j hj => h j (List.mem_cons_of_mem _ hj))]
    congr 1
    rw [List.getElem?_toArray, e]
/-- These operations are taken first. -/
theorem takesL_ex {l : List Oper} {W : World} {a : Act} {id : Nat} (is : List Nat) (R : World → Prop) (hR : ∀ U V, R U → Fr0 U V → R V) (hS : R W) (hm : P.follows .mixedOrders = true) (hQ : ∀ c a d v w, Q (.panic c) (a.put d v) w → Q (.panic c) a w)
    (hB : (Region.noSelect l.toArray && takesB .any l.toArray is (Array.replicate l.length false) && decide (is.length ≤ l.length) && is.all fun i => decide (i < l.length)) = true) (hD : dstsB l.toArray a.tmps.size is = true)
    (h : ∃ af, (∀ W', R W' → wpQuiet P l.toArray (fun U => ∃ x : Wx W', U = x.u) (fun a' => a' = af) (pickL l is) a) ∧
      wpAnyG P .any l.toArray Q R (l.length - is.length) (takeL is (Array.replicate l.length false)) af W) : (Code.region id l.toArray true).wp P Q a W := by
  obtain ⟨af, h1, h2⟩ := h
  simp only [Bool.and_eq_true, decide_eq_true_eq] at hB
  obtain ⟨⟨⟨hb1, hb2⟩, hb3⟩, hb4⟩ := hB
  refine wp_region_any hm (wpAny_of_G (R := R) _ _ _ W ?_ _ (Fr.refl _ W).drew)
  have := takes_aux (P := P) (Q := Q) (R := R) (md := .any) (ops := l.toArray) (f := l.length - is.length) (n := a.tmps.size) (W := W) (af := af) hb1 hQ hR hS is (pickL l is) (Array.replicate l.length false) a
    (pickL_map l is (fun i hi => by simpa using List.all_eq_true.1 hb4 i hi)) hb2 rfl hD h1 h2
  rw [Nat.sub_add_cancel hb3] at this
  simpa using this
end
end Go.Proofs.Ytjldogfpccbkeaa

/- What came in, opened: a reading of the form's own turned into cells, type by type. No program in sight. -/
set_option linter.unusedVariables false
set_option linter.unusedSimpArgs false
namespace Go.Proofs.Ytjldogfpccbkeaa
open Go.RowKit

/-- The cells cs read as a value of type t; what its slices lead to lies in w. -/
def Sees (P : Program) (w : World) : Nat → TypeId → List Value → Prop
  | 0, _, _ => False
  | n + 1, t, cs =>
    match P.underlying t with
    | some .bool => ∃ b, cs = [.bool b]
    | some (.int k) => ∃ z, cs = [.int k z] ∧ (Lit.int k z).wf = true
    | some .string => ∃ s : ByteArray, cs = [.string s] ∧ s.size ≤ reachBytes
    | some (.slice e) => ∃ A len cap, cs = [.slice A len cap] ∧ len ≤ cap ∧ cap ≤ maxLen ∧ len * P.bytesOf e ≤ reachBytes ∧ (A = none → len = 0) ∧
        ∃ rows : List (List Value), rows.length = len ∧ Rd (fun _ => False) w A rows.flatten ∧ ∀ r ∈ rows, r.length = P.cellsOf e ∧ Sees P w n e r
    | some (.struct fs) => cs.length = P.cellsOf t ∧ ∀ f ∈ fs.toList, Sees P w n f.type ((cs.drop f.offset).take (P.cellsOf f.type))
    | some (.array m e) => cs.length = P.cellsOf t ∧ ∀ i, i < m → Sees P w n e ((cs.drop (i * P.cellsOf e)).take (P.cellsOf e))
    | _ => True

theorem mapM_some {α β : Type} {f : α → Option β} : ∀ {l : List α} {ys : List β}, l.mapM f = some ys → ys.length = l.length ∧ ∀ i (h : i < l.length) (h' : i < ys.length), f l[i] = some ys[i]
  | [], ys, h => by simp at h; subst h; exact ⟨rfl, fun i h => absurd h (by simp)⟩
  | x :: l, ys, h => by
    rw [List.mapM_cons] at h
    obtain ⟨y, hy, h⟩ := Option.bind_eq_some_iff.1 h
    obtain ⟨zs, hz, h⟩ := Option.bind_eq_some_iff.1 h
    cases h
    obtain ⟨h1, h2⟩ := mapM_some hz
    refine ⟨by simp [h1], fun i hi hi' => ?_⟩
    cases i with
    | zero => exact hy
    | succ i => exact h2 i (by simpa using hi) (by simpa using hi')

section
variable {H : Type} {enc : TypeId × Value → H} {P : Program} {w : World} {base : Nat} {spare : Nat → Bool} {held : Bool}

theorem weights_part {P : Program} {B : Nat} {e : TypeId} : ∀ {l : List (DataW H)}, (∀ x ∈ DataW.weightsAll P e l, x ≤ B) → ∀ d ∈ l, ∀ x ∈ d.weights P e, x ≤ B
  | [], _, d, hd, _, _ => by cases hd
  | a :: l, h, d, hd, x, hx => by
    rw [DataW.weightsAll] at h
    rcases List.mem_cons.1 hd with rfl | hd
    · exact h x (List.mem_append_left _ hx)
    · exact weights_part (fun y hy => h y (List.mem_append_right _ hy)) d hd x hx
theorem weights_field {P : Program} {B : Nat} : ∀ {ts : List TypeId} {l : List (DataW H)}, (∀ x ∈ DataW.weightsEach P ts l, x ≤ B) → ∀ i (h : i < ts.length) (h' : i < l.length), ∀ x ∈ l[i].weights P ts[i], x ≤ B
  | [], _, _, _, h, _, _, _ => by simp at h
  | _ :: _, [], _, _, _, h, _, _ => by simp at h
  | t :: ts, a :: l, h, i, hi, hi', x, hx => by
    rw [DataW.weightsEach] at h
    cases i with
    | zero => exact h x (List.mem_append_left _ hx)
    | succ i => exact weights_field (fun y hy => h y (List.mem_append_right _ hy)) i (by simpa using hi) (by simpa using hi') x hx

theorem cells_some {a : Addr} {n : Nat} {r : List Value} (h : w.cells? base a n = some r) : r.length = n ∧ ∀ i (hi : i < r.length), w.cell? (a.add i) = some r[i] := by
  unfold World.cells? at h
  split at h
  · obtain ⟨h1, h2⟩ := mapM_some h
    simp only [List.length_range] at h1 h2
    refine ⟨h1, fun i hi => ?_⟩
    have := h2 i (by omega) hi
    simpa using this
  · cases h

theorem add_assoc (a : Addr) (i j : Nat) : (a.add i).add j = a.add (i + j) := by
  unfold Addr.add
  by_cases hi : i = 0 <;> by_cases hj : j = 0 <;> simp [hi, hj, Nat.add_assoc]

/-- Rows one behind the other, from an address on. -/
theorem rows_cells {a : Addr} {sz : Nat} : ∀ (rows : List (List Value)) (k : Nat), (∀ i (h : i < rows.length), w.cells? base (a.add ((k + i) * sz)) sz = some rows[i]) →
    ∀ i (h : i < rows.flatten.length), w.cell? (a.add (k * sz + i)) = some rows.flatten[i]
  | [], _, _, i, h => by simp at h
  | r :: rows, k, hr, i, h => by
    obtain ⟨h1, h2⟩ := cells_some (hr 0 (by simp))
    rw [Nat.add_zero] at h2
    have ih := rows_cells rows (k + 1) (fun i h => by have := hr (i + 1) (by simp; omega); rw [show k + (i + 1) = k + 1 + i by omega] at this; exact this)
    simp only [List.getElem_cons_zero] at h1 h2
    simp only [List.flatten_cons] at h ⊢
    by_cases hi : i < r.length
    · rw [List.getElem_append_left hi, ← h2 i hi, add_assoc]
    · have := ih (i - r.length) (by rw [List.length_append] at h; omega)
      rw [List.getElem_append_right (by omega), ← this]
      congr 2
      rw [Nat.add_mul]; omega

theorem trod_sees : ∀ (fuel : Nat) (t : TypeId) (cs : List Value) (d : DataW H) (ps : List MemPlace),
    DataW.trod enc P w base spare held fuel t cs = some (d, ps) → (∀ x ∈ d.weights P t, x ≤ reachBytes) → Sees P w fuel t cs
  | 0, t, cs, d, ps, h, _ => by simp [DataW.trod] at h
  | fuel + 1, t, cs, d, ps, h, hw => by
    unfold DataW.trod at h
    unfold Sees
    split at h
    · rename_i b hu; rw [hu]; exact ⟨b, rfl⟩
    · rename_i k k' n hu
      rw [hu]
      split at h
      · rename_i hk; obtain ⟨rfl, hk⟩ := hk; exact ⟨n, rfl, hk⟩
      · cases h
    · rename_i hu; rw [hu]; trivial
    · rename_i s hu
      rw [hu]
      split at h
      · cases h
        have h1 := hw s.data.toList.length (by rw [DataW.weights]; exact List.mem_singleton.2 rfl)
        rw [Array.length_toList] at h1
        exact ⟨s, rfl, h1⟩
      · cases h
    · rename_i hu; rw [hu]; trivial
    · rename_i hu; rw [hu]; trivial
    · rename_i e hu
      rw [hu]
      exact ⟨none, 0, 0, rfl, Nat.le_refl _, by simp [maxLen], by simp, fun _ => rfl, [], rfl, .inl rfl, fun r hr => by cases hr⟩
    · rename_i e a len cap hu
      rw [hu]
      dsimp only at h
      split at h
      · rename_i hc
        obtain ⟨hba, hlc, hcm⟩ := hc
        obtain ⟨elems, he, h⟩ := Option.bind_eq_some_iff.1 h
        obtain ⟨rest, hr, h⟩ := Option.map_eq_some_iff.1 h
        cases h
        obtain ⟨he1, he2⟩ := mapM_some he
        simp only [List.length_range] at he1 he2
        have hw1 : (elems.length + rest.length) * P.bytesOf e ≤ reachBytes := hw _ (by simp [DataW.weights, hu])
        have hw2 : ∀ x ∈ DataW.weightsAll P e (elems.map (·.1)), x ≤ reachBytes := fun x hx => hw x (by simp [DataW.weights, hu, hx])
        have hrow : ∀ i, i < len → ∃ r, w.cells? base (a.add (i * P.cellsOf e)) (P.cellsOf e) = some r ∧ Sees P w fuel e r := by
          intro i hi
          have h2 := he2 i hi (by omega)
          rw [List.getElem_range] at h2
          obtain ⟨r, hr1, hr2⟩ := Option.bind_eq_some_iff.1 h2
          exact ⟨r, hr1, trod_sees fuel e r _ _ hr2 (weights_part hw2 _ (List.mem_map_of_mem (List.getElem_mem (by omega))))⟩
        obtain ⟨rows, hl, hrows⟩ : ∃ rows : List (List Value), rows.length = len ∧ ∀ i (h : i < rows.length), w.cells? base (a.add (i * P.cellsOf e)) (P.cellsOf e) = some rows[i] ∧ Sees P w fuel e rows[i] := by
          refine ⟨(List.range len).map fun i => ((w.cells? base (a.add (i * P.cellsOf e)) (P.cellsOf e)).getD []), by simp, fun i hi => ?_⟩
          have hi' : i < len := by simpa using hi
          obtain ⟨r, hr1, hr2⟩ := hrow i hi'
          simp only [List.getElem_map, List.getElem_range, hr1, Option.getD_some]
          exact ⟨trivial, hr2⟩
        refine ⟨some a, len, cap, rfl, hlc, hcm, Nat.le_trans (Nat.mul_le_mul_right _ (by omega)) hw1, (by simp), rows, hl, ?_, fun r hr => ?_⟩
        · have hcell := rows_cells (w := w) (base := base) (a := a) (sz := P.cellsOf e) rows 0 (fun i h => by rw [Nat.zero_add]; exact (hrows i h).1)
          rcases Nat.eq_zero_or_pos rows.flatten.length with h0 | h0
          · exact .inl (List.length_eq_zero_iff.1 h0)
          · obtain ⟨b, off, spot⟩ := a
            have hs : spot = none := by
              have := World.cell?_spot (hcell 0 h0)
              simpa [Addr.add] using this
            subst hs
            refine .inr ⟨b, off, rfl, fun h => h, fun i hi => ?_⟩
            have := hcell i hi
            rw [Nat.zero_mul, Nat.zero_add, Go.WideShapes.add_plain] at this
            exact this
        · obtain ⟨i, hi, rfl⟩ := List.getElem_of_mem hr
          exact ⟨(cells_some (hrows i hi).1).1, (hrows i hi).2⟩
      · cases h
    · rename_i fs hu
      rw [hu]
      split at h
      · rename_i hl
        obtain ⟨xs, hx, h⟩ := Option.map_eq_some_iff.1 h
        cases h
        obtain ⟨h1, h2⟩ := mapM_some hx
        refine ⟨hl, fun f hf => ?_⟩
        obtain ⟨i, hi, rfl⟩ := List.getElem_of_mem hf
        have h3 := h2 i hi (by omega)
        refine trod_sees fuel _ _ _ _ h3 ?_
        have hw2 : ∀ x ∈ DataW.weightsEach P (fs.toList.map (·.type)) (xs.map (·.1)), x ≤ reachBytes := fun x hx => hw x (by simpa [DataW.weights, hu] using hx)
        have := weights_field hw2 i (by simpa using hi) (by simp; omega)
        simpa using this
      · cases h
    · rename_i m e hu
      rw [hu]
      split at h
      · rename_i hl
        obtain ⟨xs, hx, h⟩ := Option.map_eq_some_iff.1 h
        cases h
        obtain ⟨h1, h2⟩ := mapM_some hx
        simp only [List.length_range] at h1 h2
        refine ⟨hl, fun i hi => ?_⟩
        have h3 := h2 i hi (by omega)
        rw [List.getElem_range] at h3
        refine trod_sees fuel _ _ _ _ h3 ?_
        have hw2 : ∀ x ∈ DataW.weightsAll P e (xs.map (·.1)), x ≤ reachBytes := fun x hx => hw x (by simpa [DataW.weights, hu] using hx)
        exact weights_part hw2 _ (List.mem_map_of_mem (List.getElem_mem (by omega)))
      · cases h
    all_goals first | (rename_i hu; rw [hu]; trivial) | (rename_i hu _; rw [hu]; trivial) | (rename_i hu _ _; rw [hu]; trivial) | cases h
end

/-- Cells that are whole numbers of these kinds. -/
def FlatC : List IntKind → List Value → Prop
  | [], [] => True
  | k :: ks, v :: cs => (∃ z, v = .int k z ∧ (Lit.int k z).wf = true) ∧ FlatC ks cs
  | _, _ => False
theorem FlatC.length : ∀ {ks : List IntKind} {cs : List Value}, FlatC ks cs → cs.length = ks.length
  | [], [], _ => rfl
  | k :: ks, v :: cs, h => by simp [FlatC.length h.2]
  | [], _ :: _, h => h.elim
  | _ :: _, [], h => h.elim
theorem FlatC.append : ∀ {ks ls : List IntKind} {cs ds : List Value}, FlatC ks cs → FlatC ls ds → FlatC (ks ++ ls) (cs ++ ds)
  | [], _, [], _, _, h => h
  | k :: ks, _, v :: cs, _, h, h' => ⟨h.1, FlatC.append h.2 h'⟩
  | [], _, _ :: _, _, h, _ => h.elim
  | _ :: _, _, [], _, h, _ => h.elim

def flatFs (P : Program) (g : TypeId → Option (List IntKind)) : List Field → Nat → Option (List IntKind)
  | [], _ => some []
  | f :: fs, off => (g f.type).bind fun ks => if f.offset = off ∧ P.cellsOf f.type = ks.length then (flatFs P g fs (off + ks.length)).map (ks ++ ·) else none
/-- The kinds of a type that is whole numbers alone, one a cell. -/
def flatK (P : Program) : Nat → TypeId → Option (List IntKind)
  | 0, _ => none
  | n + 1, t => match P.underlying t with
    | some (.int k) => some [k]
    | some (.struct fs) => (flatFs P (flatK P n) fs.toList 0).bind fun ks => if P.cellsOf t = ks.length then some ks else none
    | some (.array m e) => (flatK P n e).bind fun ks => if P.cellsOf e = ks.length ∧ P.cellsOf t = m * ks.length then some (List.replicate m ks).flatten else none
    | _ => none

section
variable {P : Program} {w : World}
theorem flatFs_sees {n : Nat} {g : TypeId → Option (List IntKind)} (hg : ∀ t ks cs, g t = some ks → Sees P w n t cs → FlatC ks cs) : ∀ (fs : List Field) (off : Nat) (ks : List IntKind) (cs : List Value),
    flatFs P g fs off = some ks → (∀ f ∈ fs, Sees P w n f.type ((cs.drop f.offset).take (P.cellsOf f.type))) → FlatC ks ((cs.drop off).take ks.length)
  | [], off, ks, cs, h, _ => by cases h; trivial
  | f :: fs, off, ks, cs, h, hs => by
    obtain ⟨k1, h1, h⟩ := Option.bind_eq_some_iff.1 h
    split at h
    · rename_i ho
      obtain ⟨k2, h2, h⟩ := Option.map_eq_some_iff.1 h
      subst h
      have a1 := hg _ _ _ h1 (hs f (by simp))
      have a2 := flatFs_sees hg fs (off + k1.length) k2 cs h2 (fun f hf => hs f (by simp [hf]))
      rw [ho.1, ho.2] at a1
      have := a1.append a2
      rwa [show (cs.drop off).take k1.length ++ (cs.drop (off + k1.length)).take k2.length = (cs.drop off).take (k1 ++ k2).length by
        rw [List.length_append, List.take_add, List.drop_drop]] at this
    · cases h
theorem flat_rep {n : Nat} {e : TypeId} {ks : List IntKind} {cs : List Value} (hg : ∀ cs, Sees P w n e cs → FlatC ks cs) : ∀ (m : Nat), (∀ i, i < m → Sees P w n e ((cs.drop (i * ks.length)).take ks.length)) →
    FlatC (List.replicate m ks).flatten (cs.take (m * ks.length))
  | 0, _ => by simp [FlatC]
  | m + 1, h => by
    have a1 := flat_rep hg m (fun i hi => h i (by omega))
    have a2 := hg _ (h m (by omega))
    have := a1.append a2
    rw [List.replicate_succ', List.flatten_append]
    simp only [List.flatten_cons, List.flatten_nil, List.append_nil]
    rwa [show cs.take (m * ks.length) ++ (cs.drop (m * ks.length)).take ks.length = cs.take ((m + 1) * ks.length) by
      rw [Nat.add_mul, Nat.one_mul, List.take_add]] at this
theorem flat_sees : ∀ (m n : Nat) (t : TypeId) (ks : List IntKind) (cs : List Value), flatK P m t = some ks → Sees P w n t cs → FlatC ks cs
  | 0, _, _, _, _, h, _ => by cases h
  | _ + 1, 0, _, _, _, _, h => h.elim
  | m + 1, n + 1, t, ks, cs, h, hs => by
    unfold flatK at h
    unfold Sees at hs
    split at h
    · rename_i k hu
      rw [hu] at hs
      cases h
      obtain ⟨z, rfl, hz⟩ := hs
      exact ⟨⟨z, rfl, hz⟩, trivial⟩
    · rename_i fs hu
      rw [hu] at hs
      obtain ⟨k1, h1, h⟩ := Option.bind_eq_some_iff.1 h
      split at h
      · rename_i hc
        cases h
        have := flatFs_sees (fun t ks cs => flat_sees m n t ks cs) fs.toList 0 ks cs h1 hs.2
        rwa [List.drop_zero, List.take_of_length_le (by rw [hs.1, hc]; exact Nat.le_refl _)] at this
      · cases h
    · rename_i mm e hu
      rw [hu] at hs
      obtain ⟨k1, h1, h⟩ := Option.bind_eq_some_iff.1 h
      split at h
      · rename_i hc
        cases h
        have := flat_rep (cs := cs) (fun cs hcs => flat_sees m n e k1 cs h1 hcs) mm (by rw [← hc.1]; exact hs.2)
        rwa [List.take_of_length_le (by rw [hs.1, hc.2]; exact Nat.le_refl _)] at this
      · cases h
    · cases h
end

/-- A value of type t that came in. -/
def SeesV (P : Program) (w : World) (t : TypeId) (v : Value) : Prop := ∃ n, Sees P w n t v.cells.toList
section
variable {P : Program} {w : World} {t e : TypeId} {v : Value} {r : Reach} {b0 : Nat}
theorem sees_of {H : Type} {enc : TypeId × Value → H} {base : Nat} {spare : Nat → Bool} {held : Bool} {d : DataW H} {ps : List MemPlace} {ts : List TypeId} {ds : List (DataW H)}
    (h : DataW.Trod enc P w base spare held t v d ps) (hsz : (DataW.weightsEach P ts ds).all (· ≤ reachBytes) = true) (j : Nat) (ht : ts[j]? = some t) (hd : ds[j]? = some d) : SeesV P w t v := by
  obtain ⟨n, h⟩ := h
  obtain ⟨h1, rfl⟩ := List.getElem?_eq_some_iff.1 ht
  obtain ⟨h2, rfl⟩ := List.getElem?_eq_some_iff.1 hd
  exact ⟨n, trod_sees n _ _ _ _ h (weights_field (fun x hx => by simpa using List.all_eq_true.1 hsz x hx) j h1 h2)⟩

theorem see_int {k : IntKind} (hu : P.underlying t = some (.int k)) (hv : Value.okWide P w r b0 t v) (h : SeesV P w t v) : ∃ z, v = .int k z ∧ (Lit.int k z).wf = true := by
  obtain ⟨n, h⟩ := h
  cases n with
  | zero => exact h.elim
  | succ n =>
    unfold Sees at h
    rw [hu] at h
    obtain ⟨z, hz, hw⟩ := h
    simp only [Value.okWide, hu, Cell.okWide, Cell.ok] at hv
    cases v <;> simp_all [Value.cells]
theorem see_str (hu : P.underlying t = some .string) (hv : Value.okWide P w r b0 t v) (h : SeesV P w t v) : ∃ s : ByteArray, v = .string s ∧ s.size ≤ 140737488351232 := by
  obtain ⟨n, h⟩ := h
  cases n with
  | zero => exact h.elim
  | succ n =>
    unfold Sees at h
    rw [hu] at h
    obtain ⟨s, hz, hw⟩ := h
    obtain ⟨s', rfl⟩ := Go.WideShapes.okWide_string hu hv
    have : s' = s := by simpa [Value.cells] using hz
    subst this
    exact ⟨s', rfl, hw⟩
theorem see_flat {ks : List IntKind} (hu : (∃ fs, P.underlying t = some (.struct fs)) ∨ ∃ m e, P.underlying t = some (.array m e)) (m : Nat) (hk : flatK P m t = some ks) (hv : Value.okWide P w r b0 t v) (h : SeesV P w t v) : ∃ cs : Array Value, v = .agg cs ∧ FlatC ks cs.toList := by
  obtain ⟨n, h⟩ := h
  have : ∃ cs, v = .agg cs := by
    rcases hu with ⟨fs, hu⟩ | ⟨mm, e, hu⟩ <;> (simp only [Value.okWide, hu] at hv; obtain ⟨cs, rfl, _⟩ := hv; exact ⟨cs, rfl⟩)
  obtain ⟨cs, rfl⟩ := this
  exact ⟨cs, rfl, flat_sees m n t ks _ hk h⟩
/-- A slice whose elements are whole numbers alone. -/
theorem see_flats {ks : List IntKind} (hu : P.underlying t = some (.slice e)) (m : Nat) (hk : flatK P m e = some ks) (hv : Value.okWide P w r b0 t v) (h : SeesV P w t v) :
    ∃ A c, ∃ rows : List (List Value), v = .slice A rows.length c ∧ rows.length ≤ c ∧ c ≤ maxLen ∧ rows.length * P.bytesOf e ≤ 140737488351232 ∧ (A = none → rows = []) ∧ Rd (fun _ => False) w A rows.flatten ∧ ∀ x ∈ rows, FlatC ks x := by
  obtain ⟨n, h⟩ := h
  cases n with
  | zero => exact h.elim
  | succ n =>
    unfold Sees at h
    rw [hu] at h
    obtain ⟨A, len, cap, hz, hlc, hcm, hw, hn, rows, hl, hrd, hrows⟩ := h
    obtain ⟨a, l, c, rfl⟩ := Go.WideShapes.okWide_slice hu hv
    have hz' : a = A ∧ l = len ∧ c = cap := by simpa [Value.cells] using hz
    obtain ⟨rfl, rfl, rfl⟩ := hz'
    subst hl
    exact ⟨_, _, rows, rfl, hlc, hcm, hw, fun h => List.length_eq_zero_iff.1 (hn h), hrd, fun x hx => flat_sees m n e ks x hk (hrows x hx).2⟩
end
theorem wf_u8 {z : Int} (h : (Lit.int .u8 z).wf = true) : 0 ≤ z ∧ z ≤ 255 := by
  simp [Lit.wf, IntKind.has, IntKind.min, IntKind.max, IntKind.signed, IntKind.bits] at h; omega
theorem wf_u16 {z : Int} (h : (Lit.int .u16 z).wf = true) : 0 ≤ z ∧ z ≤ 65535 := by
  simp [Lit.wf, IntKind.has, IntKind.min, IntKind.max, IntKind.signed, IntKind.bits] at h; omega
theorem wf_i64 {z : Int} (h : (Lit.int .i64 z).wf = true) : -9223372036854775808 ≤ z ∧ z ≤ 9223372036854775807 := by
  simp [Lit.wf, IntKind.has, IntKind.min, IntKind.max, IntKind.signed, IntKind.bits] at h; omega
theorem wf_i32 {z : Int} (h : (Lit.int .i32 z).wf = true) : -2147483648 ≤ z ∧ z ≤ 2147483647 := by
  simp [Lit.wf, IntKind.has, IntKind.min, IntKind.max, IntKind.signed, IntKind.bits] at h; omega

/-- Rows of one byte each are bytes. -/
theorem bytes_of_rows : ∀ (rows : List (List Value)), (∀ x ∈ rows, FlatC [.u8] x) → ∃ bs : List UInt8, bs.length = rows.length ∧ rows.flatten = u8s bs
  | [], _ => ⟨[], rfl, rfl⟩
  | x :: rows, h => by
    obtain ⟨bs, h1, h2⟩ := bytes_of_rows rows (fun y hy => h y (by simp [hy]))
    have hx := h x (by simp)
    match x, hx with
    | [v], hx =>
      obtain ⟨⟨z, rfl, hz⟩, _⟩ := hx
      obtain ⟨z0, z1⟩ := wf_u8 hz
      refine ⟨UInt8.ofNat z.toNat :: bs, by simp [h1], ?_⟩
      rw [List.flatten_cons, h2]
      simp [u8s, UInt8.toNat_ofNat']
      omega
theorem see_bytes {P : Program} {w : World} {t e : TypeId} {v : Value} {r : Reach} {b0 : Nat} (hu : P.underlying t = some (.slice e)) (m : Nat) (hk : flatK P m e = some [.u8]) (hb : P.bytesOf e = 1) (hv : Value.okWide P w r b0 t v) (h : SeesV P w t v) :
    ∃ A c, ∃ bs : List UInt8, v = .slice A bs.length c ∧ bs.length ≤ c ∧ c ≤ maxLen ∧ bs.length ≤ 140737488351232 ∧ Rd (fun _ => False) w A (u8s bs) := by
  obtain ⟨A, c, rows, rfl, hlc, hcm, hw, hn, hr, hf⟩ := see_flats hu m hk hv h
  obtain ⟨bs, h1, h2⟩ := bytes_of_rows rows hf
  rw [hb, Nat.mul_one] at hw
  rw [h2] at hr
  exact ⟨A, c, bs, by rw [h1], by omega, hcm, by omega, hr⟩
end Go.Proofs.Ytjldogfpccbkeaa
