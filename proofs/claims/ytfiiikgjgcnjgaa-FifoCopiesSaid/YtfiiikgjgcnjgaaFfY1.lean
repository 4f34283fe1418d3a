/- Chapter 15: a line beside the document's in its box; copies. -/
import Derived.Test.YtfiiikgjgcnjgaaFfV
set_option linter.unusedVariables false
set_option linter.unusedSimpArgs false
namespace Go.Proofs.Ytfiiikgjgcnjgaa
open Go.RowKit

/-- A line, the document's in its box: their blocks are of T or lie behind wB. -/
structure Cop (T : Nat → Prop) (wB wr : World) (b g r : Nat) (A : Option Addr) (c : Nat) (s : Fs) (K : Nat) : Prop where
  two : Two wr b g (rlv s.room A s.l.length c s.lp s.lb) s K
  box : wr.heap[r]? = some (.cells (rlc s.room A s.l.length c s.lp s.lb) 30 (0, 0))
  hb : T b ∨ wB.heap.size ≤ b
  hg : T g ∨ wB.heap.size ≤ g
  hr : T r ∨ wB.heap.size ≤ r
  rb : r ≠ b
  rg : r ≠ g
  room : s.room = 300
theorem act_room (s : Fs) (k : Int) (p : Pk) : (s.act k p).room = s.room := by
  unfold Fs.act
  split
  · unfold Fs.put; split <;> (try split) <;> rfl
  · split
    · unfold Fs.take; split <;> rfl
    · split <;> rfl
/-- Behind a call of both, and the store of what it answers. -/
theorem Cop.next {T : Nat → Prop} {wB wr wA : World} {b g g2 r : Nat} {A A3 : Option Addr} {c c3 : Nat} {s s2 : Fs} {K K2 : Nat} (h : Cop T wB wr b g r A c s K) (hB : wB.heap.size ≤ wr.heap.size) (ht : Two wA b g2 (rlv s2.room A3 s2.l.length c3 s2.lp s2.lb) s2 K2) (hg2 : g2 = g ∨ wr.heap.size ≤ g2) (hf : Fr (fun k => k = b ∨ k = g) wr wA) (hrm : s2.room = s.room) :
    Cop T wB (putRl wA r s2.room A3 s2.l.length c3 s2.lp s2.lb) b g2 r A3 c3 s2 K2 ∧ Fr (fun k => k = b ∨ k = g ∨ k = r) wr (putRl wA r s2.room A3 s2.l.length c3 s2.lp s2.lb) := by
  have hrl := lt_of_block h.box
  have hbx : wA.heap[r]? = _ := hf.blk h.box (fun e => by have := h.rb; have := h.rg; omega)
  have hg := h.hg
  have hrg := h.rg
  refine ⟨⟨ht.put hbx h.rb (by omega) _ _ _ _ _ _, putRl_blk hbx _ _ _ _ _ _, h.hb, ?_, h.hr, h.rb, by omega, by rw [hrm]; exact h.room⟩, putRl_fr (hf.mono (fun k _ e => by omega)) (k := r) (fun _ => by simp) _ _ _ _ _ _⟩
  rcases hg2 with rfl | hg2
  · exact hg
  · exact .inr (by omega)
theorem Cop.of {T : Nat → Prop} {wB wr : World} {b g r : Nat} {A : Option Addr} {c : Nat} {s : Fs} {K : Nat} (h : Cop T wB wr b g r A c s K) : ∀ i, i < wB.heap.size → (i = b ∨ i = g ∨ i = r) → T i := by
  have h1 := h.hb
  have h2 := h.hg
  have h3 := h.hr
  rintro i hi (rfl | rfl | rfl)
  · exact h1.resolve_right (by omega)
  · exact h2.resolve_right (by omega)
  · exact h3.resolve_right (by omega)
theorem Cop.kept {T : Nat → Prop} {wB wr w' : World} {b g r : Nat} {A : Option Addr} {c : Nat} {s : Fs} {K : Nat} (h : Cop T wB wr b g r A c s K) (hf : Fr0 wr w') : Cop T wB w' b g r A c s K :=
  ⟨h.two.kept0 hf, hf.blk h.box (fun h => h), h.hb, h.hg, h.hr, h.rb, h.rg, h.room⟩
/-- A copy beside the document's copy: in three new blocks. -/
theorem Cop.copy {wB wr w6 wX : World} {b g r b2 g2 : Nat} {A : Option Addr} {c : Nat} {s : Fs} {K : Nat} {T : Nat → Prop} (h : Cop T wB wr b g r A c s K) (hf : Fr0 wr w6) (hln : LnAt w6 b2 g2 s K) (hb2 : wr.heap.size ≤ b2) (hg2 : wr.heap.size ≤ g2) (hX : Fr0 (w6.alloc (.cells (rlc s.room A s.l.length c s.lp s.lb) 30)) wX) :
    Cop (fun k => k = b2 ∨ k = g2 ∨ k = w6.heap.size) wX wX b2 g2 w6.heap.size A c s K := by
  have hlt := hln.lt
  have hf2 := (Fr.refl (fun _ => False) w6).alloc (.cells (rlc s.room A s.l.length c s.lp s.lb) 30)
  have hrl : IsRl wr (fun k => k = b2 ∨ k = g2) (rlv s.room A s.l.length c s.lp s.lb) s := by
    obtain ⟨A', c', h1, h2, h3⟩ := h.two.rl.ex
    exact ⟨A', c', h1, (h2.mono (T := fun _ => False) (fun _ _ h => h.elim)).mono (fun k hk e => by omega), h3⟩
  exact ⟨⟨(hln.kept0 hf2).kept0 hX, ((hrl.kept (Fr0.any hf)).kept (Fr0.any hf2)).kept (Fr0.any hX), h.two.ok⟩, hX.blk (heap_alloc_new _ _) (fun h => h), .inl (.inl rfl), .inl (.inr (.inl rfl)), .inl (.inr (.inr rfl)), by omega, by omega, h.room⟩
theorem fcopy_any (b g : Nat) (s : Fs) (K : Nat) (w : World) (h : LnAt w b g s K) :
    Calls Try.prog 18 #[.pointer (some ⟨b, 0, none⟩)] w fun e w' => (∃ b' g', e = .returned (.pointer (some ⟨b', 0, none⟩)) ∧ w.heap.size ≤ b' ∧ w.heap.size ≤ g' ∧ LnAt w' b' g' s K) ∧ Fr0 w w' := by
  obtain ⟨X, h1, h2, h3⟩ := h
  exact (fcopy_calls b g X w h1).mono fun e w' ⟨⟨b', g', k1, k2, k3, k4⟩, k5⟩ => ⟨⟨b', g', k1, k2, k3, X, k4, h2, h3⟩, k5⟩
theorem fsame_any (b g b2 g2 : Nat) (s t : Fs) (K L : Nat) (w : World) (h : LnAt w b g s K) (k : LnAt w b2 g2 t L) (hr : s.room = t.room) :
    Calls Try.prog 20 #[.pointer (some ⟨b, 0, none⟩), .pointer (some ⟨b2, 0, none⟩)] w fun e w' => e = .returned (.bool (decide (s.l = t.l) && decide (s.lp = t.lp) && decide (s.lb = t.lb))) ∧ Fr0 w w' := by
  obtain ⟨X, h1, rfl, h3⟩ := h
  obtain ⟨Y, k1, rfl, k3⟩ := k
  refine (fsame_calls b g b2 g2 X Y w h1 k1).mono fun e w' ⟨e1, e2⟩ => ⟨?_, e2⟩
  rw [e1]
  have hr' : X.room = Y.room := hr
  show _ = Ending.returned (.bool (decide (X.all = Y.all) && decide (X.lp = Y.lp) && decide (X.lb = Y.lb)))
  congr 2
  rw [Bool.eq_iff_iff]
  simp only [lnSame, decide_eq_true_eq, Bool.and_eq_true]
  exact ⟨fun ⟨a, b, _, d⟩ => ⟨⟨d, a⟩, b⟩, fun ⟨⟨d, a⟩, b⟩ => ⟨a, b, hr', d⟩⟩
theorem fall_any (b g : Nat) (s : Fs) (K : Nat) (w : World) (h : LnAt w b g s K) : Calls Try.prog 19 #[.pointer (some ⟨b, 0, none⟩)] w fun e w' => (∃ f, e = .returned f ∧ IsSeq w.heap.size w' f s.l) ∧ Fr0 w w' := by
  obtain ⟨X, h1, rfl, h3⟩ := h
  exact fall_calls b g X w h1
/-- A counter in a box behind w, whose blocks stand. -/
structure Cnt (w W : World) (q : Nat) (n : Int) : Prop where
  box : W.heap[q]? = some (.cells #[.int .i64 n] 3 (0, 0))
  fr : Fr0 w W
  q : w.heap.size ≤ q
theorem Cnt.grown {w A B : World} {q : Nat} {n : Int} {row : Option Nat} (h : Cnt w A q n) (hg : A.grownBy B row) {m : Nat} (hm : w.heap.size ≤ m) (hr : ∀ r, row = some r → m ≤ r ∧ ∃ o : Obj, A.heap[r]? = some o ∧ o.isCells = false) : Cnt w B q n :=
  ⟨blk_grown h.box hg (ne_row hr _ _ _ _ h.box), h.fr.grown hg (fun k hk e => by have := (hr k e).1; omega), h.q⟩
theorem Cnt.kept0 {w A B : World} {q : Nat} {n : Int} (h : Cnt w A q n) (hf : Fr0 A B) : Cnt w B q n := ⟨hf.blk h.box (fun h => h), h.fr.trans hf, h.q⟩
theorem Cnt.set {w A : World} {q : Nat} {n : Int} (h : Cnt w A q n) (m : Int) : Cnt w (A.setCell ⟨q, 0, none⟩ (.int .i64 m)) q m :=
  ⟨blk_setCell h.box 0 _, h.fr.setCell (p := ⟨q, 0, none⟩) (fun hl => by have := h.q; have : q < w.heap.size := hl; omega) _, h.q⟩
theorem Cnt.cell {w A : World} {q : Nat} {n : Int} (h : Cnt w A q n) : A.cell? ⟨q, 0, none⟩ = some (.int .i64 n) ∧ A.frozen? ⟨q, 0, none⟩ = false := ⟨cell_of_blk h.box 0, free_of_blk h.box 0⟩
theorem IsRl.rd {w : World} {S : Nat → Prop} {room : Int} {A : Option Addr} {n c : Nat} {p b : Int} {s : Fs} (h : IsRl w S (rlv room A n c p b) s) : Rd (fun _ => False) w A (pks s.l) ∧ n = s.l.length := by
  obtain ⟨A', c', h1, h2, _⟩ := h.ex
  simp only [rlv, Value.agg.injEq, Array.mk.injEq, List.cons.injEq, Value.slice.injEq] at h1
  obtain ⟨_, ⟨rfl, rfl, rfl⟩, _⟩ := h1
  exact ⟨h2.mono (fun _ _ h => h.elim), rfl⟩
attribute [local go_sem] Oper.semAt_some
theorem pk_neq (x z : Pk) (w : World) : (binOp .neq 34 (.agg #[.int .i64 x.id, .int .i64 x.flow, .int .i64 x.size]) (.agg #[.int .i64 z.id, .int .i64 z.flow, .int .i64 z.size])).run Try.prog w = .ok (.bool (!decide (x = z))) w := by
  obtain ⟨x0, x1, x2⟩ := x
  obtain ⟨z0, z1, z2⟩ := z
  have e : (!decide (Pk.mk x0 x1 x2 = Pk.mk z0 z1 z2)) = !(x0 == z0 && (x1 == z1 && x2 == z2)) := by
    by_cases h0 : x0 = z0 <;> by_cases h1 : x1 = z1 <;> by_cases h2 : x2 = z2 <;> simp [h0, h1, h2]
  rw [e]
  by_cases h0 : (x0 == z0) <;> by_cases h1 : (x1 == z1) <;> by_cases h2 : (x2 == z2) <;> simp [go_sem, h0, h1, h2]
end Go.Proofs.Ytfiiikgjgcnjgaa
