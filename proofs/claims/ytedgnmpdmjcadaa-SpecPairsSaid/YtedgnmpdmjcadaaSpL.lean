/- The statement SpecJoint walked. -/
import Derived.Test.YtedgnmpdmjcadaaSpK
set_option linter.unusedVariables false
set_option linter.unusedSimpArgs false
namespace Go.Proofs.Ytedgnmpdmjcadaa
open Go.RowKit

/-- Boxes of specs that stand, and what lies unturned. -/
def Bx (L : List (Nat × Sp)) (w w' : World) : Prop := (∀ p ∈ L, w'.heap[p.1]? = some (.cells (spc p.2) 23 (0, 0))) ∧ Fr0 w w'
theorem Bx.nil (w : World) : Bx [] w w := ⟨fun p hp => (by cases hp), Fr.refl _ _⟩
theorem Bx.step {L : List (Nat × Sp)} {w w' w'' : World} (h : Bx L w w') (hf : Fr0 w' w'') : Bx L w w'' := ⟨fun p hp => hf.blk (h.1 p hp) (fun h => h), h.2.trans hf⟩
theorem Bx.box {L : List (Nat × Sp)} {w w' : World} (h : Bx L w w') (s : Sp) : Bx ((w'.heap.size, s) :: L) w (w'.alloc (.cells (spc s) 23)) := by
  refine ⟨fun p hp => ?_, h.2.alloc _⟩
  rcases List.mem_cons.1 hp with rfl | hp
  · exact heap_alloc_new _ _
  · exact blk_alloc (h.1 p hp) _
theorem Bx.box1 {L : List (Nat × Sp)} {w w' : World} {n : Nat} (h : Bx L w w') (s : Sp) (hn : w'.heap.size = n) : Bx ((n, s) :: L) w (w'.alloc (.cells (spc s) 23)) := hn ▸ h.box s
theorem Bx.any {L : List (Nat × Sp)} {w w' : World} (h : Bx L w w') (o : Obj) : Bx L w (w'.alloc o) := h.step ((Fr.refl _ w').alloc o)
theorem Bx.at {L : List (Nat × Sp)} {w w' : World} (h : Bx L w w') {b : Nat} {s : Sp} (hm : (b, s) ∈ L) :
    w'.cell? ⟨b, 0, none⟩ = some (.int .i64 s.peak) ∧ w'.cell? ⟨b, 1, none⟩ = some (.int .i64 s.rate) ∧ w'.cell? ⟨b, 2, none⟩ = some (.int .i64 s.burst) ∧ w'.cell? ⟨b, 3, none⟩ = some (.int .i64 s.most) ∧ w'.cell? ⟨b, 4, none⟩ = some (.int .i64 s.least) := sp_cells (h.1 _ hm)
theorem rd_new (S : Nat → Prop) (w : World) (vs : List Value) (t : TypeId) (hS : ¬ S w.heap.size) : Rd S (w.alloc (.cells vs.toArray t)) (some ⟨w.heap.size, 0, none⟩) vs := by
  refine .inr ⟨_, 0, rfl, hS, fun i hi => ?_⟩
  have := cell_of_blk (heap_alloc_new w (.cells vs.toArray t)) (0 + i)
  rw [this, Nat.zero_add]
  simp [hi]

theorem rd_newn {w : World} {n : Nat} (S : Nat → Prop) (vs : List Value) (t : TypeId) (hn : w.heap.size = n) (hS : ¬ S w.heap.size) : Rd S (w.alloc (.cells vs.toArray t)) (some ⟨n, 0, none⟩) vs := hn ▸ rd_new S w vs t hS
theorem allr_turn (a b c : Sp) : ([a, b, c] ≠ [] ∧ AllR [a, b, c]) ↔ ([c, a, b, a] ≠ [] ∧ AllR [c, a, b, a]) := by
  simp only [AllR, ne_eq, reduceCtorEq, not_false_eq_true, true_and, List.mem_cons, List.not_mem_nil, or_false]
  constructor
  · intro h s hs
    rcases hs with rfl | rfl | rfl | rfl <;> exact h _ (by simp)
  · intro h s hs
    rcases hs with rfl | rfl | rfl <;> exact h _ (by simp)
theorem allr_turn2 (a b c : Sp) : ([a, b, c] ≠ [] ∧ AllR [a, b, c]) ↔ ([c, a, b] ≠ [] ∧ AllR [c, a, b]) := by
  simp only [AllR, ne_eq, reduceCtorEq, not_false_eq_true, true_and, List.mem_cons, List.not_mem_nil, or_false]
  constructor
  · intro h s hs
    rcases hs with rfl | rfl | rfl <;> exact h _ (by simp)
  · intro h s hs
    rcases hs with rfl | rfl | rfl <;> exact h _ (by simp)
theorem sp_ext {a b : Sp} (h0 : a.peak = b.peak) (h1 : a.rate = b.rate) (h2 : a.burst = b.burst) (h3 : a.most = b.most) (h4 : a.least = b.least) : a = b := by
  cases a; cases b; simp_all
theorem jn_turn (a b c : Sp) : jn [c, a, b, a] = jn [a, b, c] := by
  apply sp_ext <;> simp only [jn, joinS, List.foldl_cons, List.foldl_nil] <;> omega
theorem sm_turn (a b c : Sp) : sm [c, a, b] = sm [a, b, c] := by
  apply sp_ext <;> simp only [sm, plusS, List.foldl_cons, List.foldl_nil] <;> omega

/-- What Joint answers, what Sum answers. -/
def jnA (l : List Sp) : Sp × Int := if l ≠ [] ∧ AllR l then (jn l, 0) else (noS, 2)
def smA (l : List Sp) : Sp × Int := if l ≠ [] ∧ AllR l then (if (sm l).Right then (sm l, 0) else (noS, 3)) else (noS, 2)
theorem jnA_ret (l : List Sp) : (if l ≠ [] ∧ AllR l then Value.tuple #[spv (jn l), .int .i64 0] else .tuple #[spv noS, .int .i64 2]) = .tuple #[spv (jnA l).1, .int .i64 (jnA l).2] := by
  unfold jnA; split <;> rfl
theorem smA_ret (l : List Sp) : (if l ≠ [] ∧ AllR l then (if (sm l).Right then Value.tuple #[spv (sm l), .int .i64 0] else .tuple #[spv noS, .int .i64 3]) else .tuple #[spv noS, .int .i64 2]) = .tuple #[spv (smA l).1, .int .i64 (smA l).2] := by
  unfold smA; split
  · split <;> rfl
  · rfl
theorem jointA_calls (l : List Sp) (n : Nat) (hn : l.length = n) (w : World) (A : Option Addr) (hR : Rd (fun _ => False) w A (sps l)) (hl : n ≤ 1000000) :
    Calls Try.prog 22 #[.slice A n n] w fun e w' => e = .returned (.tuple #[spv (jnA l).1, .int .i64 (jnA l).2]) ∧ Fr0 w w' := by
  subst hn
  have := joint_calls A l.length l w hR hl (Nat.le_refl _)
  rwa [jnA_ret] at this
theorem sumA_calls (l : List Sp) (n : Nat) (hn : l.length = n) (w : World) (A : Option Addr) (hR : Rd (fun _ => False) w A (sps l)) (hl : n ≤ 1000000) :
    Calls Try.prog 19 #[.slice A n n] w fun e w' => e = .returned (.tuple #[spv (smA l).1, .int .i64 (smA l).2]) ∧ Fr0 w w' := by
  subst hn
  have := sum_calls A l.length l w hR hl (Nat.le_refl _)
  rwa [smA_ret] at this

set_option maxHeartbeats 1000000 in
theorem joint_walk (a b c : Sp) (w : World) : Calls Try.prog 7 #[spv a, spv b, spv c] w (Good' w) := by
  have HB := Lib.hid ((((Bx.nil w).box1 a rfl).box1 (n := w.heap.size + 1) b (by simp)).box1 (n := w.heap.size + 1 + 1) c (by simp))
  have H1 := Lib.hid (jointA_calls [a, b, c] 3 rfl)
  have H2 := Lib.hid (jointA_calls [c, a, b, a] 4 rfl)
  have H3 := Lib.hid (sumA_calls [a, b, c] 3 rfl)
  have H4 := Lib.hid (sumA_calls [c, a, b] 3 rfl)
  have e2 : jnA [c, a, b, a] = jnA [a, b, c] := by
    unfold jnA
    simp only [← allr_turn a b c, jn_turn]
  have e4 : smA [c, a, b] = smA [a, b, c] := by
    unfold smA
    simp only [← allr_turn2 a b c, sm_turn]
  rw [e2] at H2
  rw [e4] at H4
  clear e2 e4
  generalize jnA [a, b, c] = j at *
  generalize smA [a, b, c] = m at *
  obtain ⟨j, je⟩ := j
  obtain ⟨m, me⟩ := m
  dsimp only at H1 H2 H3 H4
  go_enter Try.func7, Try.ntmps7
  go_wp2_with fail
  refine (H1.out _ _ (rd_newn _ (sps [a, b, c]) _ (by simp) (fun h => h)) (by decide)).mono ?_
  rintro e w1 ⟨rfl, hf1⟩
  have HB := Lib.hid (((HB.out.any _).step hf1).box j)
  clear hf1
  obtain ⟨a0, a1, a2, a3, a4⟩ := HB.out.at (b := w.heap.size) (s := a) (by simp)
  obtain ⟨b0, b1, b2, b3, b4⟩ := HB.out.at (b := w.heap.size + 1) (s := b) (by simp)
  obtain ⟨c0, c1, c2, c3, c4⟩ := HB.out.at (b := w.heap.size + 1 + 1) (s := c) (by simp)
  go_wp2_with fail
  refine (H2.out _ _ (rd_newn _ (sps [c, a, b, a]) _ (by simp) (fun h => h)) (by decide)).mono ?_
  rintro e w2 ⟨rfl, hf2⟩
  have HB := Lib.hid (((HB.out.any _).step hf2).box j)
  clear hf2 a0 a1 a2 a3 a4 b0 b1 b2 b3 b4 c0 c1 c2 c3 c4
  obtain ⟨a0, a1, a2, a3, a4⟩ := HB.out.at (b := w.heap.size) (s := a) (by simp)
  obtain ⟨b0, b1, b2, b3, b4⟩ := HB.out.at (b := w.heap.size + 1) (s := b) (by simp)
  obtain ⟨c0, c1, c2, c3, c4⟩ := HB.out.at (b := w.heap.size + 1 + 1) (s := c) (by simp)
  go_wp2_with fail
  refine (H3.out _ _ (rd_newn _ (sps [a, b, c]) _ (by simp) (fun h => h)) (by decide)).mono ?_
  rintro e w3 ⟨rfl, hf3⟩
  have HB := Lib.hid (((HB.out.any _).step hf3).box m)
  clear hf3 a0 a1 a2 a3 a4 b0 b1 b2 b3 b4 c0 c1 c2 c3 c4
  obtain ⟨a0, a1, a2, a3, a4⟩ := HB.out.at (b := w.heap.size) (s := a) (by simp)
  obtain ⟨b0, b1, b2, b3, b4⟩ := HB.out.at (b := w.heap.size + 1) (s := b) (by simp)
  obtain ⟨c0, c1, c2, c3, c4⟩ := HB.out.at (b := w.heap.size + 1 + 1) (s := c) (by simp)
  go_wp2_with fail
  refine (H4.out _ _ (rd_newn _ (sps [c, a, b]) _ (by simp) (fun h => h)) (by decide)).mono ?_
  rintro e w4 ⟨rfl, hf4⟩
  have HB := Lib.hid (((HB.out.any _).step hf4).box m)
  clear hf4 a0 a1 a2 a3 a4 b0 b1 b2 b3 b4 c0 c1 c2 c3 c4
  obtain ⟨a0, a1, a2, a3, a4⟩ := HB.out.at (b := w1.heap.size) (s := j) (by simp)
  obtain ⟨b0, b1, b2, b3, b4⟩ := HB.out.at (b := w2.heap.size) (s := j) (by simp)
  obtain ⟨c0, c1, c2, c3, c4⟩ := HB.out.at (b := w3.heap.size) (s := m) (by simp)
  obtain ⟨d0, d1, d2, d3, d4⟩ := HB.out.at (b := w4.heap.size) (s := m) (by simp)
  have HKN := Lib.hid known_calls
  go_wp2_with (go_at_call 10; refine (HKN.out _).mono ?_; rintro e wk ⟨rfl, hf⟩)
  go_ret
  exact ⟨rfl, HB.out.2.trans hf⟩
end Go.Proofs.Ytedgnmpdmjcadaa
