/- A range over a function whose both ends, done and broken off, go on alike. No program in sight. -/
import Derived.Test.YtmnadploikcljaaScp
import Derived.Test.YtmnadploikcljaaRegC
set_option linter.unusedVariables false
set_option linter.unusedSimpArgs false
namespace Go.Proofs.Ytmnadploikcljaa
open Go.RowKit

section
variable {F : Fence} {n : Nat} {P : Program}
theorem wpIn_rangeFunc_both {α : Type} {g : Operand} {ps : Array Tmp} {assign body : Code} {id : Nat} {Q : Exit → Act → World → Prop} {a : Act} {w : World}
    (hro : F.round = none) (h1 : 1 ≤ n) {gf : Nat} {lb : Array Value} (hg : a.eval g = .func (.func gf) #[] lb) (hFg : F.fn gf) (eg : ∀ args w, (callFunc gf args).run P w = .ok (.enter gf args) w)
    {encs : α → Array Value} {Kp : World → World → Prop} {S Sp : List α → Prop} {N : Nat} {w0 : World} (hseq : SeqStopsK F (n - 1) P gf lb encs Kp S Sp N w0)
    (hKt : ∀ {A B C : World}, Kp A B → Kp B C → Kp A C) (hKb : ∀ (W : World) (l : Nat) (o o' : Obj), w.heap.size ≤ l → W.heap[l]? = some o → o.isCells = false → o.isWalk = false → Kp W (W.putObj l o')) (hb0 : Below w0.heap.size w0 w) (hps : ∀ x, (encs x).size = ps.size)
    (I : List α → World → Prop) (Ix : Code → List α → World → Prop) (hI : OwnFrom w.heap.size I) (hIx : ∀ c, OwnFrom w.heap.size (Ix c)) (h0 : I [] w)
    (Ax : α → Act → World → Prop) (hAx : ∀ x a', OwnFrom w.heap.size (fun (_ : Unit) W => Ax x a' W))
    (hassign : ∀ (l : Nat) (pre : List α) (x : α) (W : World) (K : Act → World → Prop), I pre W → (∀ a' W', KeepsFrom w.heap.size W W' → Kp W W' → I pre W' → Ax x a' W' → K a' W') →
      assign.wpIn (F.inRound l) (n - 1 - 1) P (Exit.then K (fun _ _ _ => False)) { tmps := (ps.zip (encs x)).foldl (fun t (p, v) => t.setIfInBounds p v) a.tmps, defers := [] } W)
    (hbody : ∀ (l : Nat) (pre : List α) (x : α) (a' : Act) (W : World), w.heap.size ≤ l → (∃ r, W.heap[l]? = some (.loop r)) → I pre W → Ax x a' W → pre.length < N → body.wpIn (F.inRound l) (n - 1 - 1) P (ownPostG w.heap.size Kp I Ix (pre ++ [x]) W) a' W)
    (Fin : World → Prop) (hfd : ∀ xs W, S xs → I xs W → Fin W) (hfs : ∀ c pre W, Sp pre → Ix c pre W → c = .exit id ∧ Fin W)
    (hend : ∀ (D : Nat) (W : World), w.heap.size ≤ D → Fin W → W.heap[D]? = some (.deferred (some [])) → Q .normal { a with defers := { target := .collected D, args := #[] } :: a.defers } W) :
    (Code.rangeFunc g ps assign body).wpIn F n P (Exit.inBlock id Q) a w := by
  refine wpIn_rangeFunc_ownH hro h1 hg hFg eg hseq hKt hKb hb0 hps I Ix hI hIx h0 Ax hAx hassign hbody ?_ ?_
  · intro D xs W hD hS hIW hK
    exact hend D W hD (hfd xs W hS hIW) hK
  · intro D c pre W hD hS hIW hK
    obtain ⟨rfl, hF⟩ := hfs c pre W hS hIW
    exact wpIn_exit (by simpa [Exit.inBlock] using hend D W hD hF hK)
/-- The same, where a round lays its variable in a box, and nothing else. -/
theorem wpIn_rangeFunc_box {α : Type} {g : Operand} {ps : Array Tmp} {assign body : Code} {id : Nat} {Q : Exit → Act → World → Prop} {a : Act} {w : World}
    (hro : F.round = none) (h1 : 1 ≤ n) {gf : Nat} {lb : Array Value} (hg : a.eval g = .func (.func gf) #[] lb) (hFg : F.fn gf) (eg : ∀ args w, (callFunc gf args).run P w = .ok (.enter gf args) w)
    {encs : α → Array Value} {Kp : World → World → Prop} {S Sp : List α → Prop} {N : Nat} {w0 : World} (hseq : SeqStopsK F (n - 1) P gf lb encs Kp S Sp N w0)
    (hKt : ∀ {A B C : World}, Kp A B → Kp B C → Kp A C) (hKb : ∀ (W : World) (l : Nat) (o o' : Obj), w.heap.size ≤ l → W.heap[l]? = some o → o.isCells = false → o.isWalk = false → Kp W (W.putObj l o')) (hKa : ∀ (W : World) (o : Obj), Kp W (W.alloc o)) (hb0 : Below w0.heap.size w0 w) (hps : ∀ x, (encs x).size = ps.size)
    (I : List α → World → Prop) (Ix : Code → List α → World → Prop) (hI : OwnFrom w.heap.size I) (hIx : ∀ c, OwnFrom w.heap.size (Ix c)) (hIs : ∀ pre W, I pre W → w.heap.size ≤ W.heap.size) (h0 : I [] w)
    (Bx : α → Array Value) (Bt : TypeId) (A1 : α → Nat → Act)
    (hassign : ∀ (l : Nat) (pre : List α) (x : α) (W : World) (K : Act → World → Prop) (q : Nat), W.heap.size = q → I pre W → K (A1 x q) (W.alloc (.cells (Bx x) Bt)) →
      assign.wpIn (F.inRound l) (n - 1 - 1) P (Exit.then K (fun _ _ _ => False)) { tmps := (ps.zip (encs x)).foldl (fun t (p, v) => t.setIfInBounds p v) a.tmps, defers := [] } W)
    (hbody : ∀ (l : Nat) (pre : List α) (x : α) (q : Nat) (W : World), I pre W → w.heap.size ≤ q → W.heap[q]? = some (.cells (Bx x) Bt (0, 0)) → pre.length < N → body.wpIn (F.inRound l) (n - 1 - 1) P (ownPostG w.heap.size Kp I Ix (pre ++ [x]) W) (A1 x q) W)
    (Fin : World → Prop) (hfd : ∀ xs W, S xs → I xs W → Fin W) (hfs : ∀ c pre W, Sp pre → Ix c pre W → c = .exit id ∧ Fin W)
    (hend : ∀ (D : Nat) (W : World), w.heap.size ≤ D → Fin W → W.heap[D]? = some (.deferred (some [])) → Q .normal { a with defers := { target := .collected D, args := #[] } :: a.defers } W) :
    (Code.rangeFunc g ps assign body).wpIn F n P (Exit.inBlock id Q) a w := by
  refine wpIn_rangeFunc_both hro h1 hg hFg eg hseq hKt hKb hb0 hps I Ix hI hIx h0 (fun x a' W => ∃ q, w.heap.size ≤ q ∧ W.heap[q]? = some (.cells (Bx x) Bt (0, 0)) ∧ a' = A1 x q) ?_ ?_ ?_ Fin hfd hfs hend
  · rintro x a' _ A B row ⟨q, hq, hA, ha⟩ hgr hr
    exact ⟨q, hq, blk_grown hA hgr (ne_row hr _ _ _ _ hA), ha⟩
  · intro l pre x W K hIW hK
    exact hassign l pre x W K _ rfl hIW (hK _ _ (keeps_of_fr ((Fr.refl (fun _ => False) W).alloc _) _ (fun _ _ _ _ _ h => h)) (hKa W _) (hI.alloc _ hIW) ⟨_, hIs _ _ hIW, heap_alloc_new _ _, rfl⟩)
  · rintro l pre x a' W hl hr hIW ⟨q, hq, hQ, rfl⟩ hN
    exact hbody l pre x q W hIW hq hQ hN
end
end Go.Proofs.Ytmnadploikcljaa
