/- A range over a function whose iterator says a word of each element that it yields. No program in sight. -/
import Derived.Test.YtbhdkpcakjookaaFfY0
set_option linter.unusedVariables false
set_option linter.unusedSimpArgs false
namespace Go.Proofs.Ytbhdkpcakjookaa
open Go.RowKit

section
variable {F : Fence} {n : Nat} {P : Program}
/-- An iterator's contract: of each element that it yields, Y holds where it is yielded. -/
def SeqStopsY {α : Type} (F : Fence) (n : Nat) (P : Program) (g : Nat) (lb : Array Value) (encs : α → Array Value) (Kp : World → World → Prop) (Y : α → World → Prop) (S Sp : List α → Prop) (N : Nat) (w : World) : Prop :=
  ∀ (l : Nat) (J Jx : List α → World → Prop) (W : World), Below w.heap.size w W → AbidesFrom W.heap.size J → AbidesFrom W.heap.size Jx →
    (∀ pre x W1, J pre W1 → Y x W1 → pre.length < N → YieldAt F (n - 1) P l (encs x) W1 fun e W' =>
      (e = .returned (.bool true) ∧ J (pre ++ [x]) W' ∧ Kp W1 W') ∨ (e = .returned (.bool false) ∧ Jx (pre ++ [x]) W')) →
    J [] W →
    CallsIn F n P g (#[.func (.yield l) #[] #[]] ++ lb) W fun e W' => (∃ v, e = .returned v) ∧ ((∃ xs, S xs ∧ J xs W') ∨ (∃ pre, Sp pre ∧ Jx pre W'))
/-- The record of the loop, at a state. -/
def recY (a : Act) (ps : Array Tmp) (assign body : Code) (fn : FuncId) (D : Nat) (st : LoopState) (pe : Option Code) : Loop :=
  { state := st, pending := pe, fn := fn, tmps := a.tmps, params := ps, assign := assign, body := body, defers := D }
/-- The two blocks of a loop's book-keeping. -/
def Book (D : Nat) (r : Loop) (W : World) : Prop := W.heap[D + 1]? = some (.loop r) ∧ W.heap[D]? = some (.deferred (some []))
theorem Book.keeps {D : Nat} {r : Loop} {W W' : World} (h : Book D r W) (k : KeepsFrom D W W') : Book D r W' := ⟨k.same _ _ (by omega) h.1 rfl, k.same _ _ (Nat.le_refl _) h.2 rfl⟩
theorem Book.walk {D : Nat} {r : Loop} {W W' : World} {row : Option Nat} (h : Book D r W) (hg : W.grownBy W' row) (hr : ∀ k, row = some k → ∃ o : Obj, W.heap[k]? = some o ∧ o.isWalk = true) : Book D r W' :=
  ⟨(grownBy_keeps hg hr h.1 rfl).trans h.1, (grownBy_keeps hg hr h.2 rfl).trans h.2⟩
theorem Book.put {D : Nat} {r r' : Loop} {W : World} (h : Book D r W) : Book D r' (W.putObj (D + 1) (.loop r')) :=
  ⟨World.putObj_heap_same (Array.getElem?_eq_some_iff.1 h.1).1, (World.putObj_heap_other (by omega)).trans h.2⟩
theorem wpIn_rangeFunc_ownY {α : Type} {g : Operand} {ps : Array Tmp} {assign body : Code} {Q : Exit → Act → World → Prop} {a : Act} {w : World}
    (hro : F.round = none) (h1 : 1 ≤ n) {gf : Nat} {lb : Array Value} (hg : a.eval g = .func (.func gf) #[] lb) (hFg : F.fn gf) (eg : ∀ args w, (callFunc gf args).run P w = .ok (.enter gf args) w)
    {encs : α → Array Value} {Kp : World → World → Prop} {Y : α → World → Prop} {S Sp : List α → Prop} {N : Nat} {w0 : World} (hseq : SeqStopsY F (n - 1) P gf lb encs Kp Y S Sp N w0)
    (hKt : ∀ {A B C : World}, Kp A B → Kp B C → Kp A C) (hKb : ∀ (W : World) (l : Nat) (o o' : Obj), w.heap.size ≤ l → W.heap[l]? = some o → o.isCells = false → o.isWalk = false → Kp W (W.putObj l o')) (hb0 : Below w0.heap.size w0 w) (hps : ∀ x, (encs x).size = ps.size)
    (I : List α → World → Prop) (Ix : Code → List α → World → Prop) (hI : OwnFrom w.heap.size I) (hIx : ∀ c, OwnFrom w.heap.size (Ix c)) (h0 : I [] w)
    (Ax : α → Act → World → Prop) (hAx : ∀ x a', OwnFrom w.heap.size (fun (_ : Unit) W => Ax x a' W))
    (hassign : ∀ (l : Nat) (pre : List α) (x : α) (W : World) (K : Act → World → Prop), I pre W → Y x W → (∀ a' W', KeepsFrom w.heap.size W W' → Kp W W' → I pre W' → Ax x a' W' → K a' W') →
      assign.wpIn (F.inRound l) (n - 1 - 1) P (Exit.then K (fun _ _ _ => False)) { tmps := (ps.zip (encs x)).foldl (fun t (p, v) => t.setIfInBounds p v) a.tmps, defers := [] } W)
    (hbody : ∀ (l : Nat) (pre : List α) (x : α) (a' : Act) (W : World), w.heap.size ≤ l → (∃ r, W.heap[l]? = some (.loop r)) → I pre W → Ax x a' W → pre.length < N → body.wpIn (F.inRound l) (n - 1 - 1) P (ownPostG w.heap.size Kp I Ix (pre ++ [x]) W) a' W)
    (hdone : ∀ (D : Nat) (xs : List α) (W : World), w.heap.size ≤ D → S xs → I xs W → W.heap[D]? = some (.deferred (some [])) → Q .normal { a with defers := { target := .collected D, args := #[] } :: a.defers } W)
    (hstop : ∀ (D : Nat) (c : Code) (pre : List α) (W : World), w.heap.size ≤ D → Sp pre → Ix c pre W → W.heap[D]? = some (.deferred (some [])) → c.wpIn F n P Q { a with defers := { target := .collected D, args := #[] } :: a.defers } W) :
    (Code.rangeFunc g ps assign body).wpIn F n P Q a w := by
  refine wpIn_rangeFunc fun fn hfn => ?_
  rw [hro]
  let rec_ := recY a ps assign body fn w.heap.size
  let W1 := (w.alloc (.deferred (some []))).alloc (.loop (rec_ .ready none))
  have hB1 : Book w.heap.size (rec_ .ready none) W1 :=
    ⟨heap_alloc_nn (by simp), blk_alloc (heap_alloc_new _ _) _⟩
  have hI1 : I [] W1 := hI.alloc _ (hI.alloc _ h0)
  have hs1 : w.heap.size ≤ W1.heap.size := by show w.heap.size ≤ ((w.alloc _).alloc _).heap.size; simp only [World.size_alloc]; omega
  have hb1 : Below w0.heap.size w0 W1 := hb0.trans ((((Below.refl _ w).alloc (Nat.le_refl _) _).alloc (by simp) _).mono hb0.size)
  have turn : ∀ {A B : World} {row : Option Nat}, (∀ r, row = some r → W1.heap.size ≤ r ∧ ∃ o : Obj, A.heap[r]? = some o ∧ o.isWalk = true) → (∀ r, row = some r → w.heap.size ≤ r ∧ ∃ o : Obj, A.heap[r]? = some o ∧ o.isCells = false) :=
    fun hr r e => by obtain ⟨hB, o, ho, hw⟩ := hr r e; exact ⟨Nat.le_trans hs1 hB, o, ho, Obj.not_cells_of_walk hw⟩
  refine ⟨w.heap.size + 1, [{ target := .collected w.heap.size, args := #[] }], W1, { target := .fn (.func gf) lb, args := #[.func (.yield (w.heap.size + 1)) #[] #[]] }, W1, gf,
    #[.func (.yield (w.heap.size + 1)) #[] #[]] ++ lb, W1, run_enterLoop_outer _ _ _ _ _, by simp only [resolve, hg]; simp [go_sem], fun f' hf' => by simp [Target.leads] at hf'; subst hf'; exact hFg, by simp [invoke, go_sem, eg], fun _ => h1, ?_⟩
  refine (hseq (w.heap.size + 1) (fun pre W => I pre W ∧ Book w.heap.size (rec_ .ready none) W) (fun pre W => ∃ c, Ix c pre W ∧ Book w.heap.size (rec_ .done (some c)) W) W1 hb1 ?_ ?_ ?_ ⟨hI1, hB1⟩).mono ?_
  · exact fun s A B row hs hg' hr => ⟨hI s A B row hs.1 hg' (turn (B := B) hr), hs.2.walk hg' (fun r e => (hr r e).2)⟩
  · rintro s A B row ⟨c, hc, hb⟩ hg' hr
    exact ⟨c, hIx c s A B row hc hg' (turn (B := B) hr), hb.walk hg' (fun r e => (hr r e).2)⟩
  · rintro pre x W ⟨hi, hb⟩ hy hlen
    refine ⟨fn, _, assign, body, run_yield (P := P) (args := encs x) hb.1 (hps x), roundIn_of_wpIn hfn (hassign _ pre x W _ hi hy ?_)⟩
    intro a' V hkf hkp hiV hax
    have hbV := hb.keeps hkf
    refine ⟨_, run_beginRound hbV.1 rfl, ?_⟩
    have hb2 : Book w.heap.size (rec_ .busy none) (V.putObj (w.heap.size + 1) (.loop (rec_ .busy none))) := hbV.put
    have hw2 : Kp V (V.putObj (w.heap.size + 1) (.loop (rec_ .busy none))) := hKb _ _ _ _ (by omega) hbV.1 rfl rfl
    refine wpIn_mono (hbody _ pre x a' _ (by omega) ⟨_, hb2.1⟩ (hI.putObj _ hiV (by omega) hbV.1 rfl) ((hAx x a').putObj (s := ()) _ hax (by omega) hbV.1 rfl) hlen) ?_
    rintro e a3 W3 hp
    cases e with
    | normal =>
      obtain ⟨hk3, hkp3, hi3⟩ := hp
      have hb3 := hb2.keeps hk3
      exact ⟨_, _, run_endRound none hb3.1, .inl ⟨rfl, ⟨hI.putObj _ hi3 (by omega) hb3.1 rfl, hb3.put⟩, hKt hkp (hKt (hKt hw2 hkp3) (hKb _ _ _ _ (by omega) hb3.1 rfl rfl))⟩⟩
    | ret =>
      obtain ⟨hk3, hi3⟩ := hp
      have hb3 := hb2.keeps hk3
      exact ⟨_, _, run_endRound (some .ret) hb3.1, .inr ⟨rfl, .ret, (hIx _).putObj _ hi3 (by omega) hb3.1 rfl, hb3.put⟩⟩
    | exit id =>
      obtain ⟨hk3, hi3⟩ := hp
      have hb3 := hb2.keeps hk3
      exact ⟨_, _, run_endRound (some (.exit id)) hb3.1, .inr ⟨rfl, .exit id, (hIx _).putObj _ hi3 (by omega) hb3.1 rfl, hb3.put⟩⟩
    | goto t =>
      obtain ⟨hk3, hi3⟩ := hp
      have hb3 := hb2.keeps hk3
      exact ⟨_, _, run_endRound (some (.goto t)) hb3.1, .inr ⟨rfl, .goto t, (hIx _).putObj _ hi3 (by omega) hb3.1 rfl, hb3.put⟩⟩
    | panic ch => exact hp.elim
    | outgrown => exact hp.elim
  · rintro e W2 ⟨⟨v, rfl⟩, (⟨xs, hS, hi, hb⟩ | ⟨pre, hSp, c, hi, hb⟩)⟩
    · exact ⟨none, _, run_endLoop hb.1 (by simp [rec_, recY]), hdone _ xs _ (Nat.le_refl _) hS (hI.putObj _ hi (by omega) hb.1 rfl) ((World.putObj_heap_other (by omega)).trans hb.2)⟩
    · exact ⟨some c, _, run_endLoop hb.1 (by simp [rec_, recY]), hstop _ c pre _ (Nat.le_refl _) hSp ((hIx c).putObj _ hi (by omega) hb.1 rfl) ((World.putObj_heap_other (by omega)).trans hb.2)⟩
/-- The same, where a round lays its variable in a box, and nothing else, and both ends go on alike. -/
theorem wpIn_rangeFunc_boxY {α : Type} {g : Operand} {ps : Array Tmp} {assign body : Code} {id : Nat} {Q : Exit → Act → World → Prop} {a : Act} {w : World}
    (hro : F.round = none) (h1 : 1 ≤ n) {gf : Nat} {lb : Array Value} (hg : a.eval g = .func (.func gf) #[] lb) (hFg : F.fn gf) (eg : ∀ args w, (callFunc gf args).run P w = .ok (.enter gf args) w)
    {encs : α → Array Value} {Kp : World → World → Prop} {Y : α → World → Prop} {S Sp : List α → Prop} {N : Nat} {w0 : World} (hseq : SeqStopsY F (n - 1) P gf lb encs Kp Y S Sp N w0)
    (hKt : ∀ {A B C : World}, Kp A B → Kp B C → Kp A C) (hKb : ∀ (W : World) (l : Nat) (o o' : Obj), w.heap.size ≤ l → W.heap[l]? = some o → o.isCells = false → o.isWalk = false → Kp W (W.putObj l o')) (hKa : ∀ (W : World) (o : Obj), Kp W (W.alloc o)) (hb0 : Below w0.heap.size w0 w) (hps : ∀ x, (encs x).size = ps.size)
    (hY : ∀ x, OwnFrom w.heap.size (fun (_ : Unit) W => Y x W))
    (I : List α → World → Prop) (Ix : Code → List α → World → Prop) (hI : OwnFrom w.heap.size I) (hIx : ∀ c, OwnFrom w.heap.size (Ix c)) (hIs : ∀ pre W, I pre W → w.heap.size ≤ W.heap.size) (h0 : I [] w)
    (Bx : α → Array Value) (Bt : TypeId) (A1 : α → Nat → Act)
    (hassign : ∀ (l : Nat) (pre : List α) (x : α) (W : World) (K : Act → World → Prop) (q : Nat), W.heap.size = q → I pre W → K (A1 x q) (W.alloc (.cells (Bx x) Bt)) →
      assign.wpIn (F.inRound l) (n - 1 - 1) P (Exit.then K (fun _ _ _ => False)) { tmps := (ps.zip (encs x)).foldl (fun t (p, v) => t.setIfInBounds p v) a.tmps, defers := [] } W)
    (hbody : ∀ (l : Nat) (pre : List α) (x : α) (q : Nat) (W : World), I pre W → Y x W → w.heap.size ≤ q → W.heap[q]? = some (.cells (Bx x) Bt (0, 0)) → pre.length < N → body.wpIn (F.inRound l) (n - 1 - 1) P (ownPostG w.heap.size Kp I Ix (pre ++ [x]) W) (A1 x q) W)
    (Fin : World → Prop) (hfd : ∀ xs W, S xs → I xs W → Fin W) (hfs : ∀ c pre W, Sp pre → Ix c pre W → c = .exit id ∧ Fin W)
    (hend : ∀ (D : Nat) (W : World), w.heap.size ≤ D → Fin W → W.heap[D]? = some (.deferred (some [])) → Q .normal { a with defers := { target := .collected D, args := #[] } :: a.defers } W) :
    (Code.rangeFunc g ps assign body).wpIn F n P (Exit.inBlock id Q) a w := by
  refine wpIn_rangeFunc_ownY hro h1 hg hFg eg hseq hKt hKb hb0 hps I Ix hI hIx h0 (fun x a' W => Y x W ∧ ∃ q, w.heap.size ≤ q ∧ W.heap[q]? = some (.cells (Bx x) Bt (0, 0)) ∧ a' = A1 x q) ?_ ?_ ?_ ?_ ?_
  · rintro x a' u A B row ⟨hy, q, hq, hA, ha⟩ hgr hr
    exact ⟨hY x u A B row hy hgr hr, q, hq, blk_grown hA hgr (ne_row hr _ _ _ _ hA), ha⟩
  · intro l pre x W K hIW hy hK
    exact hassign l pre x W K _ rfl hIW (hK _ _ (keeps_of_fr ((Fr.refl (fun _ => False) W).alloc _) _ (fun _ _ _ _ _ h => h)) (hKa W _) (hI.alloc _ hIW) ⟨(hY x).alloc (s := ()) _ hy, _, hIs _ _ hIW, heap_alloc_new _ _, rfl⟩)
  · rintro l pre x a' W hl hr hIW ⟨hy, q, hq, hQ, rfl⟩ hN
    exact hbody l pre x q W hIW hy hq hQ hN
  · intro D xs W hD hS hIW hK
    exact hend D W hD (hfd xs W hS hIW) hK
  · intro D c pre W hD hS hIW hK
    obtain ⟨rfl, hF⟩ := hfs c pre W hS hIW
    exact wpIn_exit (by simpa [Exit.inBlock] using hend D W hD hF hK)
end
end Go.Proofs.Ytbhdkpcakjookaa
