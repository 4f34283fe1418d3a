/- A region that draws and whose operations read what lies unturned, or call what leaves it unturned: one walk in the order of the text. No program in sight. -/
import Derived.Test.YtdakeenjeieekaaRegion
import Derived.BigQuiet
set_option linter.unusedVariables false
set_option linter.unusedSimpArgs false
namespace Go.Proofs.Ytdakeenjeieekaa
open Go.RowKit

theorem jump_ret {l : Nat} {J : Act → World → Prop} {Q : Exit → Act → World → Prop} {a : Act} {w : World} : Exit.jump l J Q .ret a w = Q .ret a w := rfl
/-- The worlds in which all of W lies unturned. -/
structure Wx (W : World) : Type where
  u : World
  fr : Fr0 W u
instance (W : World) : Nonempty (Wx W) := ⟨⟨W, Fr.refl _ W⟩⟩
def CgX (W U : World) : Prop := ∃ x : Wx W, U = x.u
theorem CgX.fr {W U : World} (h : CgX W U) : Fr0 W U := by obtain ⟨x, rfl⟩ := h; exact x.fr
theorem quiet_cg {P : Program} {f : FuncId} {args : Array Value} {W : World} {x : Wx W} {v : Value} (h : Calls P f args x.u fun e w' => e = .returned v ∧ Fr0 x.u w') :
    Calls P f args x.u fun e w'' => e = .returned v ∧ ∃ y : Wx W, w'' = y.u := h.mono fun _ w' ⟨he, hf⟩ => ⟨he, ⟨w', x.fr.trans hf⟩, rfl⟩
theorem cg_cell {W : World} {p : Addr} {v : Value} (h : W.cell? p = some v) (x : Wx W) : x.u.cell? p = some v := Fr.cell x.fr h (fun h => h)
theorem wpq_mono {P : Program} {ops : Array Oper} {C : World → Prop} {Q Q' : Act → Prop} (hQ : ∀ a, Q a → Q' a) : ∀ (l : List Oper) (a : Act), wpQuiet P ops C Q l a → wpQuiet P ops C Q' l a
  | [], a, h => hQ a h
  | o :: rest, a, h => by
    unfold wpQuiet at *
    split
    · rename_i hw
      rw [if_pos hw] at h
      exact Oper.quiet_mono (fun a h => wpq_mono hQ rest a h) h
    · rename_i hw
      rw [if_neg hw] at h
      exact wpq_mono hQ rest _ h
theorem wp_region_cg {P : Program} {id : Nat} {Q : Exit → Act → World → Prop} {a : Act} {w : World} {l : List Oper} (hm : P.follows .mixedOrders = true) (hB : Region.lexB .any l.toArray = true)
    (h : wpQuiet P l.toArray (fun U => ∃ x : Wx w, U = x.u) (fun a' => ∀ w', Fr0 w w' → Q .normal a' w') l a) : (Code.region id l.toArray true).wp P Q a w := by
  refine wp_region_quiet (C := fun U => ∃ x : Wx w, U = x.u) hm hB ⟨⟨w.drew, (Fr.refl _ w).drew⟩, rfl⟩ ?_
  refine wpq_mono ?_ _ _ (by simpa using h)
  rintro a' h' _ ⟨x, rfl⟩
  exact h' _ x.fr
theorem heap_alloc_nn {w : World} {n : Nat} {o : Obj} (hn : w.heap.size = n) : (w.alloc o).heap[n]? = some o := hn ▸ heap_alloc_new w o
theorem keeps_of_fr {S : Nat → Prop} {W W' : World} (h : Fr S W W') (n : Nat) (hS : ∀ k o, n ≤ k → W.heap[k]? = some o → o.isCells = false → ¬ S k) : KeepsFrom n W W' :=
  ⟨h.size, fun k o hk ho hc => h.blk ho (hS k o hk ho hc)⟩
theorem ne_row {n : Nat} {A : World} {row : Option Nat} (hr : ∀ r, row = some r → n ≤ r ∧ ∃ o : Obj, A.heap[r]? = some o ∧ o.isCells = false) : ∀ k cs t fr, A.heap[k]? = some (.cells cs t fr) → some k ≠ row := by
  rintro k cs t fr hk rfl
  obtain ⟨_, o, ho, hc⟩ := hr k rfl
  rw [hk] at ho; cases ho; simp [Obj.isCells] at hc
end Go.Proofs.Ytdakeenjeieekaa
