/- Chapter 01, the document: tools for regions that call Of, Mul, Frac. -/
import Derived.Test.YtdakeenjeieekaaRegH
import Derived.Deep.RegionHeld3
import Derived.Test.YtdakeenjeieekaaRb7
import Derived.Test.YtdakeenjeieekaaRb5
set_option linter.unusedVariables false
set_option linter.unusedSimpArgs false
namespace Go.Proofs.Ytdakeenjeieekaa
open Go.RowKit
attribute [local go_sem] Oper.semAt_some

/-- What an operation leaves: a number, or a value. -/
def RelP (S : Nat → Nat ⊕ Value) (i : Nat) (v : Value) (U : World) : Prop :=
  match S i with
  | .inl n => IsB U v n
  | .inr u => v = u
theorem RelP.kept {S : Nat → Nat ⊕ Value} {i : Nat} {v : Value} {U V : World} (h : RelP S i v U) (hf : Fr0 U V) : RelP S i v V := by
  unfold RelP at *
  split
  · rename_i n e; rw [e] at h; exact h.kept hf
  · rename_i n e; rw [e] at h; exact h
/-- The properties of what is left, by a list. -/
def relS (l : List (Nat × (Nat ⊕ Value))) : Nat → Nat ⊕ Value := fun i => match l.find? (fun q => q.1 == i) with
  | some q => q.2
  | none => .inl 0
section
variable {P : Program} {ops : Array Oper} {Q : Exit → Act → World → Prop}
theorem rel_step {i : Nat} {o : Oper} {a a0 : Act} {d : Option Tmp} {U : World} {S : Nat → Nat ⊕ Value} (ho : ops[i]? = some o)
    (h : ∀ K' : Act → World → Prop, Shut (∀ v V, RelP S i v V → Fr0 U V → K' (a0.put d v) V) →
      if Region.wanted o (yielded ops a.tmps) = true then Oper.wp P o a U K' Q else K' (a.put o.dst undef) U) :
    wpOp P ops Q i (fun a' V => ∃ v, a' = a0.put d v ∧ RelP S i v V ∧ Fr0 U V) a U :=
  wpOp_step ho (fun K' hK => h K' (fun v V h1 h2 => hK _ _ ⟨v, rfl, h1, h2⟩))
end
theorem RtOk_iff (n d : Int) : RtOk n d ↔ (1 ≤ d ∧ n ≠ -9223372036854775808 ∧ Nat.gcd n.natAbs d.natAbs = 1) := Iff.rfl
theorem bd_one : bd 1 = [1] := by rw [bd_pos (by omega)]; simp [bd_zero]
end Go.Proofs.Ytdakeenjeieekaa
