/-
  No cell of these rows narrows 'for every input' (looked for: loops, veiled, ifaces, maps, wideKeys, modest, calm, conditions, laid).
  DERIVED. THE GIVEN ROWS OF THIS SEAT. 6 by the template 'for every input the law returns true; each argument reads behind the call as it read before'; 0 by the template 'total and deterministic' (their statements: YtmnadploikcljaaTotals.lean).
  GIVEN WITH THE SEED: the statements are not yours to turn. If you find one false, say at which input.
  Laid BY PROGRAM, IN A SANDBOX (cutbox-rows.mjs): the forced cells as the released guide's own fill.sh prints them over the translation 643443b4f8989ecc… (all of the seat's roots in one cut). By AI agents, Wed Nov 11 2026. No macro, syntax, notation, axiom, sorry.
-/
import Derived.Test.YtmnadploikcljaaChecked
import GoSem.Claim
import GoSem.ClaimJoined
import GoSem.ClaimMapViews
import Derived.JoinedTies
import Derived.KernelRfl
namespace Go.Proofs.Ytmnadploikcljaa
/- THE CELL 'sum', in the pinned program and in every row, IS THE sha256 OF THE DUMP (.gsa) THAT YtmnadploikcljaaProg.lean LOADS. Nothing in Lean hashes anything: it is a label: what it is worth is what the hold of that sum in a sandbox is worth. -/
noncomputable def Try.pinned : Pinned := { name := "ytmnadploikcljaa", sum := "643443b4f8989ecceb5e8750b84bde07d63c83cd021c491eef20c145f8434963", checked := Try.checked }
namespace Rows
def none {H : Type} : Left H := { results := [], args := [] }

/-- 'postroadlaw13.ShaperKeeps': WHATEVER THE INPUT: true; the input reads as it did. -/
def shaperKeepsSpec : ChangeSpec := { name := "shaperKeeps", fn := fun _ => fun
  | [d1, d2] => { results := [.lit (.bool true)], args := [d1, d2] }
  | _ => none }
def shaperKeepsRow : OpenClaim := { program := "ytmnadploikcljaa", sum := "643443b4f8989ecceb5e8750b84bde07d63c83cd021c491eef20c145f8434963", func := "postroad/postroadlaw13.ShaperKeeps", spec := "shaperKeeps", unfollowed := true, recurses := true, apart := false }
def ShaperKeepsSaid : Prop := shaperKeepsRow.holds Try.pinned (OpenSpec.ofChange shaperKeepsSpec)

/-- ITS FALSE NEIGHBOUR: 'it returns false'. Refute it at one input. -/
def shaperKeepsWrong : ChangeSpec := { name := "shaperKeeps", fn := fun _ => fun
  | [d1, d2] => { results := [.lit (.bool false)], args := [d1, d2] }
  | _ => none }
def ShaperKeepsWrongFalsely : Prop := shaperKeepsRow.holds Try.pinned (OpenSpec.ofChange shaperKeepsWrong)

/-- 'postroadlaw13.ShaperEnds': WHATEVER THE INPUT: true; the input reads as it did. -/
def shaperEndsSpec : ChangeSpec := { name := "shaperEnds", fn := fun _ => fun
  | [d1, d2] => { results := [.lit (.bool true)], args := [d1, d2] }
  | _ => none }
def shaperEndsRow : OpenClaim := { program := "ytmnadploikcljaa", sum := "643443b4f8989ecceb5e8750b84bde07d63c83cd021c491eef20c145f8434963", func := "postroad/postroadlaw13.ShaperEnds", spec := "shaperEnds", unfollowed := true, recurses := true, apart := false }
def ShaperEndsSaid : Prop := shaperEndsRow.holds Try.pinned (OpenSpec.ofChange shaperEndsSpec)

/-- ITS FALSE NEIGHBOUR: 'it returns false'. Refute it at one input. -/
def shaperEndsWrong : ChangeSpec := { name := "shaperEnds", fn := fun _ => fun
  | [d1, d2] => { results := [.lit (.bool false)], args := [d1, d2] }
  | _ => none }
def ShaperEndsWrongFalsely : Prop := shaperEndsRow.holds Try.pinned (OpenSpec.ofChange shaperEndsWrong)

/-- 'postroadlaw13.ShaperNext': WHATEVER THE INPUT: true; the input reads as it did. -/
def shaperNextSpec : ChangeSpec := { name := "shaperNext", fn := fun _ => fun
  | [d1, d2, d3] => { results := [.lit (.bool true)], args := [d1, d2, d3] }
  | _ => none }
def shaperNextRow : OpenClaim := { program := "ytmnadploikcljaa", sum := "643443b4f8989ecceb5e8750b84bde07d63c83cd021c491eef20c145f8434963", func := "postroad/postroadlaw13.ShaperNext", spec := "shaperNext", unfollowed := true, recurses := true, apart := false }
def ShaperNextSaid : Prop := shaperNextRow.holds Try.pinned (OpenSpec.ofChange shaperNextSpec)

/-- ITS FALSE NEIGHBOUR: 'it returns false'. Refute it at one input. -/
def shaperNextWrong : ChangeSpec := { name := "shaperNext", fn := fun _ => fun
  | [d1, d2, d3] => { results := [.lit (.bool false)], args := [d1, d2, d3] }
  | _ => none }
def ShaperNextWrongFalsely : Prop := shaperNextRow.holds Try.pinned (OpenSpec.ofChange shaperNextWrong)

/-- 'postroadlaw13.ShaperPlay': WHATEVER THE INPUT: true; the input reads as it did. -/
def shaperPlaySpec : ChangeSpec := { name := "shaperPlay", fn := fun _ => fun
  | [d1, d2, d3] => { results := [.lit (.bool true)], args := [d1, d2, d3] }
  | _ => none }
def shaperPlayRow : OpenClaim := { program := "ytmnadploikcljaa", sum := "643443b4f8989ecceb5e8750b84bde07d63c83cd021c491eef20c145f8434963", func := "postroad/postroadlaw13.ShaperPlay", spec := "shaperPlay", unfollowed := true, recurses := true, apart := false }
def ShaperPlaySaid : Prop := shaperPlayRow.holds Try.pinned (OpenSpec.ofChange shaperPlaySpec)

/-- ITS FALSE NEIGHBOUR: 'it returns false'. Refute it at one input. -/
def shaperPlayWrong : ChangeSpec := { name := "shaperPlay", fn := fun _ => fun
  | [d1, d2, d3] => { results := [.lit (.bool false)], args := [d1, d2, d3] }
  | _ => none }
def ShaperPlayWrongFalsely : Prop := shaperPlayRow.holds Try.pinned (OpenSpec.ofChange shaperPlayWrong)

/-- 'postroadlaw13.ShaperCopies': WHATEVER THE INPUT: true; the input reads as it did. -/
def shaperCopiesSpec : ChangeSpec := { name := "shaperCopies", fn := fun _ => fun
  | [d1, d2, d3] => { results := [.lit (.bool true)], args := [d1, d2, d3] }
  | _ => none }
def shaperCopiesRow : OpenClaim := { program := "ytmnadploikcljaa", sum := "643443b4f8989ecceb5e8750b84bde07d63c83cd021c491eef20c145f8434963", func := "postroad/postroadlaw13.ShaperCopies", spec := "shaperCopies", unfollowed := true, recurses := true, apart := false }
def ShaperCopiesSaid : Prop := shaperCopiesRow.holds Try.pinned (OpenSpec.ofChange shaperCopiesSpec)

/-- ITS FALSE NEIGHBOUR: 'it returns false'. Refute it at one input. -/
def shaperCopiesWrong : ChangeSpec := { name := "shaperCopies", fn := fun _ => fun
  | [d1, d2, d3] => { results := [.lit (.bool false)], args := [d1, d2, d3] }
  | _ => none }
def ShaperCopiesWrongFalsely : Prop := shaperCopiesRow.holds Try.pinned (OpenSpec.ofChange shaperCopiesWrong)

/-- 'postroadlaw13.ShaperNil': WHATEVER THE INPUT: true; the input reads as it did. -/
def shaperNilSpec : ChangeSpec := { name := "shaperNil", fn := fun _ => fun
  | [d1, d2] => { results := [.lit (.bool true)], args := [d1, d2] }
  | _ => none }
def shaperNilRow : OpenClaim := { program := "ytmnadploikcljaa", sum := "643443b4f8989ecceb5e8750b84bde07d63c83cd021c491eef20c145f8434963", func := "postroad/postroadlaw13.ShaperNil", spec := "shaperNil", unfollowed := true, recurses := true, apart := false }
def ShaperNilSaid : Prop := shaperNilRow.holds Try.pinned (OpenSpec.ofChange shaperNilSpec)

/-- ITS FALSE NEIGHBOUR: 'it returns false'. Refute it at one input. -/
def shaperNilWrong : ChangeSpec := { name := "shaperNil", fn := fun _ => fun
  | [d1, d2] => { results := [.lit (.bool false)], args := [d1, d2] }
  | _ => none }
def ShaperNilWrongFalsely : Prop := shaperNilRow.holds Try.pinned (OpenSpec.ofChange shaperNilWrong)

/- THE SECOND FORM. 'bulk': how many values and letters a reading holds, each counted each time it is reached (what is shared counts as often as it is met; a slice's spare places count too). A statement '..UptoSaid' is the law's where the arguments, and the package variables that the reading takes, are together of bulk at most 1048576: NARROWER than '..Said'. Prove '..Said' where nothing that the law and all that it calls make is longer than what came in: it says more and counts as full. Else prove '..UptoSaid'. A law counts once. -/
mutual
def uptoBulk {H : Type} : DataW H → Nat
  | .lit (.string bytes) => bytes.length + 1
  | .lit _ => 1
  | .nil => 1
  | .ptr d => uptoBulk d + 1
  | .slice elems spare => uptoBulkAll elems + uptoBulkAll spare + 1
  | .agg parts => uptoBulkAll parts + 1
  | .iface _ d => uptoBulk d + 1
  | .map entries => uptoBulkEntries entries + 1
  | .held _ => 1
def uptoBulkAll {H : Type} : List (DataW H) → Nat
  | [] => 0
  | d :: r => uptoBulk d + uptoBulkAll r
def uptoBulkEntries {H : Type} : List (Lit × DataW H) → Nat
  | [] => 0
  | x :: r => uptoBulkEntry x + uptoBulkEntries r
def uptoBulkEntry {H : Type} : Lit × DataW H → Nat
  | (.string bytes, d) => bytes.length + uptoBulk d + 1
  | (_, d) => uptoBulk d + 1
 end
def uptoSmall : (H : Type) → List (DataW H) → Bool := fun _ ds => decide (uptoBulkAll ds ≤ 1048576)
def OpenSpec.upto (s : _root_.Go.ChangeSpec) : _root_.Go.OpenSpec := { _root_.Go.OpenSpec.ofChange s with cond := some uptoSmall }

/-- 'postroadlaw13.ShaperKeeps', WHERE WHAT IT READS IS OF BULK AT MOST 1048576: true; the input reads as it did. -/
def shaperKeepsUptoRow : OpenClaim := { program := "ytmnadploikcljaa", sum := "643443b4f8989ecceb5e8750b84bde07d63c83cd021c491eef20c145f8434963", func := "postroad/postroadlaw13.ShaperKeeps", spec := "shaperKeeps", unfollowed := true, recurses := true, apart := false, narrowed := true }
def ShaperKeepsUptoSaid : Prop := shaperKeepsUptoRow.holds Try.pinned (OpenSpec.upto shaperKeepsSpec)

/-- 'postroadlaw13.ShaperEnds', WHERE WHAT IT READS IS OF BULK AT MOST 1048576: true; the input reads as it did. -/
def shaperEndsUptoRow : OpenClaim := { program := "ytmnadploikcljaa", sum := "643443b4f8989ecceb5e8750b84bde07d63c83cd021c491eef20c145f8434963", func := "postroad/postroadlaw13.ShaperEnds", spec := "shaperEnds", unfollowed := true, recurses := true, apart := false, narrowed := true }
def ShaperEndsUptoSaid : Prop := shaperEndsUptoRow.holds Try.pinned (OpenSpec.upto shaperEndsSpec)

/-- 'postroadlaw13.ShaperNext', WHERE WHAT IT READS IS OF BULK AT MOST 1048576: true; the input reads as it did. -/
def shaperNextUptoRow : OpenClaim := { program := "ytmnadploikcljaa", sum := "643443b4f8989ecceb5e8750b84bde07d63c83cd021c491eef20c145f8434963", func := "postroad/postroadlaw13.ShaperNext", spec := "shaperNext", unfollowed := true, recurses := true, apart := false, narrowed := true }
def ShaperNextUptoSaid : Prop := shaperNextUptoRow.holds Try.pinned (OpenSpec.upto shaperNextSpec)

/-- 'postroadlaw13.ShaperPlay', WHERE WHAT IT READS IS OF BULK AT MOST 1048576: true; the input reads as it did. -/
def shaperPlayUptoRow : OpenClaim := { program := "ytmnadploikcljaa", sum := "643443b4f8989ecceb5e8750b84bde07d63c83cd021c491eef20c145f8434963", func := "postroad/postroadlaw13.ShaperPlay", spec := "shaperPlay", unfollowed := true, recurses := true, apart := false, narrowed := true }
def ShaperPlayUptoSaid : Prop := shaperPlayUptoRow.holds Try.pinned (OpenSpec.upto shaperPlaySpec)

/-- 'postroadlaw13.ShaperCopies', WHERE WHAT IT READS IS OF BULK AT MOST 1048576: true; the input reads as it did. -/
def shaperCopiesUptoRow : OpenClaim := { program := "ytmnadploikcljaa", sum := "643443b4f8989ecceb5e8750b84bde07d63c83cd021c491eef20c145f8434963", func := "postroad/postroadlaw13.ShaperCopies", spec := "shaperCopies", unfollowed := true, recurses := true, apart := false, narrowed := true }
def ShaperCopiesUptoSaid : Prop := shaperCopiesUptoRow.holds Try.pinned (OpenSpec.upto shaperCopiesSpec)

/-- 'postroadlaw13.ShaperNil', WHERE WHAT IT READS IS OF BULK AT MOST 1048576: true; the input reads as it did. -/
def shaperNilUptoRow : OpenClaim := { program := "ytmnadploikcljaa", sum := "643443b4f8989ecceb5e8750b84bde07d63c83cd021c491eef20c145f8434963", func := "postroad/postroadlaw13.ShaperNil", spec := "shaperNil", unfollowed := true, recurses := true, apart := false, narrowed := true }
def ShaperNilUptoSaid : Prop := shaperNilUptoRow.holds Try.pinned (OpenSpec.upto shaperNilSpec)

end Rows
end Go.Proofs.Ytmnadploikcljaa
