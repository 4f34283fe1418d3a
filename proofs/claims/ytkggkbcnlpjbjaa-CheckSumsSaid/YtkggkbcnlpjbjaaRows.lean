/-
  No cell of these rows narrows 'for every input' (looked for: loops, veiled, ifaces, maps, wideKeys, modest, calm, conditions, laid).
  DERIVED. THE GIVEN ROWS OF THIS SEAT. 7 by the template 'for every input the law returns true; each argument reads behind the call as it read before'; 0 by the template 'total and deterministic' (their statements: YtkggkbcnlpjbjaaTotals.lean).
  GIVEN WITH THE SEED: the statements are not yours to turn. If you find one false, say at which input.
  Laid BY PROGRAM, IN A SANDBOX (cutbox-rows.mjs): the forced cells as the released guide's own fill.sh prints them over the translation e09caf620197a182… (all of the seat's roots in one cut). By AI agents, Wed Nov 11 2026. No macro, syntax, notation, axiom, sorry.
-/
import Derived.Test.YtkggkbcnlpjbjaaChecked
import GoSem.Claim
import GoSem.ClaimJoined
import GoSem.ClaimMapViews
import Derived.JoinedTies
import Derived.KernelRfl
namespace Go.Proofs.Ytkggkbcnlpjbjaa
/- THE CELL 'sum', in the pinned program and in every row, IS THE sha256 OF THE DUMP (.gsa) THAT YtkggkbcnlpjbjaaProg.lean LOADS. Nothing in Lean hashes anything: it is a label: what it is worth is what the hold of that sum in a sandbox is worth. -/
noncomputable def Try.pinned : Pinned := { name := "ytkggkbcnlpjbjaa", sum := "e09caf620197a182d064802b67fce8f3b392cba9c39916b0e307d1ab25199726", checked := Try.checked }
namespace Rows
def none {H : Type} : Left H := { results := [], args := [] }

/-- 'postroadlaw06.CheckSeals': WHATEVER THE INPUT: true; the input reads as it did. -/
def checkSealsSpec : ChangeSpec := { name := "checkSeals", fn := fun _ => fun
  | [d1, d2] => { results := [.lit (.bool true)], args := [d1, d2] }
  | _ => none }
def checkSealsRow : OpenClaim := { program := "ytkggkbcnlpjbjaa", sum := "e09caf620197a182d064802b67fce8f3b392cba9c39916b0e307d1ab25199726", func := "postroad/postroadlaw06.CheckSeals", spec := "checkSeals", unfollowed := true, recurses := true, apart := false }
def CheckSealsSaid : Prop := checkSealsRow.holds Try.pinned (OpenSpec.ofChange checkSealsSpec)

/-- ITS FALSE NEIGHBOUR: 'it returns false'. Refute it at one input. -/
def checkSealsWrong : ChangeSpec := { name := "checkSeals", fn := fun _ => fun
  | [d1, d2] => { results := [.lit (.bool false)], args := [d1, d2] }
  | _ => none }
def CheckSealsWrongFalsely : Prop := checkSealsRow.holds Try.pinned (OpenSpec.ofChange checkSealsWrong)

/-- 'postroadlaw06.CheckFlips': WHATEVER THE INPUT: true; the input reads as it did. -/
def checkFlipsSpec : ChangeSpec := { name := "checkFlips", fn := fun _ => fun
  | [d1, d2, d3] => { results := [.lit (.bool true)], args := [d1, d2, d3] }
  | _ => none }
def checkFlipsRow : OpenClaim := { program := "ytkggkbcnlpjbjaa", sum := "e09caf620197a182d064802b67fce8f3b392cba9c39916b0e307d1ab25199726", func := "postroad/postroadlaw06.CheckFlips", spec := "checkFlips", unfollowed := true, recurses := true, apart := false }
def CheckFlipsSaid : Prop := checkFlipsRow.holds Try.pinned (OpenSpec.ofChange checkFlipsSpec)

/-- ITS FALSE NEIGHBOUR: 'it returns false'. Refute it at one input. -/
def checkFlipsWrong : ChangeSpec := { name := "checkFlips", fn := fun _ => fun
  | [d1, d2, d3] => { results := [.lit (.bool false)], args := [d1, d2, d3] }
  | _ => none }
def CheckFlipsWrongFalsely : Prop := checkFlipsRow.holds Try.pinned (OpenSpec.ofChange checkFlipsWrong)

/-- 'postroadlaw06.CheckTurned': WHATEVER THE INPUT: true; the input reads as it did. -/
def checkTurnedSpec : ChangeSpec := { name := "checkTurned", fn := fun _ => fun
  | [d] => { results := [.lit (.bool true)], args := [d] }
  | _ => none }
def checkTurnedRow : OpenClaim := { program := "ytkggkbcnlpjbjaa", sum := "e09caf620197a182d064802b67fce8f3b392cba9c39916b0e307d1ab25199726", func := "postroad/postroadlaw06.CheckTurned", spec := "checkTurned", unfollowed := true, recurses := true, apart := false }
def CheckTurnedSaid : Prop := checkTurnedRow.holds Try.pinned (OpenSpec.ofChange checkTurnedSpec)

/-- ITS FALSE NEIGHBOUR: 'it returns false'. Refute it at one input. -/
def checkTurnedWrong : ChangeSpec := { name := "checkTurned", fn := fun _ => fun
  | [d] => { results := [.lit (.bool false)], args := [d] }
  | _ => none }
def CheckTurnedWrongFalsely : Prop := checkTurnedRow.holds Try.pinned (OpenSpec.ofChange checkTurnedWrong)

/-- 'postroadlaw06.CheckNoughts': WHATEVER THE INPUT: true; the input reads as it did. -/
def checkNoughtsSpec : ChangeSpec := { name := "checkNoughts", fn := fun _ => fun
  | [d1, d2, d3] => { results := [.lit (.bool true)], args := [d1, d2, d3] }
  | _ => none }
def checkNoughtsRow : OpenClaim := { program := "ytkggkbcnlpjbjaa", sum := "e09caf620197a182d064802b67fce8f3b392cba9c39916b0e307d1ab25199726", func := "postroad/postroadlaw06.CheckNoughts", spec := "checkNoughts", unfollowed := true, recurses := true, apart := false }
def CheckNoughtsSaid : Prop := checkNoughtsRow.holds Try.pinned (OpenSpec.ofChange checkNoughtsSpec)

/-- ITS FALSE NEIGHBOUR: 'it returns false'. Refute it at one input. -/
def checkNoughtsWrong : ChangeSpec := { name := "checkNoughts", fn := fun _ => fun
  | [d1, d2, d3] => { results := [.lit (.bool false)], args := [d1, d2, d3] }
  | _ => none }
def CheckNoughtsWrongFalsely : Prop := checkNoughtsRow.holds Try.pinned (OpenSpec.ofChange checkNoughtsWrong)

/-- 'postroadlaw06.CheckPatches': WHATEVER THE INPUT: true; the input reads as it did. -/
def checkPatchesSpec : ChangeSpec := { name := "checkPatches", fn := fun _ => fun
  | [d1, d2, d3] => { results := [.lit (.bool true)], args := [d1, d2, d3] }
  | _ => none }
def checkPatchesRow : OpenClaim := { program := "ytkggkbcnlpjbjaa", sum := "e09caf620197a182d064802b67fce8f3b392cba9c39916b0e307d1ab25199726", func := "postroad/postroadlaw06.CheckPatches", spec := "checkPatches", unfollowed := true, recurses := true, apart := false }
def CheckPatchesSaid : Prop := checkPatchesRow.holds Try.pinned (OpenSpec.ofChange checkPatchesSpec)

/-- ITS FALSE NEIGHBOUR: 'it returns false'. Refute it at one input. -/
def checkPatchesWrong : ChangeSpec := { name := "checkPatches", fn := fun _ => fun
  | [d1, d2, d3] => { results := [.lit (.bool false)], args := [d1, d2, d3] }
  | _ => none }
def CheckPatchesWrongFalsely : Prop := checkPatchesRow.holds Try.pinned (OpenSpec.ofChange checkPatchesWrong)

/-- 'postroadlaw06.CheckSums': WHATEVER THE INPUT: true; the input reads as it did. -/
def checkSumsSpec : ChangeSpec := { name := "checkSums", fn := fun _ => fun
  | [d1, d2] => { results := [.lit (.bool true)], args := [d1, d2] }
  | _ => none }
def checkSumsRow : OpenClaim := { program := "ytkggkbcnlpjbjaa", sum := "e09caf620197a182d064802b67fce8f3b392cba9c39916b0e307d1ab25199726", func := "postroad/postroadlaw06.CheckSums", spec := "checkSums", unfollowed := true, recurses := true, apart := false }
def CheckSumsSaid : Prop := checkSumsRow.holds Try.pinned (OpenSpec.ofChange checkSumsSpec)

/-- ITS FALSE NEIGHBOUR: 'it returns false'. Refute it at one input. -/
def checkSumsWrong : ChangeSpec := { name := "checkSums", fn := fun _ => fun
  | [d1, d2] => { results := [.lit (.bool false)], args := [d1, d2] }
  | _ => none }
def CheckSumsWrongFalsely : Prop := checkSumsRow.holds Try.pinned (OpenSpec.ofChange checkSumsWrong)

/-- 'postroadlaw06.CheckNil': WHATEVER THE INPUT: true; the input reads as it did. -/
def checkNilSpec : ChangeSpec := { name := "checkNil", fn := fun _ => fun
  | [d] => { results := [.lit (.bool true)], args := [d] }
  | _ => none }
def checkNilRow : OpenClaim := { program := "ytkggkbcnlpjbjaa", sum := "e09caf620197a182d064802b67fce8f3b392cba9c39916b0e307d1ab25199726", func := "postroad/postroadlaw06.CheckNil", spec := "checkNil", unfollowed := true, recurses := true, apart := false }
def CheckNilSaid : Prop := checkNilRow.holds Try.pinned (OpenSpec.ofChange checkNilSpec)

/-- ITS FALSE NEIGHBOUR: 'it returns false'. Refute it at one input. -/
def checkNilWrong : ChangeSpec := { name := "checkNil", fn := fun _ => fun
  | [d] => { results := [.lit (.bool false)], args := [d] }
  | _ => none }
def CheckNilWrongFalsely : Prop := checkNilRow.holds Try.pinned (OpenSpec.ofChange checkNilWrong)

/- THE SECOND FORM. 'bulk': how many values and letters a reading holds, each counted each time it is reached (what is shared counts as often as it is met; a slice's spare places count too). A statement '..UptoSaid' is the law's where the arguments, and the package variables that the reading takes, are together of bulk at most 1048576: NARROWER than '..Said'. Prove '..Said' where nothing that the law and all that it calls make is longer than what came in: it says more and counts as full. Else prove '..UptoSaid'. A law counts once. -/
mutual
def uptoBulk {H : Type} : DataW H → Nat
  | .lit (.string bytes) => bytes.length + 1
  | .lit _ => 1
  | .nil => 1
  | .ptr d => uptoBulk d + 1
  | .slice elems spare => uptoBulkAll elems + uptoBulkAll spare + 1
  | .agg parts => uptoBulkAll parts + 1
  | .iface _ d => uptoBulk d + 1
  | .map entries => uptoBulkEntries entries + 1
  | .held _ => 1
def uptoBulkAll {H : Type} : List (DataW H) → Nat
  | [] => 0
  | d :: r => uptoBulk d + uptoBulkAll r
def uptoBulkEntries {H : Type} : List (Lit × DataW H) → Nat
  | [] => 0
  | x :: r => uptoBulkEntry x + uptoBulkEntries r
def uptoBulkEntry {H : Type} : Lit × DataW H → Nat
  | (.string bytes, d) => bytes.length + uptoBulk d + 1
  | (_, d) => uptoBulk d + 1
 end
def uptoSmall : (H : Type) → List (DataW H) → Bool := fun _ ds => decide (uptoBulkAll ds ≤ 1048576)
def OpenSpec.upto (s : _root_.Go.ChangeSpec) : _root_.Go.OpenSpec := { _root_.Go.OpenSpec.ofChange s with cond := some uptoSmall }

/-- 'postroadlaw06.CheckSeals', WHERE WHAT IT READS IS OF BULK AT MOST 1048576: true; the input reads as it did. -/
def checkSealsUptoRow : OpenClaim := { program := "ytkggkbcnlpjbjaa", sum := "e09caf620197a182d064802b67fce8f3b392cba9c39916b0e307d1ab25199726", func := "postroad/postroadlaw06.CheckSeals", spec := "checkSeals", unfollowed := true, recurses := true, apart := false, narrowed := true }
def CheckSealsUptoSaid : Prop := checkSealsUptoRow.holds Try.pinned (OpenSpec.upto checkSealsSpec)

/-- 'postroadlaw06.CheckFlips', WHERE WHAT IT READS IS OF BULK AT MOST 1048576: true; the input reads as it did. -/
def checkFlipsUptoRow : OpenClaim := { program := "ytkggkbcnlpjbjaa", sum := "e09caf620197a182d064802b67fce8f3b392cba9c39916b0e307d1ab25199726", func := "postroad/postroadlaw06.CheckFlips", spec := "checkFlips", unfollowed := true, recurses := true, apart := false, narrowed := true }
def CheckFlipsUptoSaid : Prop := checkFlipsUptoRow.holds Try.pinned (OpenSpec.upto checkFlipsSpec)

/-- 'postroadlaw06.CheckTurned', WHERE WHAT IT READS IS OF BULK AT MOST 1048576: true; the input reads as it did. -/
def checkTurnedUptoRow : OpenClaim := { program := "ytkggkbcnlpjbjaa", sum := "e09caf620197a182d064802b67fce8f3b392cba9c39916b0e307d1ab25199726", func := "postroad/postroadlaw06.CheckTurned", spec := "checkTurned", unfollowed := true, recurses := true, apart := false, narrowed := true }
def CheckTurnedUptoSaid : Prop := checkTurnedUptoRow.holds Try.pinned (OpenSpec.upto checkTurnedSpec)

/-- 'postroadlaw06.CheckNoughts', WHERE WHAT IT READS IS OF BULK AT MOST 1048576: true; the input reads as it did. -/
def checkNoughtsUptoRow : OpenClaim := { program := "ytkggkbcnlpjbjaa", sum := "e09caf620197a182d064802b67fce8f3b392cba9c39916b0e307d1ab25199726", func := "postroad/postroadlaw06.CheckNoughts", spec := "checkNoughts", unfollowed := true, recurses := true, apart := false, narrowed := true }
def CheckNoughtsUptoSaid : Prop := checkNoughtsUptoRow.holds Try.pinned (OpenSpec.upto checkNoughtsSpec)

/-- 'postroadlaw06.CheckPatches', WHERE WHAT IT READS IS OF BULK AT MOST 1048576: true; the input reads as it did. -/
def checkPatchesUptoRow : OpenClaim := { program := "ytkggkbcnlpjbjaa", sum := "e09caf620197a182d064802b67fce8f3b392cba9c39916b0e307d1ab25199726", func := "postroad/postroadlaw06.CheckPatches", spec := "checkPatches", unfollowed := true, recurses := true, apart := false, narrowed := true }
def CheckPatchesUptoSaid : Prop := checkPatchesUptoRow.holds Try.pinned (OpenSpec.upto checkPatchesSpec)

/-- 'postroadlaw06.CheckSums', WHERE WHAT IT READS IS OF BULK AT MOST 1048576: true; the input reads as it did. -/
def checkSumsUptoRow : OpenClaim := { program := "ytkggkbcnlpjbjaa", sum := "e09caf620197a182d064802b67fce8f3b392cba9c39916b0e307d1ab25199726", func := "postroad/postroadlaw06.CheckSums", spec := "checkSums", unfollowed := true, recurses := true, apart := false, narrowed := true }
def CheckSumsUptoSaid : Prop := checkSumsUptoRow.holds Try.pinned (OpenSpec.upto checkSumsSpec)

/-- 'postroadlaw06.CheckNil', WHERE WHAT IT READS IS OF BULK AT MOST 1048576: true; the input reads as it did. -/
def checkNilUptoRow : OpenClaim := { program := "ytkggkbcnlpjbjaa", sum := "e09caf620197a182d064802b67fce8f3b392cba9c39916b0e307d1ab25199726", func := "postroad/postroadlaw06.CheckNil", spec := "checkNil", unfollowed := true, recurses := true, apart := false, narrowed := true }
def CheckNilUptoSaid : Prop := checkNilUptoRow.holds Try.pinned (OpenSpec.upto checkNilSpec)

end Rows
end Go.Proofs.Ytkggkbcnlpjbjaa
