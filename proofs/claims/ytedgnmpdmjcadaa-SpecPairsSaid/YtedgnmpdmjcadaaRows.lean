/-
  No cell of these rows narrows 'for every input' (looked for: loops, veiled, ifaces, maps, wideKeys, modest, calm, conditions, laid).
  DERIVED. THE GIVEN ROWS OF THIS SEAT. 7 by the template 'for every input the law returns true; each argument reads behind the call as it read before'; 0 by the template 'total and deterministic' (their statements: YtedgnmpdmjcadaaTotals.lean).
  GIVEN WITH THE SEED: the statements are not yours to turn. If you find one false, say at which input.
  Laid BY PROGRAM, IN A SANDBOX (cutbox-rows.mjs): the forced cells as the released guide's own fill.sh prints them over the translation d67236c48b9a399c… (all of the seat's roots in one cut). By AI agents, Wed Nov 11 2026. No macro, syntax, notation, axiom, sorry.
-/
import Derived.Test.YtedgnmpdmjcadaaChecked
import GoSem.Claim
import GoSem.ClaimJoined
import GoSem.ClaimMapViews
import Derived.JoinedTies
import Derived.KernelRfl
namespace Go.Proofs.Ytedgnmpdmjcadaa
/- THE CELL 'sum', in the pinned program and in every row, IS THE sha256 OF THE DUMP (.gsa) THAT YtedgnmpdmjcadaaProg.lean LOADS. Nothing in Lean hashes anything: it is a label: what it is worth is what the hold of that sum in a sandbox is worth. -/
noncomputable def Try.pinned : Pinned := { name := "ytedgnmpdmjcadaa", sum := "d67236c48b9a399ce097afd1b9ee360d2669545c6b66bc28d1a93ad3f36bb010", checked := Try.checked }
namespace Rows
def none {H : Type} : Left H := { results := [], args := [] }

/-- 'postroadlaw02.SpecKeeps': WHATEVER THE INPUT: true; the input reads as it did. -/
def specKeepsSpec : ChangeSpec := { name := "specKeeps", fn := fun _ => fun
  | [d1, d2] => { results := [.lit (.bool true)], args := [d1, d2] }
  | _ => none }
def specKeepsRow : OpenClaim := { program := "ytedgnmpdmjcadaa", sum := "d67236c48b9a399ce097afd1b9ee360d2669545c6b66bc28d1a93ad3f36bb010", func := "postroad/postroadlaw02.SpecKeeps", spec := "specKeeps", unfollowed := true, recurses := true, apart := false }
def SpecKeepsSaid : Prop := specKeepsRow.holds Try.pinned (OpenSpec.ofChange specKeepsSpec)

/-- ITS FALSE NEIGHBOUR: 'it returns false'. Refute it at one input. -/
def specKeepsWrong : ChangeSpec := { name := "specKeeps", fn := fun _ => fun
  | [d1, d2] => { results := [.lit (.bool false)], args := [d1, d2] }
  | _ => none }
def SpecKeepsWrongFalsely : Prop := specKeepsRow.holds Try.pinned (OpenSpec.ofChange specKeepsWrong)

/-- 'postroadlaw02.SpecAllows': WHATEVER THE INPUT: true; the input reads as it did. -/
def specAllowsSpec : ChangeSpec := { name := "specAllows", fn := fun _ => fun
  | [d1, d2, d3] => { results := [.lit (.bool true)], args := [d1, d2, d3] }
  | _ => none }
def specAllowsRow : OpenClaim := { program := "ytedgnmpdmjcadaa", sum := "d67236c48b9a399ce097afd1b9ee360d2669545c6b66bc28d1a93ad3f36bb010", func := "postroad/postroadlaw02.SpecAllows", spec := "specAllows", unfollowed := true, recurses := true, apart := false }
def SpecAllowsSaid : Prop := specAllowsRow.holds Try.pinned (OpenSpec.ofChange specAllowsSpec)

/-- ITS FALSE NEIGHBOUR: 'it returns false'. Refute it at one input. -/
def specAllowsWrong : ChangeSpec := { name := "specAllows", fn := fun _ => fun
  | [d1, d2, d3] => { results := [.lit (.bool false)], args := [d1, d2, d3] }
  | _ => none }
def SpecAllowsWrongFalsely : Prop := specAllowsRow.holds Try.pinned (OpenSpec.ofChange specAllowsWrong)

/-- 'postroadlaw02.SpecGreedy': WHATEVER THE INPUT: true; the input reads as it did. -/
def specGreedySpec : ChangeSpec := { name := "specGreedy", fn := fun _ => fun
  | [d1, d2] => { results := [.lit (.bool true)], args := [d1, d2] }
  | _ => none }
def specGreedyRow : OpenClaim := { program := "ytedgnmpdmjcadaa", sum := "d67236c48b9a399ce097afd1b9ee360d2669545c6b66bc28d1a93ad3f36bb010", func := "postroad/postroadlaw02.SpecGreedy", spec := "specGreedy", unfollowed := true, recurses := true, apart := false }
def SpecGreedySaid : Prop := specGreedyRow.holds Try.pinned (OpenSpec.ofChange specGreedySpec)

/-- ITS FALSE NEIGHBOUR: 'it returns false'. Refute it at one input. -/
def specGreedyWrong : ChangeSpec := { name := "specGreedy", fn := fun _ => fun
  | [d1, d2] => { results := [.lit (.bool false)], args := [d1, d2] }
  | _ => none }
def SpecGreedyWrongFalsely : Prop := specGreedyRow.holds Try.pinned (OpenSpec.ofChange specGreedyWrong)

/-- 'postroadlaw02.SpecSums': WHATEVER THE INPUT: true; the input reads as it did. -/
def specSumsSpec : ChangeSpec := { name := "specSums", fn := fun _ => fun
  | [d1, d2, d3] => { results := [.lit (.bool true)], args := [d1, d2, d3] }
  | _ => none }
def specSumsRow : OpenClaim := { program := "ytedgnmpdmjcadaa", sum := "d67236c48b9a399ce097afd1b9ee360d2669545c6b66bc28d1a93ad3f36bb010", func := "postroad/postroadlaw02.SpecSums", spec := "specSums", unfollowed := true, recurses := true, apart := false }
def SpecSumsSaid : Prop := specSumsRow.holds Try.pinned (OpenSpec.ofChange specSumsSpec)

/-- ITS FALSE NEIGHBOUR: 'it returns false'. Refute it at one input. -/
def specSumsWrong : ChangeSpec := { name := "specSums", fn := fun _ => fun
  | [d1, d2, d3] => { results := [.lit (.bool false)], args := [d1, d2, d3] }
  | _ => none }
def SpecSumsWrongFalsely : Prop := specSumsRow.holds Try.pinned (OpenSpec.ofChange specSumsWrong)

/-- 'postroadlaw02.SpecJoint': WHATEVER THE INPUT: true; the input reads as it did. -/
def specJointSpec : ChangeSpec := { name := "specJoint", fn := fun _ => fun
  | [d1, d2, d3] => { results := [.lit (.bool true)], args := [d1, d2, d3] }
  | _ => none }
def specJointRow : OpenClaim := { program := "ytedgnmpdmjcadaa", sum := "d67236c48b9a399ce097afd1b9ee360d2669545c6b66bc28d1a93ad3f36bb010", func := "postroad/postroadlaw02.SpecJoint", spec := "specJoint", unfollowed := true, recurses := true, apart := false }
def SpecJointSaid : Prop := specJointRow.holds Try.pinned (OpenSpec.ofChange specJointSpec)

/-- ITS FALSE NEIGHBOUR: 'it returns false'. Refute it at one input. -/
def specJointWrong : ChangeSpec := { name := "specJoint", fn := fun _ => fun
  | [d1, d2, d3] => { results := [.lit (.bool false)], args := [d1, d2, d3] }
  | _ => none }
def SpecJointWrongFalsely : Prop := specJointRow.holds Try.pinned (OpenSpec.ofChange specJointWrong)

/-- 'postroadlaw02.SpecFollows': WHATEVER THE INPUT: true; the input reads as it did. -/
def specFollowsSpec : ChangeSpec := { name := "specFollows", fn := fun _ => fun
  | [d1, d2, d3] => { results := [.lit (.bool true)], args := [d1, d2, d3] }
  | _ => none }
def specFollowsRow : OpenClaim := { program := "ytedgnmpdmjcadaa", sum := "d67236c48b9a399ce097afd1b9ee360d2669545c6b66bc28d1a93ad3f36bb010", func := "postroad/postroadlaw02.SpecFollows", spec := "specFollows", unfollowed := true, recurses := true, apart := false }
def SpecFollowsSaid : Prop := specFollowsRow.holds Try.pinned (OpenSpec.ofChange specFollowsSpec)

/-- ITS FALSE NEIGHBOUR: 'it returns false'. Refute it at one input. -/
def specFollowsWrong : ChangeSpec := { name := "specFollows", fn := fun _ => fun
  | [d1, d2, d3] => { results := [.lit (.bool false)], args := [d1, d2, d3] }
  | _ => none }
def SpecFollowsWrongFalsely : Prop := specFollowsRow.holds Try.pinned (OpenSpec.ofChange specFollowsWrong)

/-- 'postroadlaw02.SpecPairs': WHATEVER THE INPUT: true; the input reads as it did. -/
def specPairsSpec : ChangeSpec := { name := "specPairs", fn := fun _ => fun
  | [d1, d2, d3] => { results := [.lit (.bool true)], args := [d1, d2, d3] }
  | _ => none }
def specPairsRow : OpenClaim := { program := "ytedgnmpdmjcadaa", sum := "d67236c48b9a399ce097afd1b9ee360d2669545c6b66bc28d1a93ad3f36bb010", func := "postroad/postroadlaw02.SpecPairs", spec := "specPairs", unfollowed := true, recurses := true, apart := false }
def SpecPairsSaid : Prop := specPairsRow.holds Try.pinned (OpenSpec.ofChange specPairsSpec)

/-- ITS FALSE NEIGHBOUR: 'it returns false'. Refute it at one input. -/
def specPairsWrong : ChangeSpec := { name := "specPairs", fn := fun _ => fun
  | [d1, d2, d3] => { results := [.lit (.bool false)], args := [d1, d2, d3] }
  | _ => none }
def SpecPairsWrongFalsely : Prop := specPairsRow.holds Try.pinned (OpenSpec.ofChange specPairsWrong)

/- THE SECOND FORM. 'bulk': how many values and letters a reading holds, each counted each time it is reached (what is shared counts as often as it is met; a slice's spare places count too). A statement '..UptoSaid' is the law's where the arguments, and the package variables that the reading takes, are together of bulk at most 1048576: NARROWER than '..Said'. Prove '..Said' where nothing that the law and all that it calls make is longer than what came in: it says more and counts as full. Else prove '..UptoSaid'. A law counts once. -/
mutual
def uptoBulk {H : Type} : DataW H → Nat
  | .lit (.string bytes) => bytes.length + 1
  | .lit _ => 1
  | .nil => 1
  | .ptr d => uptoBulk d + 1
  | .slice elems spare => uptoBulkAll elems + uptoBulkAll spare + 1
  | .agg parts => uptoBulkAll parts + 1
  | .iface _ d => uptoBulk d + 1
  | .map entries => uptoBulkEntries entries + 1
  | .held _ => 1
def uptoBulkAll {H : Type} : List (DataW H) → Nat
  | [] => 0
  | d :: r => uptoBulk d + uptoBulkAll r
def uptoBulkEntries {H : Type} : List (Lit × DataW H) → Nat
  | [] => 0
  | x :: r => uptoBulkEntry x + uptoBulkEntries r
def uptoBulkEntry {H : Type} : Lit × DataW H → Nat
  | (.string bytes, d) => bytes.length + uptoBulk d + 1
  | (_, d) => uptoBulk d + 1
 end
def uptoSmall : (H : Type) → List (DataW H) → Bool := fun _ ds => decide (uptoBulkAll ds ≤ 1048576)
def OpenSpec.upto (s : _root_.Go.ChangeSpec) : _root_.Go.OpenSpec := { _root_.Go.OpenSpec.ofChange s with cond := some uptoSmall }

/-- 'postroadlaw02.SpecKeeps', WHERE WHAT IT READS IS OF BULK AT MOST 1048576: true; the input reads as it did. -/
def specKeepsUptoRow : OpenClaim := { program := "ytedgnmpdmjcadaa", sum := "d67236c48b9a399ce097afd1b9ee360d2669545c6b66bc28d1a93ad3f36bb010", func := "postroad/postroadlaw02.SpecKeeps", spec := "specKeeps", unfollowed := true, recurses := true, apart := false, narrowed := true }
def SpecKeepsUptoSaid : Prop := specKeepsUptoRow.holds Try.pinned (OpenSpec.upto specKeepsSpec)

/-- 'postroadlaw02.SpecAllows', WHERE WHAT IT READS IS OF BULK AT MOST 1048576: true; the input reads as it did. -/
def specAllowsUptoRow : OpenClaim := { program := "ytedgnmpdmjcadaa", sum := "d67236c48b9a399ce097afd1b9ee360d2669545c6b66bc28d1a93ad3f36bb010", func := "postroad/postroadlaw02.SpecAllows", spec := "specAllows", unfollowed := true, recurses := true, apart := false, narrowed := true }
def SpecAllowsUptoSaid : Prop := specAllowsUptoRow.holds Try.pinned (OpenSpec.upto specAllowsSpec)

/-- 'postroadlaw02.SpecGreedy', WHERE WHAT IT READS IS OF BULK AT MOST 1048576: true; the input reads as it did. -/
def specGreedyUptoRow : OpenClaim := { program := "ytedgnmpdmjcadaa", sum := "d67236c48b9a399ce097afd1b9ee360d2669545c6b66bc28d1a93ad3f36bb010", func := "postroad/postroadlaw02.SpecGreedy", spec := "specGreedy", unfollowed := true, recurses := true, apart := false, narrowed := true }
def SpecGreedyUptoSaid : Prop := specGreedyUptoRow.holds Try.pinned (OpenSpec.upto specGreedySpec)

/-- 'postroadlaw02.SpecSums', WHERE WHAT IT READS IS OF BULK AT MOST 1048576: true; the input reads as it did. -/
def specSumsUptoRow : OpenClaim := { program := "ytedgnmpdmjcadaa", sum := "d67236c48b9a399ce097afd1b9ee360d2669545c6b66bc28d1a93ad3f36bb010", func := "postroad/postroadlaw02.SpecSums", spec := "specSums", unfollowed := true, recurses := true, apart := false, narrowed := true }
def SpecSumsUptoSaid : Prop := specSumsUptoRow.holds Try.pinned (OpenSpec.upto specSumsSpec)

/-- 'postroadlaw02.SpecJoint', WHERE WHAT IT READS IS OF BULK AT MOST 1048576: true; the input reads as it did. -/
def specJointUptoRow : OpenClaim := { program := "ytedgnmpdmjcadaa", sum := "d67236c48b9a399ce097afd1b9ee360d2669545c6b66bc28d1a93ad3f36bb010", func := "postroad/postroadlaw02.SpecJoint", spec := "specJoint", unfollowed := true, recurses := true, apart := false, narrowed := true }
def SpecJointUptoSaid : Prop := specJointUptoRow.holds Try.pinned (OpenSpec.upto specJointSpec)

/-- 'postroadlaw02.SpecFollows', WHERE WHAT IT READS IS OF BULK AT MOST 1048576: true; the input reads as it did. -/
def specFollowsUptoRow : OpenClaim := { program := "ytedgnmpdmjcadaa", sum := "d67236c48b9a399ce097afd1b9ee360d2669545c6b66bc28d1a93ad3f36bb010", func := "postroad/postroadlaw02.SpecFollows", spec := "specFollows", unfollowed := true, recurses := true, apart := false, narrowed := true }
def SpecFollowsUptoSaid : Prop := specFollowsUptoRow.holds Try.pinned (OpenSpec.upto specFollowsSpec)

/-- 'postroadlaw02.SpecPairs', WHERE WHAT IT READS IS OF BULK AT MOST 1048576: true; the input reads as it did. -/
def specPairsUptoRow : OpenClaim := { program := "ytedgnmpdmjcadaa", sum := "d67236c48b9a399ce097afd1b9ee360d2669545c6b66bc28d1a93ad3f36bb010", func := "postroad/postroadlaw02.SpecPairs", spec := "specPairs", unfollowed := true, recurses := true, apart := false, narrowed := true }
def SpecPairsUptoSaid : Prop := specPairsUptoRow.holds Try.pinned (OpenSpec.upto specPairsSpec)

end Rows
end Go.Proofs.Ytedgnmpdmjcadaa
