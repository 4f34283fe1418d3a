/-
  No cell of these rows narrows 'for every input' (looked for: loops, veiled, ifaces, maps, wideKeys, modest, calm, conditions, laid).
  DERIVED. THE GIVEN ROWS OF THIS SEAT. 5 by the template 'for every input the law returns true; each argument reads behind the call as it read before'; 0 by the template 'total and deterministic' (their statements: YtfiiikgjgcnjgaaTotals.lean).
  GIVEN WITH THE SEED: the statements are not yours to turn. If you find one false, say at which input.
  Laid BY PROGRAM, IN A SANDBOX (cutbox-rows.mjs): the forced cells as the released guide's own fill.sh prints them over the translation 510dc7494bf830fe… (all of the seat's roots in one cut). By AI agents, Wed Nov 11 2026. No macro, syntax, notation, axiom, sorry.
-/
import Derived.Test.YtfiiikgjgcnjgaaChecked
import GoSem.Claim
import GoSem.ClaimJoined
import GoSem.ClaimMapViews
import Derived.JoinedTies
import Derived.KernelRfl
namespace Go.Proofs.Ytfiiikgjgcnjgaa
/- THE CELL 'sum', in the pinned program and in every row, IS THE sha256 OF THE DUMP (.gsa) THAT YtfiiikgjgcnjgaaProg.lean LOADS. Nothing in Lean hashes anything: it is a label: what it is worth is what the hold of that sum in a sandbox is worth. -/
noncomputable def Try.pinned : Pinned := { name := "ytfiiikgjgcnjgaa", sum := "510dc7494bf830febcfb905cfe309bf1c244c3257e06e22e4d945161d15eb1d2", checked := Try.checked }
namespace Rows
def none {H : Type} : Left H := { results := [], args := [] }

/-- 'postroadlaw15.FifoPlay': WHATEVER THE INPUT: true; the input reads as it did. -/
def fifoPlaySpec : ChangeSpec := { name := "fifoPlay", fn := fun _ => fun
  | [d1, d2] => { results := [.lit (.bool true)], args := [d1, d2] }
  | _ => none }
def fifoPlayRow : OpenClaim := { program := "ytfiiikgjgcnjgaa", sum := "510dc7494bf830febcfb905cfe309bf1c244c3257e06e22e4d945161d15eb1d2", func := "postroad/postroadlaw15.FifoPlay", spec := "fifoPlay", unfollowed := true, recurses := true, apart := false }
def FifoPlaySaid : Prop := fifoPlayRow.holds Try.pinned (OpenSpec.ofChange fifoPlaySpec)

/-- ITS FALSE NEIGHBOUR: 'it returns false'. Refute it at one input. -/
def fifoPlayWrong : ChangeSpec := { name := "fifoPlay", fn := fun _ => fun
  | [d1, d2] => { results := [.lit (.bool false)], args := [d1, d2] }
  | _ => none }
def FifoPlayWrongFalsely : Prop := fifoPlayRow.holds Try.pinned (OpenSpec.ofChange fifoPlayWrong)

/-- 'postroadlaw15.FifoOrders': WHATEVER THE INPUT: true; the input reads as it did. -/
def fifoOrdersSpec : ChangeSpec := { name := "fifoOrders", fn := fun _ => fun
  | [d1, d2, d3] => { results := [.lit (.bool true)], args := [d1, d2, d3] }
  | _ => none }
def fifoOrdersRow : OpenClaim := { program := "ytfiiikgjgcnjgaa", sum := "510dc7494bf830febcfb905cfe309bf1c244c3257e06e22e4d945161d15eb1d2", func := "postroad/postroadlaw15.FifoOrders", spec := "fifoOrders", unfollowed := true, recurses := true, apart := false }
def FifoOrdersSaid : Prop := fifoOrdersRow.holds Try.pinned (OpenSpec.ofChange fifoOrdersSpec)

/-- ITS FALSE NEIGHBOUR: 'it returns false'. Refute it at one input. -/
def fifoOrdersWrong : ChangeSpec := { name := "fifoOrders", fn := fun _ => fun
  | [d1, d2, d3] => { results := [.lit (.bool false)], args := [d1, d2, d3] }
  | _ => none }
def FifoOrdersWrongFalsely : Prop := fifoOrdersRow.holds Try.pinned (OpenSpec.ofChange fifoOrdersWrong)

/-- 'postroadlaw15.FifoRoom': WHATEVER THE INPUT: true; the input reads as it did. -/
def fifoRoomSpec : ChangeSpec := { name := "fifoRoom", fn := fun _ => fun
  | [d1, d2] => { results := [.lit (.bool true)], args := [d1, d2] }
  | _ => none }
def fifoRoomRow : OpenClaim := { program := "ytfiiikgjgcnjgaa", sum := "510dc7494bf830febcfb905cfe309bf1c244c3257e06e22e4d945161d15eb1d2", func := "postroad/postroadlaw15.FifoRoom", spec := "fifoRoom", unfollowed := true, recurses := true, apart := false }
def FifoRoomSaid : Prop := fifoRoomRow.holds Try.pinned (OpenSpec.ofChange fifoRoomSpec)

/-- ITS FALSE NEIGHBOUR: 'it returns false'. Refute it at one input. -/
def fifoRoomWrong : ChangeSpec := { name := "fifoRoom", fn := fun _ => fun
  | [d1, d2] => { results := [.lit (.bool false)], args := [d1, d2] }
  | _ => none }
def FifoRoomWrongFalsely : Prop := fifoRoomRow.holds Try.pinned (OpenSpec.ofChange fifoRoomWrong)

/-- 'postroadlaw15.FifoCopies': WHATEVER THE INPUT: true; the input reads as it did. -/
def fifoCopiesSpec : ChangeSpec := { name := "fifoCopies", fn := fun _ => fun
  | [d1, d2, d3] => { results := [.lit (.bool true)], args := [d1, d2, d3] }
  | _ => none }
def fifoCopiesRow : OpenClaim := { program := "ytfiiikgjgcnjgaa", sum := "510dc7494bf830febcfb905cfe309bf1c244c3257e06e22e4d945161d15eb1d2", func := "postroad/postroadlaw15.FifoCopies", spec := "fifoCopies", unfollowed := true, recurses := true, apart := false }
def FifoCopiesSaid : Prop := fifoCopiesRow.holds Try.pinned (OpenSpec.ofChange fifoCopiesSpec)

/-- ITS FALSE NEIGHBOUR: 'it returns false'. Refute it at one input. -/
def fifoCopiesWrong : ChangeSpec := { name := "fifoCopies", fn := fun _ => fun
  | [d1, d2, d3] => { results := [.lit (.bool false)], args := [d1, d2, d3] }
  | _ => none }
def FifoCopiesWrongFalsely : Prop := fifoCopiesRow.holds Try.pinned (OpenSpec.ofChange fifoCopiesWrong)

/-- 'postroadlaw15.FifoNil': WHATEVER THE INPUT: true; the input reads as it did. -/
def fifoNilSpec : ChangeSpec := { name := "fifoNil", fn := fun _ => fun
  | [d] => { results := [.lit (.bool true)], args := [d] }
  | _ => none }
def fifoNilRow : OpenClaim := { program := "ytfiiikgjgcnjgaa", sum := "510dc7494bf830febcfb905cfe309bf1c244c3257e06e22e4d945161d15eb1d2", func := "postroad/postroadlaw15.FifoNil", spec := "fifoNil", unfollowed := true, recurses := true, apart := false }
def FifoNilSaid : Prop := fifoNilRow.holds Try.pinned (OpenSpec.ofChange fifoNilSpec)

/-- ITS FALSE NEIGHBOUR: 'it returns false'. Refute it at one input. -/
def fifoNilWrong : ChangeSpec := { name := "fifoNil", fn := fun _ => fun
  | [d] => { results := [.lit (.bool false)], args := [d] }
  | _ => none }
def FifoNilWrongFalsely : Prop := fifoNilRow.holds Try.pinned (OpenSpec.ofChange fifoNilWrong)

/- THE SECOND FORM. 'bulk': how many values and letters a reading holds, each counted each time it is reached (what is shared counts as often as it is met; a slice's spare places count too). A statement '..UptoSaid' is the law's where the arguments, and the package variables that the reading takes, are together of bulk at most 1048576: NARROWER than '..Said'. Prove '..Said' where nothing that the law and all that it calls make is longer than what came in: it says more and counts as full. Else prove '..UptoSaid'. A law counts once. -/
mutual
def uptoBulk {H : Type} : DataW H → Nat
  | .lit (.string bytes) => bytes.length + 1
  | .lit _ => 1
  | .nil => 1
  | .ptr d => uptoBulk d + 1
  | .slice elems spare => uptoBulkAll elems + uptoBulkAll spare + 1
  | .agg parts => uptoBulkAll parts + 1
  | .iface _ d => uptoBulk d + 1
  | .map entries => uptoBulkEntries entries + 1
  | .held _ => 1
def uptoBulkAll {H : Type} : List (DataW H) → Nat
  | [] => 0
  | d :: r => uptoBulk d + uptoBulkAll r
def uptoBulkEntries {H : Type} : List (Lit × DataW H) → Nat
  | [] => 0
  | x :: r => uptoBulkEntry x + uptoBulkEntries r
def uptoBulkEntry {H : Type} : Lit × DataW H → Nat
  | (.string bytes, d) => bytes.length + uptoBulk d + 1
  | (_, d) => uptoBulk d + 1
 end
def uptoSmall : (H : Type) → List (DataW H) → Bool := fun _ ds => decide (uptoBulkAll ds ≤ 1048576)
def OpenSpec.upto (s : _root_.Go.ChangeSpec) : _root_.Go.OpenSpec := { _root_.Go.OpenSpec.ofChange s with cond := some uptoSmall }

/-- 'postroadlaw15.FifoPlay', WHERE WHAT IT READS IS OF BULK AT MOST 1048576: true; the input reads as it did. -/
def fifoPlayUptoRow : OpenClaim := { program := "ytfiiikgjgcnjgaa", sum := "510dc7494bf830febcfb905cfe309bf1c244c3257e06e22e4d945161d15eb1d2", func := "postroad/postroadlaw15.FifoPlay", spec := "fifoPlay", unfollowed := true, recurses := true, apart := false, narrowed := true }
def FifoPlayUptoSaid : Prop := fifoPlayUptoRow.holds Try.pinned (OpenSpec.upto fifoPlaySpec)

/-- 'postroadlaw15.FifoOrders', WHERE WHAT IT READS IS OF BULK AT MOST 1048576: true; the input reads as it did. -/
def fifoOrdersUptoRow : OpenClaim := { program := "ytfiiikgjgcnjgaa", sum := "510dc7494bf830febcfb905cfe309bf1c244c3257e06e22e4d945161d15eb1d2", func := "postroad/postroadlaw15.FifoOrders", spec := "fifoOrders", unfollowed := true, recurses := true, apart := false, narrowed := true }
def FifoOrdersUptoSaid : Prop := fifoOrdersUptoRow.holds Try.pinned (OpenSpec.upto fifoOrdersSpec)

/-- 'postroadlaw15.FifoRoom', WHERE WHAT IT READS IS OF BULK AT MOST 1048576: true; the input reads as it did. -/
def fifoRoomUptoRow : OpenClaim := { program := "ytfiiikgjgcnjgaa", sum := "510dc7494bf830febcfb905cfe309bf1c244c3257e06e22e4d945161d15eb1d2", func := "postroad/postroadlaw15.FifoRoom", spec := "fifoRoom", unfollowed := true, recurses := true, apart := false, narrowed := true }
def FifoRoomUptoSaid : Prop := fifoRoomUptoRow.holds Try.pinned (OpenSpec.upto fifoRoomSpec)

/-- 'postroadlaw15.FifoCopies', WHERE WHAT IT READS IS OF BULK AT MOST 1048576: true; the input reads as it did. -/
def fifoCopiesUptoRow : OpenClaim := { program := "ytfiiikgjgcnjgaa", sum := "510dc7494bf830febcfb905cfe309bf1c244c3257e06e22e4d945161d15eb1d2", func := "postroad/postroadlaw15.FifoCopies", spec := "fifoCopies", unfollowed := true, recurses := true, apart := false, narrowed := true }
def FifoCopiesUptoSaid : Prop := fifoCopiesUptoRow.holds Try.pinned (OpenSpec.upto fifoCopiesSpec)

/-- 'postroadlaw15.FifoNil', WHERE WHAT IT READS IS OF BULK AT MOST 1048576: true; the input reads as it did. -/
def fifoNilUptoRow : OpenClaim := { program := "ytfiiikgjgcnjgaa", sum := "510dc7494bf830febcfb905cfe309bf1c244c3257e06e22e4d945161d15eb1d2", func := "postroad/postroadlaw15.FifoNil", spec := "fifoNil", unfollowed := true, recurses := true, apart := false, narrowed := true }
def FifoNilUptoSaid : Prop := fifoNilUptoRow.holds Try.pinned (OpenSpec.upto fifoNilSpec)

end Rows
end Go.Proofs.Ytfiiikgjgcnjgaa
