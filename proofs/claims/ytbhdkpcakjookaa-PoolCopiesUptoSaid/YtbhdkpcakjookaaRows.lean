/-
  No cell of these rows narrows 'for every input' (looked for: loops, veiled, ifaces, maps, wideKeys, modest, calm, conditions, laid).
  DERIVED. THE GIVEN ROWS OF THIS SEAT. 6 by the template 'for every input the law returns true; each argument reads behind the call as it read before'; 0 by the template 'total and deterministic' (their statements: YtbhdkpcakjookaaTotals.lean).
  GIVEN WITH THE SEED: the statements are not yours to turn. If you find one false, say at which input.
  Laid BY PROGRAM, IN A SANDBOX (cutbox-rows.mjs): the forced cells as the released guide's own fill.sh prints them over the translation ea4db964b5e20e10… (all of the seat's roots in one cut). By AI agents, Wed Nov 11 2026. No macro, syntax, notation, axiom, sorry.
-/
import Derived.Test.YtbhdkpcakjookaaChecked
import GoSem.Claim
import GoSem.ClaimJoined
import GoSem.ClaimMapViews
import Derived.JoinedTies
import Derived.KernelRfl
namespace Go.Proofs.Ytbhdkpcakjookaa
/- THE CELL 'sum', in the pinned program and in every row, IS THE sha256 OF THE DUMP (.gsa) THAT YtbhdkpcakjookaaProg.lean LOADS. Nothing in Lean hashes anything: it is a label: what it is worth is what the hold of that sum in a sandbox is worth. -/
noncomputable def Try.pinned : Pinned := { name := "ytbhdkpcakjookaa", sum := "ea4db964b5e20e10c53343cb9e3cbf9bdd2cc1dfd9071b276557a732f0b144ee", checked := Try.checked }
namespace Rows
def none {H : Type} : Left H := { results := [], args := [] }

/-- 'postroadlaw24.PoolBends': WHATEVER THE INPUT: true; the input reads as it did. -/
def poolBendsSpec : ChangeSpec := { name := "poolBends", fn := fun _ => fun
  | [d1, d2] => { results := [.lit (.bool true)], args := [d1, d2] }
  | _ => none }
def poolBendsRow : OpenClaim := { program := "ytbhdkpcakjookaa", sum := "ea4db964b5e20e10c53343cb9e3cbf9bdd2cc1dfd9071b276557a732f0b144ee", func := "postroad/postroadlaw24.PoolBends", spec := "poolBends", unfollowed := true, recurses := true, apart := false }
def PoolBendsSaid : Prop := poolBendsRow.holds Try.pinned (OpenSpec.ofChange poolBendsSpec)

/-- ITS FALSE NEIGHBOUR: 'it returns false'. Refute it at one input. -/
def poolBendsWrong : ChangeSpec := { name := "poolBends", fn := fun _ => fun
  | [d1, d2] => { results := [.lit (.bool false)], args := [d1, d2] }
  | _ => none }
def PoolBendsWrongFalsely : Prop := poolBendsRow.holds Try.pinned (OpenSpec.ofChange poolBendsWrong)

/-- 'postroadlaw24.PoolOwn': WHATEVER THE INPUT: true; the input reads as it did. -/
def poolOwnSpec : ChangeSpec := { name := "poolOwn", fn := fun _ => fun
  | [d] => { results := [.lit (.bool true)], args := [d] }
  | _ => none }
def poolOwnRow : OpenClaim := { program := "ytbhdkpcakjookaa", sum := "ea4db964b5e20e10c53343cb9e3cbf9bdd2cc1dfd9071b276557a732f0b144ee", func := "postroad/postroadlaw24.PoolOwn", spec := "poolOwn", unfollowed := true, recurses := true, apart := false }
def PoolOwnSaid : Prop := poolOwnRow.holds Try.pinned (OpenSpec.ofChange poolOwnSpec)

/-- ITS FALSE NEIGHBOUR: 'it returns false'. Refute it at one input. -/
def poolOwnWrong : ChangeSpec := { name := "poolOwn", fn := fun _ => fun
  | [d] => { results := [.lit (.bool false)], args := [d] }
  | _ => none }
def PoolOwnWrongFalsely : Prop := poolOwnRow.holds Try.pinned (OpenSpec.ofChange poolOwnWrong)

/-- 'postroadlaw24.PoolOrder': WHATEVER THE INPUT: true; the input reads as it did. -/
def poolOrderSpec : ChangeSpec := { name := "poolOrder", fn := fun _ => fun
  | [d1, d2] => { results := [.lit (.bool true)], args := [d1, d2] }
  | _ => none }
def poolOrderRow : OpenClaim := { program := "ytbhdkpcakjookaa", sum := "ea4db964b5e20e10c53343cb9e3cbf9bdd2cc1dfd9071b276557a732f0b144ee", func := "postroad/postroadlaw24.PoolOrder", spec := "poolOrder", unfollowed := true, recurses := true, apart := false }
def PoolOrderSaid : Prop := poolOrderRow.holds Try.pinned (OpenSpec.ofChange poolOrderSpec)

/-- ITS FALSE NEIGHBOUR: 'it returns false'. Refute it at one input. -/
def poolOrderWrong : ChangeSpec := { name := "poolOrder", fn := fun _ => fun
  | [d1, d2] => { results := [.lit (.bool false)], args := [d1, d2] }
  | _ => none }
def PoolOrderWrongFalsely : Prop := poolOrderRow.holds Try.pinned (OpenSpec.ofChange poolOrderWrong)

/-- 'postroadlaw24.PoolPlay': WHATEVER THE INPUT: true; the input reads as it did. -/
def poolPlaySpec : ChangeSpec := { name := "poolPlay", fn := fun _ => fun
  | [d1, d2, d3] => { results := [.lit (.bool true)], args := [d1, d2, d3] }
  | _ => none }
def poolPlayRow : OpenClaim := { program := "ytbhdkpcakjookaa", sum := "ea4db964b5e20e10c53343cb9e3cbf9bdd2cc1dfd9071b276557a732f0b144ee", func := "postroad/postroadlaw24.PoolPlay", spec := "poolPlay", unfollowed := true, recurses := true, apart := false }
def PoolPlaySaid : Prop := poolPlayRow.holds Try.pinned (OpenSpec.ofChange poolPlaySpec)

/-- ITS FALSE NEIGHBOUR: 'it returns false'. Refute it at one input. -/
def poolPlayWrong : ChangeSpec := { name := "poolPlay", fn := fun _ => fun
  | [d1, d2, d3] => { results := [.lit (.bool false)], args := [d1, d2, d3] }
  | _ => none }
def PoolPlayWrongFalsely : Prop := poolPlayRow.holds Try.pinned (OpenSpec.ofChange poolPlayWrong)

/-- 'postroadlaw24.PoolCopies': WHATEVER THE INPUT: true; the input reads as it did. -/
def poolCopiesSpec : ChangeSpec := { name := "poolCopies", fn := fun _ => fun
  | [d1, d2, d3] => { results := [.lit (.bool true)], args := [d1, d2, d3] }
  | _ => none }
def poolCopiesRow : OpenClaim := { program := "ytbhdkpcakjookaa", sum := "ea4db964b5e20e10c53343cb9e3cbf9bdd2cc1dfd9071b276557a732f0b144ee", func := "postroad/postroadlaw24.PoolCopies", spec := "poolCopies", unfollowed := true, recurses := true, apart := false }
def PoolCopiesSaid : Prop := poolCopiesRow.holds Try.pinned (OpenSpec.ofChange poolCopiesSpec)

/-- ITS FALSE NEIGHBOUR: 'it returns false'. Refute it at one input. -/
def poolCopiesWrong : ChangeSpec := { name := "poolCopies", fn := fun _ => fun
  | [d1, d2, d3] => { results := [.lit (.bool false)], args := [d1, d2, d3] }
  | _ => none }
def PoolCopiesWrongFalsely : Prop := poolCopiesRow.holds Try.pinned (OpenSpec.ofChange poolCopiesWrong)

/-- 'postroadlaw24.PoolNil': WHATEVER THE INPUT: true; the input reads as it did. -/
def poolNilSpec : ChangeSpec := { name := "poolNil", fn := fun _ => fun
  | [d] => { results := [.lit (.bool true)], args := [d] }
  | _ => none }
def poolNilRow : OpenClaim := { program := "ytbhdkpcakjookaa", sum := "ea4db964b5e20e10c53343cb9e3cbf9bdd2cc1dfd9071b276557a732f0b144ee", func := "postroad/postroadlaw24.PoolNil", spec := "poolNil", unfollowed := true, recurses := true, apart := false }
def PoolNilSaid : Prop := poolNilRow.holds Try.pinned (OpenSpec.ofChange poolNilSpec)

/-- ITS FALSE NEIGHBOUR: 'it returns false'. Refute it at one input. -/
def poolNilWrong : ChangeSpec := { name := "poolNil", fn := fun _ => fun
  | [d] => { results := [.lit (.bool false)], args := [d] }
  | _ => none }
def PoolNilWrongFalsely : Prop := poolNilRow.holds Try.pinned (OpenSpec.ofChange poolNilWrong)

/- THE SECOND FORM. 'bulk': how many values and letters a reading holds, each counted each time it is reached (what is shared counts as often as it is met; a slice's spare places count too). A statement '..UptoSaid' is the law's where the arguments, and the package variables that the reading takes, are together of bulk at most 1048576: NARROWER than '..Said'. Prove '..Said' where nothing that the law and all that it calls make is longer than what came in: it says more and counts as full. Else prove '..UptoSaid'. A law counts once. -/
mutual
def uptoBulk {H : Type} : DataW H → Nat
  | .lit (.string bytes) => bytes.length + 1
  | .lit _ => 1
  | .nil => 1
  | .ptr d => uptoBulk d + 1
  | .slice elems spare => uptoBulkAll elems + uptoBulkAll spare + 1
  | .agg parts => uptoBulkAll parts + 1
  | .iface _ d => uptoBulk d + 1
  | .map entries => uptoBulkEntries entries + 1
  | .held _ => 1
def uptoBulkAll {H : Type} : List (DataW H) → Nat
  | [] => 0
  | d :: r => uptoBulk d + uptoBulkAll r
def uptoBulkEntries {H : Type} : List (Lit × DataW H) → Nat
  | [] => 0
  | x :: r => uptoBulkEntry x + uptoBulkEntries r
def uptoBulkEntry {H : Type} : Lit × DataW H → Nat
  | (.string bytes, d) => bytes.length + uptoBulk d + 1
  | (_, d) => uptoBulk d + 1
 end
def uptoSmall : (H : Type) → List (DataW H) → Bool := fun _ ds => decide (uptoBulkAll ds ≤ 1048576)
def OpenSpec.upto (s : _root_.Go.ChangeSpec) : _root_.Go.OpenSpec := { _root_.Go.OpenSpec.ofChange s with cond := some uptoSmall }

/-- 'postroadlaw24.PoolBends', WHERE WHAT IT READS IS OF BULK AT MOST 1048576: true; the input reads as it did. -/
def poolBendsUptoRow : OpenClaim := { program := "ytbhdkpcakjookaa", sum := "ea4db964b5e20e10c53343cb9e3cbf9bdd2cc1dfd9071b276557a732f0b144ee", func := "postroad/postroadlaw24.PoolBends", spec := "poolBends", unfollowed := true, recurses := true, apart := false, narrowed := true }
def PoolBendsUptoSaid : Prop := poolBendsUptoRow.holds Try.pinned (OpenSpec.upto poolBendsSpec)

/-- 'postroadlaw24.PoolOwn', WHERE WHAT IT READS IS OF BULK AT MOST 1048576: true; the input reads as it did. -/
def poolOwnUptoRow : OpenClaim := { program := "ytbhdkpcakjookaa", sum := "ea4db964b5e20e10c53343cb9e3cbf9bdd2cc1dfd9071b276557a732f0b144ee", func := "postroad/postroadlaw24.PoolOwn", spec := "poolOwn", unfollowed := true, recurses := true, apart := false, narrowed := true }
def PoolOwnUptoSaid : Prop := poolOwnUptoRow.holds Try.pinned (OpenSpec.upto poolOwnSpec)

/-- 'postroadlaw24.PoolOrder', WHERE WHAT IT READS IS OF BULK AT MOST 1048576: true; the input reads as it did. -/
def poolOrderUptoRow : OpenClaim := { program := "ytbhdkpcakjookaa", sum := "ea4db964b5e20e10c53343cb9e3cbf9bdd2cc1dfd9071b276557a732f0b144ee", func := "postroad/postroadlaw24.PoolOrder", spec := "poolOrder", unfollowed := true, recurses := true, apart := false, narrowed := true }
def PoolOrderUptoSaid : Prop := poolOrderUptoRow.holds Try.pinned (OpenSpec.upto poolOrderSpec)

/-- 'postroadlaw24.PoolPlay', WHERE WHAT IT READS IS OF BULK AT MOST 1048576: true; the input reads as it did. -/
def poolPlayUptoRow : OpenClaim := { program := "ytbhdkpcakjookaa", sum := "ea4db964b5e20e10c53343cb9e3cbf9bdd2cc1dfd9071b276557a732f0b144ee", func := "postroad/postroadlaw24.PoolPlay", spec := "poolPlay", unfollowed := true, recurses := true, apart := false, narrowed := true }
def PoolPlayUptoSaid : Prop := poolPlayUptoRow.holds Try.pinned (OpenSpec.upto poolPlaySpec)

/-- 'postroadlaw24.PoolCopies', WHERE WHAT IT READS IS OF BULK AT MOST 1048576: true; the input reads as it did. -/
def poolCopiesUptoRow : OpenClaim := { program := "ytbhdkpcakjookaa", sum := "ea4db964b5e20e10c53343cb9e3cbf9bdd2cc1dfd9071b276557a732f0b144ee", func := "postroad/postroadlaw24.PoolCopies", spec := "poolCopies", unfollowed := true, recurses := true, apart := false, narrowed := true }
def PoolCopiesUptoSaid : Prop := poolCopiesUptoRow.holds Try.pinned (OpenSpec.upto poolCopiesSpec)

/-- 'postroadlaw24.PoolNil', WHERE WHAT IT READS IS OF BULK AT MOST 1048576: true; the input reads as it did. -/
def poolNilUptoRow : OpenClaim := { program := "ytbhdkpcakjookaa", sum := "ea4db964b5e20e10c53343cb9e3cbf9bdd2cc1dfd9071b276557a732f0b144ee", func := "postroad/postroadlaw24.PoolNil", spec := "poolNil", unfollowed := true, recurses := true, apart := false, narrowed := true }
def PoolNilUptoSaid : Prop := poolNilUptoRow.holds Try.pinned (OpenSpec.upto poolNilSpec)

end Rows
end Go.Proofs.Ytbhdkpcakjookaa
