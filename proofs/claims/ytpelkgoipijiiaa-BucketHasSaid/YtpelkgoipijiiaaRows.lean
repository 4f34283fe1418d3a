/-
  No cell of these rows narrows 'for every input' (looked for: loops, veiled, ifaces, maps, wideKeys, modest, calm, conditions, laid).
  DERIVED. THE GIVEN ROWS OF THIS SEAT. 6 by the template 'for every input the law returns true; each argument reads behind the call as it read before'; 0 by the template 'total and deterministic' (their statements: YtpelkgoipijiiaaTotals.lean).
  GIVEN WITH THE SEED: the statements are not yours to turn. If you find one false, say at which input.
  Laid BY PROGRAM, IN A SANDBOX (cutbox-rows.mjs): the forced cells as the released guide's own fill.sh prints them over the translation a6e0480b44800f87… (all of the seat's roots in one cut). By AI agents, Wed Nov 11 2026. No macro, syntax, notation, axiom, sorry.
-/
import Derived.Test.YtpelkgoipijiiaaChecked
import GoSem.Claim
import GoSem.ClaimJoined
import GoSem.ClaimMapViews
import Derived.JoinedTies
import Derived.KernelRfl
namespace Go.Proofs.Ytpelkgoipijiiaa
/- THE CELL 'sum', in the pinned program and in every row, IS THE sha256 OF THE DUMP (.gsa) THAT YtpelkgoipijiiaaProg.lean LOADS. Nothing in Lean hashes anything: it is a label: what it is worth is what the hold of that sum in a sandbox is worth. -/
noncomputable def Try.pinned : Pinned := { name := "ytpelkgoipijiiaa", sum := "a6e0480b44800f87c419dedb9dc283b892d73c043509bde79725aca2105ce1fe", checked := Try.checked }
namespace Rows
def none {H : Type} : Left H := { results := [], args := [] }

/-- 'postroadlaw12.BucketTakes': WHATEVER THE INPUT: true; the input reads as it did. -/
def bucketTakesSpec : ChangeSpec := { name := "bucketTakes", fn := fun _ => fun
  | [d1, d2] => { results := [.lit (.bool true)], args := [d1, d2] }
  | _ => none }
def bucketTakesRow : OpenClaim := { program := "ytpelkgoipijiiaa", sum := "a6e0480b44800f87c419dedb9dc283b892d73c043509bde79725aca2105ce1fe", func := "postroad/postroadlaw12.BucketTakes", spec := "bucketTakes", unfollowed := true, recurses := true, apart := false }
def BucketTakesSaid : Prop := bucketTakesRow.holds Try.pinned (OpenSpec.ofChange bucketTakesSpec)

/-- ITS FALSE NEIGHBOUR: 'it returns false'. Refute it at one input. -/
def bucketTakesWrong : ChangeSpec := { name := "bucketTakes", fn := fun _ => fun
  | [d1, d2] => { results := [.lit (.bool false)], args := [d1, d2] }
  | _ => none }
def BucketTakesWrongFalsely : Prop := bucketTakesRow.holds Try.pinned (OpenSpec.ofChange bucketTakesWrong)

/-- 'postroadlaw12.BucketWhen': WHATEVER THE INPUT: true; the input reads as it did. -/
def bucketWhenSpec : ChangeSpec := { name := "bucketWhen", fn := fun _ => fun
  | [d1, d2, d3] => { results := [.lit (.bool true)], args := [d1, d2, d3] }
  | _ => none }
def bucketWhenRow : OpenClaim := { program := "ytpelkgoipijiiaa", sum := "a6e0480b44800f87c419dedb9dc283b892d73c043509bde79725aca2105ce1fe", func := "postroad/postroadlaw12.BucketWhen", spec := "bucketWhen", unfollowed := true, recurses := true, apart := false }
def BucketWhenSaid : Prop := bucketWhenRow.holds Try.pinned (OpenSpec.ofChange bucketWhenSpec)

/-- ITS FALSE NEIGHBOUR: 'it returns false'. Refute it at one input. -/
def bucketWhenWrong : ChangeSpec := { name := "bucketWhen", fn := fun _ => fun
  | [d1, d2, d3] => { results := [.lit (.bool false)], args := [d1, d2, d3] }
  | _ => none }
def BucketWhenWrongFalsely : Prop := bucketWhenRow.holds Try.pinned (OpenSpec.ofChange bucketWhenWrong)

/-- 'postroadlaw12.BucketHas': WHATEVER THE INPUT: true; the input reads as it did. -/
def bucketHasSpec : ChangeSpec := { name := "bucketHas", fn := fun _ => fun
  | [d1, d2, d3] => { results := [.lit (.bool true)], args := [d1, d2, d3] }
  | _ => none }
def bucketHasRow : OpenClaim := { program := "ytpelkgoipijiiaa", sum := "a6e0480b44800f87c419dedb9dc283b892d73c043509bde79725aca2105ce1fe", func := "postroad/postroadlaw12.BucketHas", spec := "bucketHas", unfollowed := true, recurses := true, apart := false }
def BucketHasSaid : Prop := bucketHasRow.holds Try.pinned (OpenSpec.ofChange bucketHasSpec)

/-- ITS FALSE NEIGHBOUR: 'it returns false'. Refute it at one input. -/
def bucketHasWrong : ChangeSpec := { name := "bucketHas", fn := fun _ => fun
  | [d1, d2, d3] => { results := [.lit (.bool false)], args := [d1, d2, d3] }
  | _ => none }
def BucketHasWrongFalsely : Prop := bucketHasRow.holds Try.pinned (OpenSpec.ofChange bucketHasWrong)

/-- 'postroadlaw12.BucketCopies': WHATEVER THE INPUT: true; the input reads as it did. -/
def bucketCopiesSpec : ChangeSpec := { name := "bucketCopies", fn := fun _ => fun
  | [d1, d2, d3] => { results := [.lit (.bool true)], args := [d1, d2, d3] }
  | _ => none }
def bucketCopiesRow : OpenClaim := { program := "ytpelkgoipijiiaa", sum := "a6e0480b44800f87c419dedb9dc283b892d73c043509bde79725aca2105ce1fe", func := "postroad/postroadlaw12.BucketCopies", spec := "bucketCopies", unfollowed := true, recurses := true, apart := false }
def BucketCopiesSaid : Prop := bucketCopiesRow.holds Try.pinned (OpenSpec.ofChange bucketCopiesSpec)

/-- ITS FALSE NEIGHBOUR: 'it returns false'. Refute it at one input. -/
def bucketCopiesWrong : ChangeSpec := { name := "bucketCopies", fn := fun _ => fun
  | [d1, d2, d3] => { results := [.lit (.bool false)], args := [d1, d2, d3] }
  | _ => none }
def BucketCopiesWrongFalsely : Prop := bucketCopiesRow.holds Try.pinned (OpenSpec.ofChange bucketCopiesWrong)

/-- 'postroadlaw12.BucketNil': WHATEVER THE INPUT: true; the input reads as it did. -/
def bucketNilSpec : ChangeSpec := { name := "bucketNil", fn := fun _ => fun
  | [d1, d2] => { results := [.lit (.bool true)], args := [d1, d2] }
  | _ => none }
def bucketNilRow : OpenClaim := { program := "ytpelkgoipijiiaa", sum := "a6e0480b44800f87c419dedb9dc283b892d73c043509bde79725aca2105ce1fe", func := "postroad/postroadlaw12.BucketNil", spec := "bucketNil", unfollowed := true, recurses := true, apart := false }
def BucketNilSaid : Prop := bucketNilRow.holds Try.pinned (OpenSpec.ofChange bucketNilSpec)

/-- ITS FALSE NEIGHBOUR: 'it returns false'. Refute it at one input. -/
def bucketNilWrong : ChangeSpec := { name := "bucketNil", fn := fun _ => fun
  | [d1, d2] => { results := [.lit (.bool false)], args := [d1, d2] }
  | _ => none }
def BucketNilWrongFalsely : Prop := bucketNilRow.holds Try.pinned (OpenSpec.ofChange bucketNilWrong)

/-- 'postroadlaw12.BucketRests': WHATEVER THE INPUT: true; the input reads as it did. -/
def bucketRestsSpec : ChangeSpec := { name := "bucketRests", fn := fun _ => fun
  | [d1, d2] => { results := [.lit (.bool true)], args := [d1, d2] }
  | _ => none }
def bucketRestsRow : OpenClaim := { program := "ytpelkgoipijiiaa", sum := "a6e0480b44800f87c419dedb9dc283b892d73c043509bde79725aca2105ce1fe", func := "postroad/postroadlaw12.BucketRests", spec := "bucketRests", unfollowed := true, recurses := true, apart := false }
def BucketRestsSaid : Prop := bucketRestsRow.holds Try.pinned (OpenSpec.ofChange bucketRestsSpec)

/-- ITS FALSE NEIGHBOUR: 'it returns false'. Refute it at one input. -/
def bucketRestsWrong : ChangeSpec := { name := "bucketRests", fn := fun _ => fun
  | [d1, d2] => { results := [.lit (.bool false)], args := [d1, d2] }
  | _ => none }
def BucketRestsWrongFalsely : Prop := bucketRestsRow.holds Try.pinned (OpenSpec.ofChange bucketRestsWrong)

/- THE SECOND FORM. 'bulk': how many values and letters a reading holds, each counted each time it is reached (what is shared counts as often as it is met; a slice's spare places count too). A statement '..UptoSaid' is the law's where the arguments, and the package variables that the reading takes, are together of bulk at most 1048576: NARROWER than '..Said'. Prove '..Said' where nothing that the law and all that it calls make is longer than what came in: it says more and counts as full. Else prove '..UptoSaid'. A law counts once. -/
mutual
def uptoBulk {H : Type} : DataW H → Nat
  | .lit (.string bytes) => bytes.length + 1
  | .lit _ => 1
  | .nil => 1
  | .ptr d => uptoBulk d + 1
  | .slice elems spare => uptoBulkAll elems + uptoBulkAll spare + 1
  | .agg parts => uptoBulkAll parts + 1
  | .iface _ d => uptoBulk d + 1
  | .map entries => uptoBulkEntries entries + 1
  | .held _ => 1
def uptoBulkAll {H : Type} : List (DataW H) → Nat
  | [] => 0
  | d :: r => uptoBulk d + uptoBulkAll r
def uptoBulkEntries {H : Type} : List (Lit × DataW H) → Nat
  | [] => 0
  | x :: r => uptoBulkEntry x + uptoBulkEntries r
def uptoBulkEntry {H : Type} : Lit × DataW H → Nat
  | (.string bytes, d) => bytes.length + uptoBulk d + 1
  | (_, d) => uptoBulk d + 1
 end
def uptoSmall : (H : Type) → List (DataW H) → Bool := fun _ ds => decide (uptoBulkAll ds ≤ 1048576)
def OpenSpec.upto (s : _root_.Go.ChangeSpec) : _root_.Go.OpenSpec := { _root_.Go.OpenSpec.ofChange s with cond := some uptoSmall }

/-- 'postroadlaw12.BucketTakes', WHERE WHAT IT READS IS OF BULK AT MOST 1048576: true; the input reads as it did. -/
def bucketTakesUptoRow : OpenClaim := { program := "ytpelkgoipijiiaa", sum := "a6e0480b44800f87c419dedb9dc283b892d73c043509bde79725aca2105ce1fe", func := "postroad/postroadlaw12.BucketTakes", spec := "bucketTakes", unfollowed := true, recurses := true, apart := false, narrowed := true }
def BucketTakesUptoSaid : Prop := bucketTakesUptoRow.holds Try.pinned (OpenSpec.upto bucketTakesSpec)

/-- 'postroadlaw12.BucketWhen', WHERE WHAT IT READS IS OF BULK AT MOST 1048576: true; the input reads as it did. -/
def bucketWhenUptoRow : OpenClaim := { program := "ytpelkgoipijiiaa", sum := "a6e0480b44800f87c419dedb9dc283b892d73c043509bde79725aca2105ce1fe", func := "postroad/postroadlaw12.BucketWhen", spec := "bucketWhen", unfollowed := true, recurses := true, apart := false, narrowed := true }
def BucketWhenUptoSaid : Prop := bucketWhenUptoRow.holds Try.pinned (OpenSpec.upto bucketWhenSpec)

/-- 'postroadlaw12.BucketHas', WHERE WHAT IT READS IS OF BULK AT MOST 1048576: true; the input reads as it did. -/
def bucketHasUptoRow : OpenClaim := { program := "ytpelkgoipijiiaa", sum := "a6e0480b44800f87c419dedb9dc283b892d73c043509bde79725aca2105ce1fe", func := "postroad/postroadlaw12.BucketHas", spec := "bucketHas", unfollowed := true, recurses := true, apart := false, narrowed := true }
def BucketHasUptoSaid : Prop := bucketHasUptoRow.holds Try.pinned (OpenSpec.upto bucketHasSpec)

/-- 'postroadlaw12.BucketCopies', WHERE WHAT IT READS IS OF BULK AT MOST 1048576: true; the input reads as it did. -/
def bucketCopiesUptoRow : OpenClaim := { program := "ytpelkgoipijiiaa", sum := "a6e0480b44800f87c419dedb9dc283b892d73c043509bde79725aca2105ce1fe", func := "postroad/postroadlaw12.BucketCopies", spec := "bucketCopies", unfollowed := true, recurses := true, apart := false, narrowed := true }
def BucketCopiesUptoSaid : Prop := bucketCopiesUptoRow.holds Try.pinned (OpenSpec.upto bucketCopiesSpec)

/-- 'postroadlaw12.BucketNil', WHERE WHAT IT READS IS OF BULK AT MOST 1048576: true; the input reads as it did. -/
def bucketNilUptoRow : OpenClaim := { program := "ytpelkgoipijiiaa", sum := "a6e0480b44800f87c419dedb9dc283b892d73c043509bde79725aca2105ce1fe", func := "postroad/postroadlaw12.BucketNil", spec := "bucketNil", unfollowed := true, recurses := true, apart := false, narrowed := true }
def BucketNilUptoSaid : Prop := bucketNilUptoRow.holds Try.pinned (OpenSpec.upto bucketNilSpec)

/-- 'postroadlaw12.BucketRests', WHERE WHAT IT READS IS OF BULK AT MOST 1048576: true; the input reads as it did. -/
def bucketRestsUptoRow : OpenClaim := { program := "ytpelkgoipijiiaa", sum := "a6e0480b44800f87c419dedb9dc283b892d73c043509bde79725aca2105ce1fe", func := "postroad/postroadlaw12.BucketRests", spec := "bucketRests", unfollowed := true, recurses := true, apart := false, narrowed := true }
def BucketRestsUptoSaid : Prop := bucketRestsUptoRow.holds Try.pinned (OpenSpec.upto bucketRestsSpec)

end Rows
end Go.Proofs.Ytpelkgoipijiiaa
