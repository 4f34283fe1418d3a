/-
  No cell of these rows narrows 'for every input' (looked for: loops, veiled, ifaces, maps, wideKeys, modest, calm, conditions, laid).
  DERIVED. THE GIVEN ROWS OF THIS SEAT. 8 by the template 'for every input the law returns true; each argument reads behind the call as it read before'; 0 by the template 'total and deterministic' (their statements: YtdakeenjeieekaaTotals.lean).
  GIVEN WITH THE SEED: the statements are not yours to turn. If you find one false, say at which input.
  Laid BY PROGRAM, IN A SANDBOX (cutbox-rows.mjs): the forced cells as the released guide's own fill.sh prints them over the translation 34c5f3bb1520b8a1… (all of the seat's roots in one cut). By AI agents, Wed Nov 11 2026. No macro, syntax, notation, axiom, sorry.
-/
import Derived.Test.YtdakeenjeieekaaChecked
import GoSem.Claim
import GoSem.ClaimJoined
import GoSem.ClaimMapViews
import Derived.JoinedTies
import Derived.KernelRfl
namespace Go.Proofs.Ytdakeenjeieekaa
/- THE CELL 'sum', in the pinned program and in every row, IS THE sha256 OF THE DUMP (.gsa) THAT YtdakeenjeieekaaProg.lean LOADS. Nothing in Lean hashes anything: it is a label: what it is worth is what the hold of that sum in a sandbox is worth. -/
noncomputable def Try.pinned : Pinned := { name := "ytdakeenjeieekaa", sum := "34c5f3bb1520b8a18db469d45f5b8687aed15fb81e12a41d7f9414d6bf7f7db6", checked := Try.checked }
namespace Rows
def none {H : Type} : Left H := { results := [], args := [] }

/-- 'postroadlaw01.RatMakes': WHATEVER THE INPUT: true; the input reads as it did. -/
def ratMakesSpec : ChangeSpec := { name := "ratMakes", fn := fun _ => fun
  | [d1, d2] => { results := [.lit (.bool true)], args := [d1, d2] }
  | _ => none }
def ratMakesRow : OpenClaim := { program := "ytdakeenjeieekaa", sum := "34c5f3bb1520b8a18db469d45f5b8687aed15fb81e12a41d7f9414d6bf7f7db6", func := "postroad/postroadlaw01.RatMakes", spec := "ratMakes", inPlace := ["math/bits.Add64", "math/bits.Sub64"], unfollowed := true, recurses := true, named := ["math/bits.divideError", "math/bits.overflowError"], apart := false }
def RatMakesSaid : Prop := ratMakesRow.holds Try.pinned (OpenSpec.ofChange ratMakesSpec)

/-- ITS FALSE NEIGHBOUR: 'it returns false'. Refute it at one input. -/
def ratMakesWrong : ChangeSpec := { name := "ratMakes", fn := fun _ => fun
  | [d1, d2] => { results := [.lit (.bool false)], args := [d1, d2] }
  | _ => none }
def RatMakesWrongFalsely : Prop := ratMakesRow.holds Try.pinned (OpenSpec.ofChange ratMakesWrong)

/-- 'postroadlaw01.RatShifts': WHATEVER THE INPUT: true; the input reads as it did. -/
def ratShiftsSpec : ChangeSpec := { name := "ratShifts", fn := fun _ => fun
  | [d1, d2] => { results := [.lit (.bool true)], args := [d1, d2] }
  | _ => none }
def ratShiftsRow : OpenClaim := { program := "ytdakeenjeieekaa", sum := "34c5f3bb1520b8a18db469d45f5b8687aed15fb81e12a41d7f9414d6bf7f7db6", func := "postroad/postroadlaw01.RatShifts", spec := "ratShifts", inPlace := ["math/bits.Add64", "math/bits.Sub64"], unfollowed := true, recurses := true, named := ["math/bits.divideError", "math/bits.overflowError"], apart := false }
def RatShiftsSaid : Prop := ratShiftsRow.holds Try.pinned (OpenSpec.ofChange ratShiftsSpec)

/-- ITS FALSE NEIGHBOUR: 'it returns false'. Refute it at one input. -/
def ratShiftsWrong : ChangeSpec := { name := "ratShifts", fn := fun _ => fun
  | [d1, d2] => { results := [.lit (.bool false)], args := [d1, d2] }
  | _ => none }
def RatShiftsWrongFalsely : Prop := ratShiftsRow.holds Try.pinned (OpenSpec.ofChange ratShiftsWrong)

/-- 'postroadlaw01.RatScales': WHATEVER THE INPUT: true; the input reads as it did. -/
def ratScalesSpec : ChangeSpec := { name := "ratScales", fn := fun _ => fun
  | [d1, d2, d3] => { results := [.lit (.bool true)], args := [d1, d2, d3] }
  | _ => none }
def ratScalesRow : OpenClaim := { program := "ytdakeenjeieekaa", sum := "34c5f3bb1520b8a18db469d45f5b8687aed15fb81e12a41d7f9414d6bf7f7db6", func := "postroad/postroadlaw01.RatScales", spec := "ratScales", inPlace := ["math/bits.Add64", "math/bits.Sub64"], unfollowed := true, recurses := true, named := ["math/bits.divideError", "math/bits.overflowError"], apart := false }
def RatScalesSaid : Prop := ratScalesRow.holds Try.pinned (OpenSpec.ofChange ratScalesSpec)

/-- ITS FALSE NEIGHBOUR: 'it returns false'. Refute it at one input. -/
def ratScalesWrong : ChangeSpec := { name := "ratScales", fn := fun _ => fun
  | [d1, d2, d3] => { results := [.lit (.bool false)], args := [d1, d2, d3] }
  | _ => none }
def RatScalesWrongFalsely : Prop := ratScalesRow.holds Try.pinned (OpenSpec.ofChange ratScalesWrong)

/-- 'postroadlaw01.RatOps': WHATEVER THE INPUT: true; the input reads as it did. -/
def ratOpsSpec : ChangeSpec := { name := "ratOps", fn := fun _ => fun
  | [d1, d2] => { results := [.lit (.bool true)], args := [d1, d2] }
  | _ => none }
def ratOpsRow : OpenClaim := { program := "ytdakeenjeieekaa", sum := "34c5f3bb1520b8a18db469d45f5b8687aed15fb81e12a41d7f9414d6bf7f7db6", func := "postroad/postroadlaw01.RatOps", spec := "ratOps", inPlace := ["math/bits.Add64", "math/bits.Sub64"], unfollowed := true, recurses := true, named := ["math/bits.divideError", "math/bits.overflowError"], apart := false }
def RatOpsSaid : Prop := ratOpsRow.holds Try.pinned (OpenSpec.ofChange ratOpsSpec)

/-- ITS FALSE NEIGHBOUR: 'it returns false'. Refute it at one input. -/
def ratOpsWrong : ChangeSpec := { name := "ratOps", fn := fun _ => fun
  | [d1, d2] => { results := [.lit (.bool false)], args := [d1, d2] }
  | _ => none }
def RatOpsWrongFalsely : Prop := ratOpsRow.holds Try.pinned (OpenSpec.ofChange ratOpsWrong)

/-- 'postroadlaw01.RatField': WHATEVER THE INPUT: true; the input reads as it did. -/
def ratFieldSpec : ChangeSpec := { name := "ratField", fn := fun _ => fun
  | [d1, d2, d3] => { results := [.lit (.bool true)], args := [d1, d2, d3] }
  | _ => none }
def ratFieldRow : OpenClaim := { program := "ytdakeenjeieekaa", sum := "34c5f3bb1520b8a18db469d45f5b8687aed15fb81e12a41d7f9414d6bf7f7db6", func := "postroad/postroadlaw01.RatField", spec := "ratField", inPlace := ["math/bits.Add64", "math/bits.Sub64"], unfollowed := true, recurses := true, named := ["math/bits.divideError", "math/bits.overflowError"], apart := false }
def RatFieldSaid : Prop := ratFieldRow.holds Try.pinned (OpenSpec.ofChange ratFieldSpec)

/-- ITS FALSE NEIGHBOUR: 'it returns false'. Refute it at one input. -/
def ratFieldWrong : ChangeSpec := { name := "ratField", fn := fun _ => fun
  | [d1, d2, d3] => { results := [.lit (.bool false)], args := [d1, d2, d3] }
  | _ => none }
def RatFieldWrongFalsely : Prop := ratFieldRow.holds Try.pinned (OpenSpec.ofChange ratFieldWrong)

/-- 'postroadlaw01.RatCompares': WHATEVER THE INPUT: true; the input reads as it did. -/
def ratComparesSpec : ChangeSpec := { name := "ratCompares", fn := fun _ => fun
  | [d1, d2] => { results := [.lit (.bool true)], args := [d1, d2] }
  | _ => none }
def ratComparesRow : OpenClaim := { program := "ytdakeenjeieekaa", sum := "34c5f3bb1520b8a18db469d45f5b8687aed15fb81e12a41d7f9414d6bf7f7db6", func := "postroad/postroadlaw01.RatCompares", spec := "ratCompares", inPlace := ["math/bits.Add64", "math/bits.Sub64"], unfollowed := true, recurses := true, named := ["math/bits.divideError", "math/bits.overflowError"], apart := false }
def RatComparesSaid : Prop := ratComparesRow.holds Try.pinned (OpenSpec.ofChange ratComparesSpec)

/-- ITS FALSE NEIGHBOUR: 'it returns false'. Refute it at one input. -/
def ratComparesWrong : ChangeSpec := { name := "ratCompares", fn := fun _ => fun
  | [d1, d2] => { results := [.lit (.bool false)], args := [d1, d2] }
  | _ => none }
def RatComparesWrongFalsely : Prop := ratComparesRow.holds Try.pinned (OpenSpec.ofChange ratComparesWrong)

/-- 'postroadlaw01.RatOrder': WHATEVER THE INPUT: true; the input reads as it did. -/
def ratOrderSpec : ChangeSpec := { name := "ratOrder", fn := fun _ => fun
  | [d1, d2] => { results := [.lit (.bool true)], args := [d1, d2] }
  | _ => none }
def ratOrderRow : OpenClaim := { program := "ytdakeenjeieekaa", sum := "34c5f3bb1520b8a18db469d45f5b8687aed15fb81e12a41d7f9414d6bf7f7db6", func := "postroad/postroadlaw01.RatOrder", spec := "ratOrder", inPlace := ["math/bits.Add64", "math/bits.Sub64"], unfollowed := true, recurses := true, named := ["math/bits.divideError", "math/bits.overflowError"], apart := false }
def RatOrderSaid : Prop := ratOrderRow.holds Try.pinned (OpenSpec.ofChange ratOrderSpec)

/-- ITS FALSE NEIGHBOUR: 'it returns false'. Refute it at one input. -/
def ratOrderWrong : ChangeSpec := { name := "ratOrder", fn := fun _ => fun
  | [d1, d2] => { results := [.lit (.bool false)], args := [d1, d2] }
  | _ => none }
def RatOrderWrongFalsely : Prop := ratOrderRow.holds Try.pinned (OpenSpec.ofChange ratOrderWrong)

/-- 'postroadlaw01.RatMany': WHATEVER THE INPUT: true; the input reads as it did. -/
def ratManySpec : ChangeSpec := { name := "ratMany", fn := fun _ => fun
  | [d] => { results := [.lit (.bool true)], args := [d] }
  | _ => none }
def ratManyRow : OpenClaim := { program := "ytdakeenjeieekaa", sum := "34c5f3bb1520b8a18db469d45f5b8687aed15fb81e12a41d7f9414d6bf7f7db6", func := "postroad/postroadlaw01.RatMany", spec := "ratMany", inPlace := ["math/bits.Add64", "math/bits.Sub64"], unfollowed := true, recurses := true, named := ["math/bits.divideError", "math/bits.overflowError"], apart := false }
def RatManySaid : Prop := ratManyRow.holds Try.pinned (OpenSpec.ofChange ratManySpec)

/-- ITS FALSE NEIGHBOUR: 'it returns false'. Refute it at one input. -/
def ratManyWrong : ChangeSpec := { name := "ratMany", fn := fun _ => fun
  | [d] => { results := [.lit (.bool false)], args := [d] }
  | _ => none }
def RatManyWrongFalsely : Prop := ratManyRow.holds Try.pinned (OpenSpec.ofChange ratManyWrong)

/- THE SECOND FORM. 'bulk': how many values and letters a reading holds, each counted each time it is reached (what is shared counts as often as it is met; a slice's spare places count too). A statement '..UptoSaid' is the law's where the arguments, and the package variables that the reading takes, are together of bulk at most 1048576: NARROWER than '..Said'. Prove '..Said' where nothing that the law and all that it calls make is longer than what came in: it says more and counts as full. Else prove '..UptoSaid'. A law counts once. -/
mutual
def uptoBulk {H : Type} : DataW H → Nat
  | .lit (.string bytes) => bytes.length + 1
  | .lit _ => 1
  | .nil => 1
  | .ptr d => uptoBulk d + 1
  | .slice elems spare => uptoBulkAll elems + uptoBulkAll spare + 1
  | .agg parts => uptoBulkAll parts + 1
  | .iface _ d => uptoBulk d + 1
  | .map entries => uptoBulkEntries entries + 1
  | .held _ => 1
def uptoBulkAll {H : Type} : List (DataW H) → Nat
  | [] => 0
  | d :: r => uptoBulk d + uptoBulkAll r
def uptoBulkEntries {H : Type} : List (Lit × DataW H) → Nat
  | [] => 0
  | x :: r => uptoBulkEntry x + uptoBulkEntries r
def uptoBulkEntry {H : Type} : Lit × DataW H → Nat
  | (.string bytes, d) => bytes.length + uptoBulk d + 1
  | (_, d) => uptoBulk d + 1
 end
def uptoSmall : (H : Type) → List (DataW H) → Bool := fun _ ds => decide (uptoBulkAll ds ≤ 1048576)
def OpenSpec.upto (s : _root_.Go.ChangeSpec) : _root_.Go.OpenSpec := { _root_.Go.OpenSpec.ofChange s with cond := some uptoSmall }

/-- 'postroadlaw01.RatMakes', WHERE WHAT IT READS IS OF BULK AT MOST 1048576: true; the input reads as it did. -/
def ratMakesUptoRow : OpenClaim := { program := "ytdakeenjeieekaa", sum := "34c5f3bb1520b8a18db469d45f5b8687aed15fb81e12a41d7f9414d6bf7f7db6", func := "postroad/postroadlaw01.RatMakes", spec := "ratMakes", inPlace := ["math/bits.Add64", "math/bits.Sub64"], unfollowed := true, recurses := true, named := ["math/bits.divideError", "math/bits.overflowError"], apart := false, narrowed := true }
def RatMakesUptoSaid : Prop := ratMakesUptoRow.holds Try.pinned (OpenSpec.upto ratMakesSpec)

/-- 'postroadlaw01.RatShifts', WHERE WHAT IT READS IS OF BULK AT MOST 1048576: true; the input reads as it did. -/
def ratShiftsUptoRow : OpenClaim := { program := "ytdakeenjeieekaa", sum := "34c5f3bb1520b8a18db469d45f5b8687aed15fb81e12a41d7f9414d6bf7f7db6", func := "postroad/postroadlaw01.RatShifts", spec := "ratShifts", inPlace := ["math/bits.Add64", "math/bits.Sub64"], unfollowed := true, recurses := true, named := ["math/bits.divideError", "math/bits.overflowError"], apart := false, narrowed := true }
def RatShiftsUptoSaid : Prop := ratShiftsUptoRow.holds Try.pinned (OpenSpec.upto ratShiftsSpec)

/-- 'postroadlaw01.RatScales', WHERE WHAT IT READS IS OF BULK AT MOST 1048576: true; the input reads as it did. -/
def ratScalesUptoRow : OpenClaim := { program := "ytdakeenjeieekaa", sum := "34c5f3bb1520b8a18db469d45f5b8687aed15fb81e12a41d7f9414d6bf7f7db6", func := "postroad/postroadlaw01.RatScales", spec := "ratScales", inPlace := ["math/bits.Add64", "math/bits.Sub64"], unfollowed := true, recurses := true, named := ["math/bits.divideError", "math/bits.overflowError"], apart := false, narrowed := true }
def RatScalesUptoSaid : Prop := ratScalesUptoRow.holds Try.pinned (OpenSpec.upto ratScalesSpec)

/-- 'postroadlaw01.RatOps', WHERE WHAT IT READS IS OF BULK AT MOST 1048576: true; the input reads as it did. -/
def ratOpsUptoRow : OpenClaim := { program := "ytdakeenjeieekaa", sum := "34c5f3bb1520b8a18db469d45f5b8687aed15fb81e12a41d7f9414d6bf7f7db6", func := "postroad/postroadlaw01.RatOps", spec := "ratOps", inPlace := ["math/bits.Add64", "math/bits.Sub64"], unfollowed := true, recurses := true, named := ["math/bits.divideError", "math/bits.overflowError"], apart := false, narrowed := true }
def RatOpsUptoSaid : Prop := ratOpsUptoRow.holds Try.pinned (OpenSpec.upto ratOpsSpec)

/-- 'postroadlaw01.RatField', WHERE WHAT IT READS IS OF BULK AT MOST 1048576: true; the input reads as it did. -/
def ratFieldUptoRow : OpenClaim := { program := "ytdakeenjeieekaa", sum := "34c5f3bb1520b8a18db469d45f5b8687aed15fb81e12a41d7f9414d6bf7f7db6", func := "postroad/postroadlaw01.RatField", spec := "ratField", inPlace := ["math/bits.Add64", "math/bits.Sub64"], unfollowed := true, recurses := true, named := ["math/bits.divideError", "math/bits.overflowError"], apart := false, narrowed := true }
def RatFieldUptoSaid : Prop := ratFieldUptoRow.holds Try.pinned (OpenSpec.upto ratFieldSpec)

/-- 'postroadlaw01.RatCompares', WHERE WHAT IT READS IS OF BULK AT MOST 1048576: true; the input reads as it did. -/
def ratComparesUptoRow : OpenClaim := { program := "ytdakeenjeieekaa", sum := "34c5f3bb1520b8a18db469d45f5b8687aed15fb81e12a41d7f9414d6bf7f7db6", func := "postroad/postroadlaw01.RatCompares", spec := "ratCompares", inPlace := ["math/bits.Add64", "math/bits.Sub64"], unfollowed := true, recurses := true, named := ["math/bits.divideError", "math/bits.overflowError"], apart := false, narrowed := true }
def RatComparesUptoSaid : Prop := ratComparesUptoRow.holds Try.pinned (OpenSpec.upto ratComparesSpec)

/-- 'postroadlaw01.RatOrder', WHERE WHAT IT READS IS OF BULK AT MOST 1048576: true; the input reads as it did. -/
def ratOrderUptoRow : OpenClaim := { program := "ytdakeenjeieekaa", sum := "34c5f3bb1520b8a18db469d45f5b8687aed15fb81e12a41d7f9414d6bf7f7db6", func := "postroad/postroadlaw01.RatOrder", spec := "ratOrder", inPlace := ["math/bits.Add64", "math/bits.Sub64"], unfollowed := true, recurses := true, named := ["math/bits.divideError", "math/bits.overflowError"], apart := false, narrowed := true }
def RatOrderUptoSaid : Prop := ratOrderUptoRow.holds Try.pinned (OpenSpec.upto ratOrderSpec)

/-- 'postroadlaw01.RatMany', WHERE WHAT IT READS IS OF BULK AT MOST 1048576: true; the input reads as it did. -/
def ratManyUptoRow : OpenClaim := { program := "ytdakeenjeieekaa", sum := "34c5f3bb1520b8a18db469d45f5b8687aed15fb81e12a41d7f9414d6bf7f7db6", func := "postroad/postroadlaw01.RatMany", spec := "ratMany", inPlace := ["math/bits.Add64", "math/bits.Sub64"], unfollowed := true, recurses := true, named := ["math/bits.divideError", "math/bits.overflowError"], apart := false, narrowed := true }
def RatManyUptoSaid : Prop := ratManyUptoRow.holds Try.pinned (OpenSpec.upto ratManySpec)

end Rows
end Go.Proofs.Ytdakeenjeieekaa
