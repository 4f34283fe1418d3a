/- Chapter 02: Breaks, Keeps. -/
import Derived.Test.YtmnadploikcljaaSpP
set_option linter.unusedVariables false
set_option linter.unusedSimpArgs false
namespace Go.Proofs.Ytmnadploikcljaa
open Go.RowKit

/-- The whole numbers of sendings are int64s. -/
def I64s (l : List (Int × Int)) : Prop := ∀ p ∈ l, (-9223372036854775808 ≤ p.1 ∧ p.1 ≤ 9223372036854775807) ∧ (-9223372036854775808 ≤ p.2 ∧ p.2 ≤ 9223372036854775807)

attribute [local irreducible] at_ sz_ sumF alw

end Go.Proofs.Ytmnadploikcljaa
