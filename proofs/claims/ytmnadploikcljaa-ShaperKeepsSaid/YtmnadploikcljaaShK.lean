/- Chapter 13: Same, where one is not there; nothing to go over. -/
import Derived.Test.YtmnadploikcljaaShJ
import Derived.Test.YtmnadploikcljaaShG
set_option linter.unusedVariables false
set_option linter.unusedSimpArgs false
namespace Go.Proofs.Ytmnadploikcljaa
open Go.RowKit
attribute [local go_sem] Oper.semAt_some

theorem ssame_no (v u : Value) (w : World) (h : NoSh w v) (h2 : NoSh w u) : Calls Try.prog 22 #[v, u] w fun e w' => e = .returned (.bool true) ∧ w = w' := by
  have HN := Lib.hid (snone_no v w h)
  have HN2 := Lib.hid (snone_no u w h2)
  clear h h2
  go_enter Try.func22, Try.ntmps22
  go_wp2_with (go_at_call 27; first | ((with_reducible refine HN.out.mono ?_); rintro e w' ⟨rfl, rfl⟩) | ((with_reducible refine HN2.out.mono ?_); rintro e w' ⟨rfl, rfl⟩))
  go_ret
  exact ⟨rfl, rfl⟩
theorem ssame_nil (b m : Nat) (X : Sh) (u : Value) (w : World) (h : IsSh w b m X) (h2 : NoSh w u) : Calls Try.prog 22 #[.pointer (some ⟨b, 0, none⟩), u] w fun e w' => e = .returned (.bool false) ∧ w = w' := by
  have HN := Lib.hid (snone_calls b m X w h)
  have HN2 := Lib.hid (snone_no u w h2)
  clear h h2
  go_enter Try.func22, Try.ntmps22
  go_wp2_with (go_at_call 27; first | ((with_reducible refine HN.out.mono ?_); rintro e w' ⟨rfl, rfl⟩) | ((with_reducible refine HN2.out.mono ?_); rintro e w' ⟨rfl, rfl⟩))
  go_ret
  exact ⟨rfl, rfl⟩
theorem some13_calls (w : World) : Calls Try.prog 24 #[] w fun e w' => e = .returned (spv knP) ∧ Fr0 w w' := some12_calls w
end Go.Proofs.Ytmnadploikcljaa
