/- The row of the law RatMany: for every input that can be read the call returns true, and the arguments read as before; no condition. -/
import Derived.Test.YtdakeenjeieekaaRows
import Derived.Test.YtdakeenjeieekaaOpen
import Derived.Test.YtdakeenjeieekaaRaMa
import Derived.Test.YtdakeenjeieekaaRaO
set_option linter.unusedVariables false
set_option linter.unusedSimpArgs false
namespace Go.Proofs.Ytdakeenjeieekaa.ratMany
open Go.ChangeShapes Go.WideShapes Go.ChangeAt Go.RowKit
open Go.ChangeMaps (open_string shut_string)
theorem own : ownKnob Try.prog.godebug = none := by kernel_rfl
theorem laidOut : laidOutB Try.prog = true := by kernel_rfl
set_option maxRecDepth 100000 in
theorem lifted (os : Os) (started : os.Started) (H : Type) (enc : TypeId × Value → H) :
    ReturnsInHanded {} Try.checked os 10 .any (Rows.ratManySpec.pre6 enc Try.prog Try.f10 Rows.ratManyRow.domain false) (Rows.ratManySpec.post enc Try.prog Try.f10 false true false false) := by
  refine returnsInHanded_of_change_sized (C := Try.checked) own started (by kernel_rfl) Try.func10
    (ChangeSpec.witness6 (enc := enc) (C := Try.checked) false ⟨#[], #[.slice none 0 0], []⟩ 8 (by kernel_rfl) (by kernel_rfl) (by kernel_rfl) (by kernel_rfl)) ?_
  intro W base args ds gs before hval0 hW hcnd hsz0 _
  have hsz : (DataW.weightsEach Try.prog (Try.f10.params.toList ++ Rows.ratManySpec.plain.varTypes Try.prog) (ds ++ gs)).all (· ≤ reachBytes) = true := hsz0
  have hval : ∀ (j : Nat) t v, Try.f10.params[j]? = some t → args[j]? = some v → Value.okWide Try.prog W .any base t v := hval0
  have hW' := hW
  obtain ⟨p, q, hA0, hV, rfl, hfz, hnd⟩ := hW
  have hA : DataW.TrodAll enc Try.prog W 0 (fun _ => true) true Try.f10.params.toList args.toList ds p := hA0
  rw [Try.params10] at hA hval hsz
  obtain ⟨v0, vs0, d0, ds0, p0, q0, hargs, rfl, rfl, h0, r0⟩ := trodAll_cons hA
  obtain ⟨rfl, rfl, rfl⟩ := trodAll_nil r0
  obtain rfl : args = #[v0] := by cases args; simp_all
  obtain ⟨rfl, rfl⟩ := trodVars_none hV
  have k0 := h0
  have lt0 : ∀ x ∈ p0, x.block < W.heap.size := by obtain ⟨m, hm⟩ := k0; exact DataW.trod_lt m _ _ _ hm
  have s0 : SeesV Try.prog W 47 v0 := sees_of h0 hsz 0 rfl rfl
  have o0 : Value.okWide Try.prog W .any base 47 v0 := hval 0 47 v0 rfl rfl
  clear hA0 hval0 hsz0 hsz hval
  obtain ⟨A0, c0, l0, rfl, hlc0, hcm0, hl0, hR0, hi0, hn0⟩ := see_sends Try.underlying47 2 (by kernel_rfl) (by kernel_rfl) o0 s0
  refine (many_walk A0 c0 l0 W hR0 hi0 hlc0).mono fun e W' ⟨he, hfr⟩ => ?_
  have bel := Fr0.below hfr
  subst he
  exact ⟨_, rfl, _, _, _, [], _, [], hW', trodAll_mk1 (shut_bool Try.underlying4 _), (trodAll_cons_mk (Below.trod laidOut (by kernel_rfl) (of_decide_eq_true (by kernel_rfl)) k0 bel lt0) trodAll_mk0), rfl, bel.frame _, fun h => by cases h⟩
theorem over : Rows.ratManyRow.holds Try.pinned (OpenSpec.ofChange Rows.ratManySpec) :=
  OpenClaim.holds_of_wide 10 Try.f10 rfl rfl rfl rfl rfl rfl rfl ⟨rfl, rfl, rfl, rfl, rfl⟩ rfl rfl rfl rfl rfl (by kernel_rfl) Try.func10 (by kernel_rfl)
    (of_decide_eq_true (by kernel_rfl)) (by unfold Func.isWrapper; first | (rw [if_pos (by decide +kernel)]; kernel_rfl) | (rw [if_neg (by decide +kernel)]; exact ⟨rfl, rfl⟩))
    (fun os started H enc _ => lifted os started H enc)
theorem proved : Rows.RatManySaid := over
end Go.Proofs.Ytdakeenjeieekaa.ratMany
namespace Go.Proofs.Ytdakeenjeieekaa
/-- The row, under a short name, for the claim. -/
theorem ratMany_holds : Rows.RatManySaid := ratMany.proved
#print axioms ratMany_holds
end Go.Proofs.Ytdakeenjeieekaa
