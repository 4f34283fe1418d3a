/- The row of the law BoundMore: for every input that can be read the call returns true, and the arguments read as before; no condition. -/
import Derived.Test.YtjldogfpccbkeaaRows
import Derived.Test.YtjldogfpccbkeaaM1
import Derived.Test.YtjldogfpccbkeaaBdM
import Derived.Test.YtjldogfpccbkeaaBdO
set_option linter.unusedVariables false
set_option linter.unusedSimpArgs false
namespace Go.Proofs.Ytjldogfpccbkeaa.boundMore
open Go.ChangeShapes Go.WideShapes Go.ChangeAt Go.RowKit
open Go.ChangeMaps (open_string shut_string)
theorem own : ownKnob Try.prog.godebug = none := by kernel_rfl
theorem laidOut : laidOutB Try.prog = true := by kernel_rfl
set_option maxRecDepth 100000 in
theorem lifted (os : Os) (started : os.Started) (H : Type) (enc : TypeId × Value → H) :
    ReturnsInHanded {} Try.checked os 7 .any (Rows.boundMoreSpec.pre6 enc Try.prog Try.f7 Rows.boundMoreRow.domain false) (Rows.boundMoreSpec.post enc Try.prog Try.f7 false true false false) := by
  refine returnsInHanded_of_change_sized (C := Try.checked) own started (by kernel_rfl) Try.func7
    (ChangeSpec.witness6 (enc := enc) (C := Try.checked) false ⟨#[], #[.agg #[.int .i64 1, .int .i64 1, .int .i64 1, .int .i64 1, .int .i64 1], .int .i64 0, .agg #[.int .i64 0, .int .i64 0, .int .i64 0, .int .i64 0]], []⟩ 8 (by kernel_rfl) (by kernel_rfl) (by kernel_rfl) (by kernel_rfl)) ?_
  intro W base args ds gs before hval0 hW hcnd hsz0 _
  have hsz : (DataW.weightsEach Try.prog (Try.f7.params.toList ++ Rows.boundMoreSpec.plain.varTypes Try.prog) (ds ++ gs)).all (· ≤ reachBytes) = true := hsz0
  have hval : ∀ (j : Nat) t v, Try.f7.params[j]? = some t → args[j]? = some v → Value.okWide Try.prog W .any base t v := hval0
  have hW' := hW
  obtain ⟨p, q, hA0, hV, rfl, hfz, hnd⟩ := hW
  have hA : DataW.TrodAll enc Try.prog W 0 (fun _ => true) true Try.f7.params.toList args.toList ds p := hA0
  rw [Try.params7] at hA hval hsz
  obtain ⟨v0, vs0, d0, ds0, p0, q0, hargs, rfl, rfl, h0, r0⟩ := trodAll_cons hA
  obtain ⟨v1, vs1, d1, ds1, p1, q1, rfl, rfl, rfl, h1, r1⟩ := trodAll_cons r0
  obtain ⟨v2, vs2, d2, ds2, p2, q2, rfl, rfl, rfl, h2, r2⟩ := trodAll_cons r1
  obtain ⟨rfl, rfl, rfl⟩ := trodAll_nil r2
  obtain rfl : args = #[v0, v1, v2] := by cases args; simp_all
  obtain ⟨rfl, rfl⟩ := trodVars_none hV
  have k0 := h0
  have lt0 : ∀ x ∈ p0, x.block < W.heap.size := by obtain ⟨m, hm⟩ := k0; exact DataW.trod_lt m _ _ _ hm
  have s0 : SeesV Try.prog W 23 v0 := sees_of h0 hsz 0 rfl rfl
  have o0 : Value.okWide Try.prog W .any base 23 v0 := hval 0 23 v0 rfl rfl
  have k1 := h1
  have lt1 : ∀ x ∈ p1, x.block < W.heap.size := by obtain ⟨m, hm⟩ := k1; exact DataW.trod_lt m _ _ _ hm
  have s1 : SeesV Try.prog W 2 v1 := sees_of h1 hsz 1 rfl rfl
  have o1 : Value.okWide Try.prog W .any base 2 v1 := hval 1 2 v1 rfl rfl
  have k2 := h2
  have lt2 : ∀ x ∈ p2, x.block < W.heap.size := by obtain ⟨m, hm⟩ := k2; exact DataW.trod_lt m _ _ _ hm
  have s2 : SeesV Try.prog W 65 v2 := sees_of h2 hsz 2 rfl rfl
  have o2 : Value.okWide Try.prog W .any base 65 v2 := hval 2 65 v2 rfl rfl
  clear hA0 hval0 hsz0 hsz hval
  obtain ⟨cs0, rfl, hf0⟩ := see_flat (ks := [.i64, .i64, .i64, .i64, .i64]) (.inl ⟨_, Try.underlying23⟩) 2 (by kernel_rfl) o0 s0
  obtain ⟨sp0, rfl, hsp0⟩ := spec_of_flat hf0
  obtain ⟨z1, rfl, wz1⟩ := see_int Try.underlying2 o1 s1
  have bz1 := wf_i64 wz1
  obtain ⟨cs2, rfl, hf2⟩ := see_flat (ks := [.i64, .i64, .i64, .i64]) (.inr ⟨_, _, Try.underlying65⟩) 3 (by kernel_rfl) o2 s2
  obtain ⟨x2, y2, z2, u2, rfl, wx2, wy2, wz2, wu2⟩ := four_of_flat hf2
  refine (more_walk sp0 z1 x2 y2 z2 u2 hsp0 W).mono fun e W' ⟨he, hfr⟩ => ?_
  have bel := Fr0.below hfr
  subst he
  exact ⟨_, rfl, _, _, _, [], _, [], hW', trodAll_mk1 (shut_bool Try.underlying4 _), (trodAll_cons_mk (Below.trod laidOut (by kernel_rfl) (of_decide_eq_true (by kernel_rfl)) k0 bel lt0) (trodAll_cons_mk (Below.trod laidOut (by kernel_rfl) (of_decide_eq_true (by kernel_rfl)) k1 bel lt1) (trodAll_cons_mk (Below.trod laidOut (by kernel_rfl) (of_decide_eq_true (by kernel_rfl)) k2 bel lt2) trodAll_mk0))), rfl, bel.frame _, fun h => by cases h⟩
theorem over : Rows.boundMoreRow.holds Try.pinned (OpenSpec.ofChange Rows.boundMoreSpec) :=
  OpenClaim.holds_of_wide 7 Try.f7 rfl rfl rfl rfl rfl rfl rfl ⟨rfl, rfl, rfl, rfl, rfl⟩ rfl rfl rfl rfl rfl (by kernel_rfl) Try.func7 (by kernel_rfl)
    (of_decide_eq_true (by kernel_rfl)) (by unfold Func.isWrapper; first | (rw [if_pos (by decide +kernel)]; kernel_rfl) | (rw [if_neg (by decide +kernel)]; exact ⟨rfl, rfl⟩))
    (fun os started H enc _ => lifted os started H enc)
theorem proved : Rows.BoundMoreSaid := over
end Go.Proofs.Ytjldogfpccbkeaa.boundMore
namespace Go.Proofs.Ytjldogfpccbkeaa
/-- The row, under a short name, for the claim. -/
theorem boundMore_holds : Rows.BoundMoreSaid := boundMore.proved
#print axioms boundMore_holds
end Go.Proofs.Ytjldogfpccbkeaa
