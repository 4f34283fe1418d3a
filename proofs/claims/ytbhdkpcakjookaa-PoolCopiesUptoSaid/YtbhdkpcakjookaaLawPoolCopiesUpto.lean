/- The row of the law PoolCopies: for every input of bulk at most 1048576 the call returns true, and the arguments read as before. -/
import Derived.Test.YtbhdkpcakjookaaRows
import Derived.Test.YtbhdkpcakjookaaOpen
import Derived.Test.YtbhdkpcakjookaaUpto
import Derived.Deep.CondSized
import Derived.Test.YtbhdkpcakjookaaPoAd
import Derived.Test.YtbhdkpcakjookaaPoAc
set_option linter.unusedVariables false
set_option linter.unusedSimpArgs false
namespace Go.Proofs.Ytbhdkpcakjookaa.poolCopies
open Go.ChangeShapes Go.WideShapes Go.ChangeAt Go.RowKit
open Go.ChangeMaps (open_string shut_string)
theorem own : ownKnob Try.prog.godebug = none := by kernel_rfl
theorem laidOut : laidOutB Try.prog = true := by kernel_rfl
set_option maxRecDepth 100000 in
theorem lifted (os : Os) (started : os.Started) (H : Type) (enc : TypeId × Value → H) (F : Stop.Interp) :
    ReturnsInHanded {} Try.checked os 7 .any ((Rows.OpenSpec.upto Rows.poolCopiesSpec).pre6 enc Try.prog Try.f7 Rows.poolCopiesUptoRow.domain false) (((Rows.OpenSpec.upto Rows.poolCopiesSpec).at F).post enc Try.prog Try.f7 false true false false) := by
  refine returnsInHanded_of_cond_sized (C := Try.checked) (s := Rows.OpenSpec.upto Rows.poolCopiesSpec) (k := Rows.uptoSmall) rfl own started (by kernel_rfl) Try.func7
    (OpenSpec.witness (enc := enc) (C := Try.checked) (s := Rows.OpenSpec.upto Rows.poolCopiesSpec) (k := Rows.uptoSmall) rfl false ⟨#[], #[.slice none 0 0, .slice none 0 0, .int .i64 0], []⟩ 8 (by kernel_rfl) (by kernel_rfl) (by kernel_rfl)
      (x := ([.nil, .nil, .lit (.int .i64 0)], [], [])) (by kernel_rfl) rfl (by kernel_rfl)) ?_
  intro W base args ds gs before hval0 hW hcnd hkk hsz0 _
  have hsz : (DataW.weightsEach Try.prog (Try.f7.params.toList ++ Rows.poolCopiesSpec.plain.varTypes Try.prog) (ds ++ gs)).all (· ≤ reachBytes) = true := hsz0
  have hval : ∀ (j : Nat) t v, Try.f7.params[j]? = some t → args[j]? = some v → Value.okWide Try.prog W .any base t v := hval0
  have hW' := hW
  obtain ⟨p, q, hA0, hV, rfl, hfz, hnd⟩ := hW
  have hA : DataW.TrodAll enc Try.prog W 0 (fun _ => true) true Try.f7.params.toList args.toList ds p := hA0
  rw [Try.params7] at hA hval hsz
  obtain ⟨v0, vs0, d0, ds0, p0, q0, hargs, rfl, rfl, h0, r0⟩ := trodAll_cons hA
  obtain ⟨v1, vs1, d1, ds1, p1, q1, rfl, rfl, rfl, h1, r1⟩ := trodAll_cons r0
  obtain ⟨v2, vs2, d2, ds2, p2, q2, rfl, rfl, rfl, h2, r2⟩ := trodAll_cons r1
  obtain ⟨rfl, rfl, rfl⟩ := trodAll_nil r2
  obtain rfl : args = #[v0, v1, v2] := by cases args; simp_all
  obtain ⟨rfl, rfl⟩ := trodVars_none hV
  have k0 := h0
  have lt0 : ∀ x ∈ p0, x.block < W.heap.size := by obtain ⟨m, hm⟩ := k0; exact DataW.trod_lt m _ _ _ hm
  have s0 : SeesV Try.prog W 42 v0 := sees_of h0 hsz 0 rfl rfl
  have o0 : Value.okWide Try.prog W .any base 42 v0 := hval 0 42 v0 rfl rfl
  have k1 := h1
  have lt1 : ∀ x ∈ p1, x.block < W.heap.size := by obtain ⟨m, hm⟩ := k1; exact DataW.trod_lt m _ _ _ hm
  have s1 : SeesV Try.prog W 42 v1 := sees_of h1 hsz 1 rfl rfl
  have o1 : Value.okWide Try.prog W .any base 42 v1 := hval 1 42 v1 rfl rfl
  have k2 := h2
  have lt2 : ∀ x ∈ p2, x.block < W.heap.size := by obtain ⟨m, hm⟩ := k2; exact DataW.trod_lt m _ _ _ hm
  have s2 : SeesV Try.prog W 3 v2 := sees_of h2 hsz 2 rfl rfl
  have o2 : Value.okWide Try.prog W .any base 3 v2 := hval 2 3 v2 rfl rfl
  clear hA0 hval0 hsz0 hsz hval
  obtain ⟨A0, c0, l0, rfl, hlc0, hcm0, hl0, hR0, hk0, hn0⟩ := see_racts2 o0 s0
  have hb0 := bulk_slice Try.underlying42 h0
  have hm0 : l0.length ≤ 1048576 := Nat.le_trans hb0 (Nat.le_trans (bulk_part (by simp)) (bulk_small hkk))
  obtain ⟨A1, c1, l1, rfl, hlc1, hcm1, hl1, hR1, hk1, hn1⟩ := see_racts2 o1 s1
  have hb1 := bulk_slice Try.underlying42 h1
  have hm1 : l1.length ≤ 1048576 := Nat.le_trans hb1 (Nat.le_trans (bulk_part (by simp)) (bulk_small hkk))
  obtain ⟨z2, rfl, wz2⟩ := see_int Try.underlying3 o2 s2
  have bz2 := wf_i64 wz2
  refine (pcopies_walk A0 c0 l0 A1 c1 l1 z2 W hR0 hR1 hk0 hk1 hm0 hm1 hn0 hn1).mono fun e W' ⟨he, hfr⟩ => ?_
  have bel := Fr0.below hfr
  subst he
  exact ⟨_, rfl, _, _, _, [], _, [], hW', trodAll_mk1 (shut_bool Try.underlying4 _), (trodAll_cons_mk (Below.trod laidOut (by kernel_rfl) (of_decide_eq_true (by kernel_rfl)) k0 bel lt0) (trodAll_cons_mk (Below.trod laidOut (by kernel_rfl) (of_decide_eq_true (by kernel_rfl)) k1 bel lt1) (trodAll_cons_mk (Below.trod laidOut (by kernel_rfl) (of_decide_eq_true (by kernel_rfl)) k2 bel lt2) trodAll_mk0))), rfl, bel.frame _, fun h => by cases h⟩
theorem over : Rows.poolCopiesUptoRow.holds Try.pinned (Rows.OpenSpec.upto Rows.poolCopiesSpec) :=
  OpenClaim.holds_of_cond 7 Try.f7 rfl rfl rfl rfl rfl rfl rfl ⟨rfl, rfl, rfl, rfl, rfl⟩ rfl rfl rfl rfl rfl (by kernel_rfl) Try.func7 (by kernel_rfl)
    (of_decide_eq_true (by kernel_rfl)) (by unfold Func.isWrapper; first | (rw [if_pos (by decide +kernel)]; kernel_rfl) | (rw [if_neg (by decide +kernel)]; exact ⟨rfl, rfl⟩))
    (fun os started H enc _ F => lifted os started H enc F)
theorem proved : Rows.PoolCopiesUptoSaid := over
end Go.Proofs.Ytbhdkpcakjookaa.poolCopies
namespace Go.Proofs.Ytbhdkpcakjookaa
/-- The row, under a short name, for the claim. -/
theorem poolCopiesUpto_holds : Rows.PoolCopiesUptoSaid := poolCopies.proved
#print axioms poolCopiesUpto_holds
end Go.Proofs.Ytbhdkpcakjookaa
