/- Chapter 15: Drop. -/
import Derived.Test.YtfiiikgjgcnjgaaFfJ
set_option linter.unusedVariables false
set_option linter.unusedSimpArgs false
namespace Go.Proofs.Ytfiiikgjgcnjgaa
open Go.RowKit

/-- A line without the packets of a flow. -/
def Ln.drop (X : Ln) (fl : Int) : Ln := X.laid (X.all.filter fun x => !isFl fl x) X.ring.length
theorem drop_all (X : Ln) (fl : Int) (h : X.Ok) : (X.drop fl).all = X.all.filter fun x => !isFl fl x := by
  refine laid_all X _ _ ?_
  have := List.length_filter_le (fun x => !isFl fl x) X.all
  have := X.all_length
  have := h.many
  omega
set_option maxRecDepth 100000 in
set_option maxHeartbeats 2000000 in
theorem fdrop_calls (b g : Nat) (X : Ln) (fl : Int) (w : World) (h : IsLn w b g X) :
    Calls Try.prog 22 #[.pointer (some ⟨b, 0, none⟩), .int .i64 fl] w fun e w' => e = .returned (.int .i64 ((X.many : Int) - (X.drop fl).many)) ∧ (∃ g', IsLn w' b g' (X.drop fl) ∧ w.heap.size ≤ g') ∧ Fr (· = b) w w' := by
  have hmf : ∀ (fn : Fn) (first cap : Array Value) (w : World), (Instr.makeFunc fn first cap).run Try.prog w = .ok (.func fn first cap) w := fun _ _ _ _ => rfl
  have hf := (Fr.refl (fun _ => False) w).alloc (.cells #[.int .i64 fl] 2)
  have hk := h.kept0 hf
  have HK := Lib.hid hk
  have HF := Lib.hid hf
  have HN := Lib.hid (fnone_calls b g X _ hk)
  have HBX := Lib.hid (show (w.alloc (.cells #[.int .i64 fl] 2)).cell? ⟨w.heap.size, 0, none⟩ = some (.int .i64 fl) from cell_of_blk (heap_alloc_new w (.cells #[.int .i64 fl] 2)) 0)
  obtain ⟨c, hc1, hc2, hb⟩ := hk.blk
  obtain ⟨_, _, _, c3, _, c5, _⟩ := ln_cells hb
  have HB := Lib.hid hb
  have HL := Lib.hid (lt_of_block (show w.heap[b]? = _ from h.blk.choose_spec.2.2))
  have HMX := Lib.hid (show X.ring.length ≤ 1000000 ∧ X.many ≤ X.ring.length ∧ 1 ≤ X.ring.length from ⟨h.max, h.ok.many, h.ok.len⟩)
  have hmx := h.max
  have hmm := h.ok.many
  have HAL := Lib.hid X.all_length
  have HFL := Lib.hid (List.length_filter_le (fun x => !isFl fl x) X.all)
  have HDD := Lib.hid (show (X.drop fl).many ≤ X.many from by (have h1 := HFL.out; have h2 := HAL.out; show (X.all.filter fun x => !isFl fl x).length ≤ X.many; omega))
  clear hk hb h hf
  go_enter Try.func22, Try.ntmps22
  go_wp2_with (first
    | (go_at_call 28; refine HN.out.mono ?_; rintro e w' ⟨rfl, rfl⟩))
  have HSZ := Lib.hid (show (w.alloc (.cells #[.int .i64 fl] 2)).heap.size = w.heap.size + 1 by simp)
  generalize w.alloc (.cells #[.int .i64 fl] 2) = W at *
  have HALL := Lib.hid (fun w' (h : Fr0 W w') => fall_calls b g X w' (HK.out.kept0 h))
  have HC3 := Lib.hid (fun U (h : Fr0 W U) => h.cell c3 (fun h => h))
  have HBC := Lib.hid (fun U (h : Fr0 W U) => h.cell HBX.out (fun h => h))
  clear c3 c5
  have q0 := HC3.out _ (Fr.refl _ W).drew
  go_region_law ((go_simp; first
      | (go_at_call 19; (with_reducible refine (HALL.out _ (Fr.refl _ W).drew).mono ?_); rintro e wA ⟨⟨f, rfl, hq⟩, hfA⟩; have hfn1 : Fr0 W wA := (Fr.refl _ W).drew.trans hfA; have q1 := HC3.out _ hfn1)
      | (go_at_call 30; (with_reducible refine (fcollect_calls _ _ X.all wA hq (by have := HAL.out; have := HMX.out; omega)).mono ?_); rintro e wC ⟨⟨v, rfl, hown⟩, hfC⟩; have hfn2 : Fr0 W wC := hfn1.trans hfC; have q2 := HC3.out _ hfn2)
      | (go_at_call 37; (with_reducible refine (fdelete_calls wA.heap.size _ X.all w.heap.size fl wC hown (by have := HAL.out; have := HMX.out; omega) (HBC.out _ hfn2) (fun e => by have h1 := (own_blk hown e).1; have := HSZ.out; have := hfn1.size; omega)).mono ?_); rintro e wD ⟨⟨A, cA, rfl, hrd⟩, hfD⟩; have hfn3 : Fr0 W wD := hfn2.then hfD (fun i hi e => by have h1 := (own_blk hown e).1; have := hfn1.size; omega); have q3 := HC3.out _ hfn3)
      | (go_at_call 29; (with_reducible refine (flay_calls b g c X A cA _ X.ring.length wD (hfn3.blk HB.out (fun h => h)) (hrd.mono (fun k hk (e : k = b) => by subst e; have := HL.out; have := HSZ.out; have := hfn1.size; omega)) (HMX.out.2.2) (by have := HFL.out; have := HAL.out; have := HMX.out; omega) HMX.out.1).mono ?_); rintro e wL ⟨rfl, hlay, hfL⟩)))
  all_goals
    have HLY := Lib.hid hlay
    have HFF := Lib.hid ((Fr0.any (HF.out.trans hfn3)).trans hfL)
    have HSS := Lib.hid (show w.heap.size ≤ wD.heap.size from by have := HSZ.out; have := hfn3.size; omega)
    obtain ⟨c', _, _, hbL⟩ := hlay.blk
    have c5 : wL.cell? ⟨b, 5, none⟩ = some (.int .i64 (X.drop fl).many) := (ln_cells hbL).c5
    have hd := HDD.out
    clear hlay hfL hfn3 hfn2 hfn1 hrd hfD hown hfC hq hfA q0 q1 q2 q3 hbL
    go_wp2_with fail
    go_ret
    exact ⟨rfl, ⟨_, HLY.out, HSS.out⟩, HFF.out⟩
end Go.Proofs.Ytfiiikgjgcnjgaa
