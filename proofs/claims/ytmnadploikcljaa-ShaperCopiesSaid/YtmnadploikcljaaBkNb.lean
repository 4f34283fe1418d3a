/- Chapter 12: the document's bucket: Asked, Keeps, walked by hand. -/
import Derived.Test.YtmnadploikcljaaBkM
import Derived.Test.YtmnadploikcljaaScp
import Derived.Deep.AppendLies
set_option linter.unusedVariables false
set_option linter.unusedSimpArgs false
namespace Go.Proofs.Ytmnadploikcljaa
open Go.RowKit
attribute [local go_sem] Oper.semAt_some

/-- The document's bucket, as a value: a spec, a row of sendings, a tick. -/
abbrev rbc (s : Sp) (A : Option Addr) (n c : Nat) (now : Int) : Array Value := #[.int .i64 s.peak, .int .i64 s.rate, .int .i64 s.burst, .int .i64 s.most, .int .i64 s.least, .slice A n c, .int .i64 now]
theorem rasked_calls (s : Sp) (A : Option Addr) (n c : Nat) (now t : Int) (w : World) :
    Calls Try.prog 53 #[.agg (rbc s A n c now), .int .i64 t] w fun e w' => e = .returned (.int .i64 (if now ≤ t ∧ t ≤ 2147483647 then 0 else 2)) ∧ Fr0 w w' := by
  have HB := Lib.hid (heap_alloc_new w (.cells (rbc s A n c now) 49))
  have c6 : (w.alloc (.cells (rbc s A n c now) 49)).cell? ⟨w.heap.size, 6, none⟩ = some (.int .i64 now) := cell_of_blk HB.out 6
  have HF := Lib.hid ((Fr.refl (fun _ => False) w).alloc (.cells (rbc s A n c now) 49))
  by_cases h1 : t < now
  · rw [if_neg (by omega)]
    go_enter Try.func53, Try.ntmps53
    go_wp2_with fail
    go_ret
    exact ⟨rfl, HF.out⟩
  · by_cases h2 : 2147483647 < t
    · rw [if_neg (by omega)]
      go_enter Try.func53, Try.ntmps53
      go_wp2_with fail
      go_ret
      exact ⟨rfl, HF.out⟩
    · rw [if_pos (by omega)]
      go_enter Try.func53, Try.ntmps53
      go_wp2_with fail
      go_ret
      exact ⟨rfl, HF.out⟩

set_option maxHeartbeats 2000000 in
theorem rbkeeps_calls (s : Sp) (A : Option Addr) (c : Nat) (l : List (Int × Int)) (now t z : Int) (w : World) (hR : Rd (fun _ => False) w A (sends l)) (hl : l.length ≤ 100) (hc : l.length ≤ c) (hr : s.Right) :
    Calls Try.prog 54 #[.agg (rbc s A l.length c now), .int .i64 t, .int .i64 z] w fun e w' => e = .returned (.bool (decide (Keeps s (l ++ [(t, z)])))) ∧ Fr0 w w' := by
  have hmx : Try.prog.follows .mixedOrders = true := by kernel_rfl
  have HB := Lib.hid (heap_alloc_new w (.cells (rbc s A l.length c now) 49))
  have hf := (Fr.refl (fun _ => False) w).alloc (.cells (rbc s A l.length c now) 49)
  have HF := Lib.hid hf
  have HR := Lib.hid (hR.kept hf)
  have HKP := Lib.hid (fun A c U h => rkeeps_calls s A c (l ++ [(t, z)]) U h (by simp; omega) hr)
  have HA : Hid (A = none → l.length = 0) := Lib.hid (fun e => by
    subst e
    rcases Nat.eq_zero_or_pos l.length with h | h
    · exact h
    · obtain ⟨_, _, e⟩ := hR.some_ (by rw [sends_length]; omega)
      cases e)
  have HSL : Hid ((sends l).length = l.length * 2) := Lib.hid (by rw [sends_length]; omega)
  clear hR hf
  go_enter Try.func54, Try.ntmps54
  go_wp2_with fail
  generalize w.alloc (.cells (rbc s A l.length c now) 49) = W at *
  have HKC := Lib.hid (fun U (h : Fr0 W U) => (show U.cell? ⟨w.heap.size, 0, none⟩ = some (.int .i64 s.peak) ∧ U.cell? ⟨w.heap.size, 1, none⟩ = some (.int .i64 s.rate) ∧ U.cell? ⟨w.heap.size, 2, none⟩ = some (.int .i64 s.burst) ∧ U.cell? ⟨w.heap.size, 3, none⟩ = some (.int .i64 s.most) ∧ U.cell? ⟨w.heap.size, 4, none⟩ = some (.int .i64 s.least) ∧ U.cell? ⟨w.heap.size, 5, none⟩ = some (.slice A l.length c) from
    ⟨cell_of_blk (h.blk HB.out (fun h => h)) 0, cell_of_blk (h.blk HB.out (fun h => h)) 1, cell_of_blk (h.blk HB.out (fun h => h)) 2, cell_of_blk (h.blk HB.out (fun h => h)) 3, cell_of_blk (h.blk HB.out (fun h => h)) 4, cell_of_blk (h.blk HB.out (fun h => h)) 5⟩))
  have hd0 : Fr0 W W.drew := (Fr.refl _ W).drew
  have hda : ∀ o, Fr0 W (W.alloc o).drew := fun o => ((Fr.refl _ W).alloc o).drew
  obtain ⟨c0, c1, c2, c3, c4, c5⟩ := HKC.out _ hd0
  have c0a := fun o => (HKC.out _ ((Fr.refl _ W).alloc o)).1
  have c1a := fun o => (HKC.out _ ((Fr.refl _ W).alloc o)).2.1
  have c2a := fun o => (HKC.out _ ((Fr.refl _ W).alloc o)).2.2.1
  have c3a := fun o => (HKC.out _ ((Fr.refl _ W).alloc o)).2.2.2.1
  have c4a := fun o => (HKC.out _ ((Fr.refl _ W).alloc o)).2.2.2.2.1
  have c5a := fun o => (HKC.out _ ((Fr.refl _ W).alloc o)).2.2.2.2.2
  have HRD := Lib.hid (HR.out.kept hd0)
  have HRA := Lib.hid (fun o => HR.out.kept (hda o))
  go_region_law (first
    | (refine step_app rfl (.const (.slice none 0 0)) (.tmp 10) _ rfl Try.underlying31 send_elem (base := W.heap.size) (.slice none 0 0) 0 [] rfl (own_nil _ _ _ _) (fun _ => False) A l.length c (sends l) rfl (by first | exact HRD.out | exact HRA.out _) HSL.out (sends_one _) (by simp only [maxLen]; omega) (by omega) (by first | exact hd0.size | exact (hda _).size) HA.out ?_; intro v1 w3 hown1 hg1 hat1; have hfn3 := Fr.grown (Fr.refl (fun _ => False) _) hg1 (by simp [Value.ownBlock]); have hfr3 : Fr0 W w3 := (by first | exact hd0.trans hfn3 | exact (hda _).trans hfn3); obtain ⟨c0', c1', c2', c3', c4', c5'⟩ := HKC.out _ hfr3; have d0a := fun o => (HKC.out _ (hfr3.alloc o)).1; have d1a := fun o => (HKC.out _ (hfr3.alloc o)).2.1; have d2a := fun o => (HKC.out _ (hfr3.alloc o)).2.2.1; have d3a := fun o => (HKC.out _ (hfr3.alloc o)).2.2.2.1; have d4a := fun o => (HKC.out _ (hfr3.alloc o)).2.2.2.2.1)
    | (refine step_app rfl (.tmp 11) (.tmp 15) _ rfl Try.underlying31 send_elem (base := W.heap.size) v1 (0 + l.length) ([] ++ sends l) rfl (by first | exact hown1 | exact own_kept0 hown1 ((Fr.refl _ w3).alloc _)) (fun _ => False) _ 1 1 (sends [(t, z)]) rfl (by first | exact rd_send1 _ w3 _ _ _ (fun h => h) | exact Rd.kept (Rd.kept (rd_send1 _ W _ _ _ (fun h => h)) (Fr.refl _ _).drew) hfn3) rfl (sends_one _) (by simp only [maxLen]; omega) (by omega) (by have := hfr3.size; first | exact this | (simp; omega)) (by simp) ?_; intro v2 w4 hown2 hg2 hat2; rw [Nat.zero_add, List.nil_append, ← sends_append] at hown2; obtain ⟨A2, c2x, rfl, hlc2, hcm2⟩ := own_form hown2; have hfr4 : Fr0 W w4 := Fr.grown (by first | exact hfr3.alloc _ | exact hfr3) hg2 (fun g hg e => by have := (own_blk hown1 e).1; omega); obtain ⟨e0', e1', e2', e3', e4', e5'⟩ := HKC.out _ hfr4; have HKR := Lib.hid (own_rd (fun _ => False) hown2 (fun _ _ _ h => h)))
    | (go_simp; go_at_call 13; have hkp := HKP.out A2 c2x w4 HKR.out; rw [List.length_append, List.length_cons, List.length_nil, Nat.zero_add] at hkp; (with_reducible refine hkp.mono ?_); rintro e w5 ⟨rfl, hf5⟩))
  all_goals
    go_wp2_with fail
    go_ret
    exact ⟨rfl, HF.out.trans (hfr4.trans hf5)⟩
end Go.Proofs.Ytmnadploikcljaa
