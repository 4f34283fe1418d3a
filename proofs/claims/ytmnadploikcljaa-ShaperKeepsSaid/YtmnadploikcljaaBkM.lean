/- Chapter 12: the statement BucketRests walked. -/
import Derived.Test.YtmnadploikcljaaBkI
set_option linter.unusedVariables false
set_option linter.unusedSimpArgs false
namespace Go.Proofs.Ytmnadploikcljaa
open Go.RowKit

theorem rd_new (S : Nat → Prop) (w : World) (vs : List Value) (t : TypeId) (hS : ¬ S w.heap.size) : Rd S (w.alloc (.cells vs.toArray t)) (some ⟨w.heap.size, 0, none⟩) vs := by
  refine .inr ⟨_, 0, rfl, hS, fun i hi => ?_⟩
  have := cell_of_blk (heap_alloc_new w (.cells vs.toArray t)) (0 + i)
  rw [this, Nat.zero_add]
  simp [hi]
theorem send_elem : Elem Try.prog 40 2 16 := Elem.of (.agg #[.int .i64 0, .int .i64 0]) (by kernel_rfl) rfl (by decide)
theorem sends_one (l : List (Int × Int)) : ∀ u ∈ sends l, u.oneCell' = true := by
  intro u hu
  simp only [sends, List.mem_flatMap] at hu
  obtain ⟨p, _, hu⟩ := hu
  simp only [List.mem_cons, List.not_mem_nil, or_false] at hu
  rcases hu with rfl | rfl <;> rfl
theorem rd_send1 (S : Nat → Prop) (w : World) (a b : Int) (t : TypeId) (hS : ¬ S w.heap.size) : Rd S (w.alloc (.cells #[.int .i64 a, .int .i64 b] t)) (some ⟨w.heap.size, 0, none⟩) (sends [(a, b)]) := rd_new S w [.int .i64 a, .int .i64 b] t hS

/-- When all is there again. -/
def restT (s : Sp) (B : Bk) : Int := B.now + s.burst / s.rate + s.most / s.peak + 2
theorem rest_full {s : Sp} {l : List (Int × Int)} {B : Bk} (h : BkOf s l B) (hr : restT s B ≤ 2147483647) : hasA B (restT s B) = (s.burst, s.most, 0) := by
  obtain ⟨q1, q2, q3, q4, q5, q6, q7, q8⟩ := h.right
  have d0 := Int.ediv_nonneg (show 0 ≤ s.burst by omega) (show 0 ≤ s.rate by omega)
  have d1 := Int.ediv_nonneg (show 0 ≤ s.most by omega) (show 0 ≤ s.peak by omega)
  have m0 := Int.lt_ediv_add_one_mul_self s.burst (show 0 < s.rate by omega)
  have m1 := Int.lt_ediv_add_one_mul_self s.most (show 0 < s.peak by omega)
  have hm : B.may (restT s B) := ⟨by unfold restT; omega, hr⟩
  unfold hasA
  rw [if_pos hm]
  have p0 := h.p0
  have p1 := h.p1
  have e0 : restT s B - B.now = (s.burst / s.rate + 1) + (s.most / s.peak + 1) := by unfold restT; omega
  have x0 := Int.mul_nonneg (show 0 ≤ s.rate by omega) (show 0 ≤ s.most / s.peak + 1 by omega)
  have x1 := Int.mul_nonneg (show 0 ≤ s.peak by omega) (show 0 ≤ s.burst / s.rate + 1 by omega)
  rw [Int.mul_comm] at m0 m1
  simp only [Bk.adv, K3.adv, h.k0.1, h.k0.2, h.k1.1, h.k1.2, e0, Int.mul_add s.rate (s.burst / s.rate + 1), Int.mul_add s.peak (s.burst / s.rate + 1), Prod.mk.injEq, and_true]
  omega
theorem lTk_yes {s : Sp} {l : List (Int × Int)} {B : Bk} {t z : Int} (h : okTk s l B t z) : lTk s l B t z = l ++ [(t, z)] := by
  unfold lTk lTake; rw [if_pos h.1, if_pos h.2]
theorem lTk_no {s : Sp} {l : List (Int × Int)} {B : Bk} {t z : Int} (h : ¬ okTk s l B t z) : lTk s l B t z = l := by
  unfold lTk lTake
  by_cases hm : B.may t
  · rw [if_pos hm, if_neg (fun hk => h ⟨hm, hk⟩)]
  · rw [if_neg hm]
theorem askA_yes {s : Sp} {l : List (Int × Int)} {B : Bk} {t z : Int} (h : okTk s l B t z) : askA B t = 0 := if_pos h.1

end Go.Proofs.Ytmnadploikcljaa
