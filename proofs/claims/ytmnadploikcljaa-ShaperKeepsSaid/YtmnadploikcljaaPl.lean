/- Sendings, in plain: taken, with one more behind. -/
import Derived.Test.YtmnadploikcljaaSpE
set_option linter.unusedVariables false
set_option linter.unusedSimpArgs false
namespace Go.Proofs.Ytmnadploikcljaa
open Go.RowKit

theorem Rd.sub {S : Nat → Prop} {w : World} {A : Option Addr} {vs us : List Value} (h : Rd S w A vs) (hp : us <+: vs) : Rd S w A us := by
  rcases h with h | ⟨b, off, e, hs, h⟩
  · subst h
    exact .inl (List.prefix_nil.1 hp)
  · refine .inr ⟨b, off, e, hs, fun i hi => ?_⟩
    rw [h i (Nat.lt_of_lt_of_le hi hp.length_le), hp.getElem hi]
theorem sends_append (a b : List (Int × Int)) : sends (a ++ b) = sends a ++ sends b := by simp [sends]
theorem sends_take (l : List (Int × Int)) (m : Nat) : sends (l.take m) <+: sends l := by
  refine ⟨sends (l.drop m), ?_⟩
  rw [← sends_append, List.take_append_drop]
theorem at_take (l : List (Int × Int)) (m i : Nat) (h : i < m) : at_ (l.take m) i = at_ l i := by
  simp [at_, List.getElem?_take, h]
theorem sz_take (l : List (Int × Int)) (m i : Nat) (h : i < m) : sz_ (l.take m) i = sz_ l i := by
  simp [sz_, List.getElem?_take, h]
theorem sumF_take (l : List (Int × Int)) (m k n : Nat) (h : n ≤ m) : sumF (l.take m) k n = sumF l k n := by
  simp [sumF, List.take_take, Nat.min_eq_left h]
theorem good_take (s : Sp) (l : List (Int × Int)) (m i : Nat) (h : i < m) : Good s (l.take m) i ↔ Good s l i := by
  rw [good_iff, good_iff, at_take l m i h, sz_take l m i h]
  have e1 : ∀ k, k < i + 1 → (sumF (l.take m) k (i + 1) ≤ alw s (at_ l i - at_ (l.take m) k) ↔ sumF l k (i + 1) ≤ alw s (at_ l i - at_ l k)) := fun k hk => by
    rw [at_take l m k (by omega), sumF_take l m k (i + 1) (by omega)]
  have e2 : 0 < i → at_ (l.take m) (i - 1) = at_ l (i - 1) := fun h0 => at_take l m (i - 1) (by omega)
  constructor
  · rintro ⟨a, b, c, d⟩
    exact ⟨a, b, fun h0 => by rw [← e2 h0]; exact c h0, fun k hk => (e1 k hk).1 (d k hk)⟩
  · rintro ⟨a, b, c, d⟩
    exact ⟨a, b, fun h0 => by rw [e2 h0]; exact c h0, fun k hk => (e1 k hk).2 (d k hk)⟩
theorem keeps_take (s : Sp) (l : List (Int × Int)) (n : Nat) (hn : n < l.length) (hg : ∀ i, i < n → Good s l i) : Keeps s (l.take (n + 1)) ↔ Good s l n := by
  have hlen : (l.take (n + 1)).length = n + 1 := by simp; omega
  constructor
  · intro h
    exact (good_take s l (n + 1) n (by omega)).1 (h n (by omega))
  · intro h i hi
    rw [hlen] at hi
    rw [good_take s l (n + 1) i hi]
    by_cases e : i = n
    · subst e; exact h
    · exact hg i (by omega)

theorem at_app (l : List (Int × Int)) (x : Int × Int) (i : Nat) (h : i < l.length) : at_ (l ++ [x]) i = at_ l i := by simp [at_, List.getElem?_append_left h]
theorem sz_app (l : List (Int × Int)) (x : Int × Int) (i : Nat) (h : i < l.length) : sz_ (l ++ [x]) i = sz_ l i := by simp [sz_, List.getElem?_append_left h]
theorem at_new (l : List (Int × Int)) (x : Int × Int) : at_ (l ++ [x]) l.length = x.1 := by simp [at_]
theorem sz_new (l : List (Int × Int)) (x : Int × Int) : sz_ (l ++ [x]) l.length = x.2 := by simp [sz_]
theorem sumF_app (l : List (Int × Int)) (x : Int × Int) (k n : Nat) (h : n ≤ l.length) : sumF (l ++ [x]) k n = sumF l k n := by
  simp only [sumF]
  rw [List.take_append_of_le_length h]
theorem good_app (s : Sp) (l : List (Int × Int)) (x : Int × Int) (i : Nat) (h : i < l.length) : Good s (l ++ [x]) i ↔ Good s l i := by
  have := good_take s (l ++ [x]) l.length i h
  rw [List.take_left] at this
  exact this.symm
theorem sumF_new (l : List (Int × Int)) (x : Int × Int) (k : Nat) (h : k ≤ l.length) : sumF (l ++ [x]) k (l.length + 1) = sumF l k l.length + x.2 := by
  rw [sumF_snoc _ _ _ h (by simp), sz_new, sumF_app _ _ _ _ (Nat.le_refl _)]
/-- The new one keeps, as what is there bears it. -/
theorem good_new (s : Sp) (l : List (Int × Int)) (x : Int × Int) : Good s (l ++ [x]) l.length ↔ ((0 ≤ x.1 ∧ x.1 ≤ 2147483647) ∧ (s.least ≤ x.2 ∧ x.2 ≤ s.most) ∧ (0 < l.length → at_ l (l.length - 1) ≤ x.1) ∧ x.2 ≤ alw s 0 ∧ ∀ k, k < l.length → sumF l k l.length + x.2 ≤ alw s (x.1 - at_ l k)) := by
  rw [good_iff, at_new, sz_new]
  have e1 : ∀ k, k < l.length → (sumF (l ++ [x]) k (l.length + 1) ≤ alw s (x.1 - at_ (l ++ [x]) k) ↔ sumF l k l.length + x.2 ≤ alw s (x.1 - at_ l k)) := fun k hk => by
    rw [sumF_new _ _ _ (by omega), at_app _ _ _ hk]
  have e2 : sumF (l ++ [x]) l.length (l.length + 1) ≤ alw s (x.1 - at_ (l ++ [x]) l.length) ↔ x.2 ≤ alw s 0 := by
    rw [sumF_new _ _ _ (Nat.le_refl _), at_new, sumF_self, Int.sub_self, Int.zero_add]
  have e3 : 0 < l.length → at_ (l ++ [x]) (l.length - 1) = at_ l (l.length - 1) := fun h => at_app _ _ _ (by omega)
  constructor
  · rintro ⟨a, b, c, d⟩
    exact ⟨a, b, fun h => by rw [← e3 h]; exact c h, e2.1 (d _ (by omega)), fun k hk => (e1 k hk).1 (d k (by omega))⟩
  · rintro ⟨a, b, c, d, e⟩
    refine ⟨a, b, fun h => by rw [e3 h]; exact c h, fun k hk => ?_⟩
    by_cases h : k = l.length
    · subst h; exact e2.2 d
    · exact (e1 k (by omega)).2 (e k (by omega))
theorem keeps_snoc (s : Sp) (l : List (Int × Int)) (x : Int × Int) (h : Keeps s l) : Keeps s (l ++ [x]) ↔ Good s (l ++ [x]) l.length := by
  constructor
  · intro hk
    exact hk _ (by simp)
  · intro hg i hi
    simp at hi
    by_cases e : i = l.length
    · subst e; exact hg
    · exact (good_app s l x i (by omega)).2 (h i (by omega))
theorem alw_zero {s : Sp} (h : s.Right) : alw s 0 = s.most := by
  obtain ⟨q1, q2, q3, q4, q5, q6, q7, q8⟩ := h
  simp only [alw, Int.mul_zero, Int.add_zero]
  omega
theorem alw_add {s : Sp} (h : s.Right) {t u : Int} (h0 : 0 ≤ t) (h1 : 0 ≤ u) : alw s t + s.rate * u ≤ alw s (t + u) := by
  obtain ⟨q1, q2, q3, q4, q5, q6, q7, q8⟩ := h
  have e1 : s.peak * (t + u) = s.peak * t + s.peak * u := Int.mul_add ..
  have e2 : s.rate * (t + u) = s.rate * t + s.rate * u := Int.mul_add ..
  have x := Int.mul_le_mul_of_nonneg_right q2 h1
  unfold alw
  rw [e1, e2]
  omega
/-- 2000 ticks behind the last one there is room for one Most more. -/
theorem greedy_room (s : Sp) (hr : s.Right) (l : List (Int × Int)) (a0 : Int) (hk : Keeps s l) (h0 : 0 ≤ a0) (h1 : a0 ≤ 100000) (hl : 0 < l.length → at_ l (l.length - 1) = a0) :
    Keeps s (l ++ [(a0 + 2000, s.most)]) := by
  rw [keeps_snoc s l _ hk, good_new]
  have hr' := hr
  obtain ⟨q1, q2, q3, q4, q5, q6, q7, q8⟩ := hr
  refine ⟨⟨by show 0 ≤ a0 + 2000; omega, by show a0 + 2000 ≤ _; omega⟩, ⟨q5, Int.le_refl _⟩, fun h => by rw [hl h]; show a0 ≤ a0 + 2000; omega, by rw [alw_zero hr']; exact Int.le_refl _, fun k hkl => ?_⟩
  have hg := (hk (l.length - 1) (by omega)).bytes k (by omega)
  have hm := at_mono (fun j hj => hk j (by omega)) (hk (l.length - 1) (by omega)).order k (by omega)
  rw [show l.length - 1 + 1 = l.length by omega, hl (by omega)] at hg
  rw [hl (by omega)] at hm
  have h2 := alw_add hr' (t := a0 - at_ l k) (u := 2000) (by omega) (by omega)
  rw [show a0 - at_ l k + 2000 = a0 + 2000 - at_ l k by omega] at h2
  have h3 : 2000 ≤ s.rate * 2000 := by omega
  show sumF l k l.length + s.most ≤ alw s (a0 + 2000 - at_ l k)
  omega
end Go.Proofs.Ytmnadploikcljaa
