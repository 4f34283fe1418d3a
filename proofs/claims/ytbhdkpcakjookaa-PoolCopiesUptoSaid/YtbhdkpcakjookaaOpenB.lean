/- A slice of slices of bytes, opened. No program in sight. -/
import Derived.Test.YtbhdkpcakjookaaOpen
set_option linter.unusedVariables false
set_option linter.unusedSimpArgs false
namespace Go.Proofs.Ytbhdkpcakjookaa
open Go.RowKit

section
variable {P : Program} {w : World} {t e e2 : TypeId} {v : Value} {r : Reach} {b0 : Nat}
theorem sees_rdb (hu : P.underlying e = some (.slice e2)) (m : Nat) (hk : flatK P m e2 = some [.u8]) (hb : P.bytesOf e2 = 1) {n : Nat} {cs : List Value} (h : Sees P w n e cs) :
    ∃ v, ∃ bs : List UInt8, cs = [v] ∧ RdB (fun _ => False) w v bs ∧ bs.length ≤ 140737488351232 := by
  cases n with
  | zero => exact h.elim
  | succ n =>
    unfold Sees at h
    rw [hu] at h
    obtain ⟨A, len, cap, rfl, hlc, hcm, hw, hn, rows, hl, hrd, hrows⟩ := h
    obtain ⟨bs, h1, h2⟩ := bytes_of_rows rows (fun x hx => flat_sees m n e2 _ x hk (hrows x hx).2)
    rw [hb, Nat.mul_one] at hw
    rw [h2] at hrd
    exact ⟨_, bs, rfl, ⟨A, cap, by rw [h1, hl], hrd⟩, by rw [h1, hl]; exact hw⟩
theorem rows_rdb (hu : P.underlying e = some (.slice e2)) (m : Nat) (hk : flatK P m e2 = some [.u8]) (hb : P.bytesOf e2 = 1) {n : Nat} : ∀ rows : List (List Value), (∀ x ∈ rows, Sees P w n e x) →
    ∃ l : List (List UInt8), rows.flatten.length = l.length ∧ rows.length = l.length ∧ (∀ i (h : i < rows.flatten.length) (h' : i < l.length), RdB (fun _ => False) w rows.flatten[i] l[i]) ∧ ∀ p ∈ l, p.length ≤ 140737488351232
  | [], _ => ⟨[], rfl, rfl, fun i h => absurd h (by simp), fun p hp => by cases hp⟩
  | x :: rows, h => by
    obtain ⟨l, h1, h2, h3, h4⟩ := rows_rdb hu m hk hb rows (fun y hy => h y (by simp [hy]))
    obtain ⟨v, bs, rfl, hr, hl⟩ := sees_rdb hu m hk hb (h x (by simp))
    refine ⟨bs :: l, by simp at h1 ⊢; omega, by simp [h2], fun i hi hi' => ?_, fun p hp => ?_⟩
    · cases i with
      | zero => exact hr
      | succ i => exact h3 i (by simp at hi ⊢; omega) (by simpa using hi')
    · rcases List.mem_cons.1 hp with rfl | hp
      · exact hl
      · exact h4 p hp
theorem see_rows (hu : P.underlying t = some (.slice e)) (hu2 : P.underlying e = some (.slice e2)) (m : Nat) (hk : flatK P m e2 = some [.u8]) (hb : P.bytesOf e2 = 1) (hbe : P.bytesOf e = 24) (hv : Value.okWide P w r b0 t v) (h : SeesV P w t v) :
    ∃ A c, ∃ l : List (List UInt8), v = .slice A l.length c ∧ l.length ≤ c ∧ c ≤ maxLen ∧ l.length * 24 ≤ 140737488351232 ∧ RdBB (fun _ => False) w (.slice A l.length c) l ∧ ∀ p ∈ l, p.length ≤ 140737488351232 := by
  obtain ⟨n, h⟩ := h
  cases n with
  | zero => exact h.elim
  | succ n =>
    unfold Sees at h
    rw [hu] at h
    obtain ⟨A, len, cap, hz, hlc, hcm, hw, hn, rows, hl, hrd, hrows⟩ := h
    obtain ⟨a, l, c, rfl⟩ := Go.WideShapes.okWide_slice hu hv
    have hz' : a = A ∧ l = len ∧ c = cap := by simpa [Value.cells] using hz
    obtain ⟨rfl, rfl, rfl⟩ := hz'
    subst hl
    obtain ⟨l, h1, h2, h3, h4⟩ := rows_rdb hu2 m hk hb rows (fun x hx => (hrows x hx).2)
    rw [hbe] at hw
    refine ⟨a, c, l, by rw [h2], by omega, hcm, by rw [← h2]; exact hw, ⟨a, c, rows.flatten, rfl, h1, hrd, h3⟩, h4⟩
end
end Go.Proofs.Ytbhdkpcakjookaa
