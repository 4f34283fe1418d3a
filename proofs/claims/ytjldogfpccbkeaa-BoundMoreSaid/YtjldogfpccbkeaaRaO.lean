/- Chapter 01: fractions that came in. -/
import Derived.Test.YtjldogfpccbkeaaM3
import Derived.Test.YtjldogfpccbkeaaM1
set_option linter.unusedVariables false
set_option linter.unusedSimpArgs false
namespace Go.Proofs.Ytjldogfpccbkeaa
open Go.RowKit

theorem flat_cons {k : IntKind} {ks : List IntKind} {cs : List Value} (h : FlatC (k :: ks) cs) : ∃ z cs', cs = .int k z :: cs' ∧ (Lit.int k z).wf = true ∧ FlatC ks cs' := by
  cases cs with
  | nil => exact h.elim
  | cons v cs => obtain ⟨⟨z, rfl, hz⟩, h2⟩ := h; exact ⟨z, cs, rfl, hz, h2⟩
theorem flat_nil {cs : List Value} (h : FlatC [] cs) : cs = [] := by
  cases cs with
  | nil => rfl
  | cons v cs => exact h.elim
theorem two_of_flat {cs : Array Value} (h : FlatC [.i64, .i64] cs.toList) : ∃ z y : Int, cs = #[.int .i64 z, .int .i64 y] ∧ (-9223372036854775808 ≤ z ∧ z ≤ 9223372036854775807) ∧ (-9223372036854775808 ≤ y ∧ y ≤ 9223372036854775807) := by
  obtain ⟨l⟩ := cs
  obtain ⟨x0, l0, e0, h0, h⟩ := flat_cons h
  obtain ⟨x1, l1, e1, h1, h⟩ := flat_cons h
  have e2 := flat_nil h
  subst e2 e1
  have e0' : l = [.int .i64 x0, .int .i64 x1] := e0
  subst e0'
  exact ⟨x0, x1, rfl, wf_i64 h0, wf_i64 h1⟩
theorem sends_of_rows : ∀ rows : List (List Value), (∀ x ∈ rows, FlatC [.i64, .i64] x) → ∃ l : List (Int × Int), l.length = rows.length ∧ rows.flatten = sends l ∧ I64l l
  | [], _ => ⟨[], rfl, rfl, fun p hp => by cases hp⟩
  | x :: rows, h => by
    obtain ⟨l, h1, h2, h3⟩ := sends_of_rows rows (fun y hy => h y (by simp [hy]))
    have hx := h x (by simp)
    obtain ⟨x0, l0, e0, w0, hx⟩ := flat_cons hx
    obtain ⟨x1, l1, e1, w1, hx⟩ := flat_cons hx
    have e2 := flat_nil hx
    subst e2 e1 e0
    refine ⟨(x0, x1) :: l, by simp [h1], by rw [List.flatten_cons, h2]; rfl, fun p hp => ?_⟩
    rcases List.mem_cons.1 hp with hp | hp
    · rw [hp]; exact ⟨wf_i64 w0, wf_i64 w1⟩
    · exact h3 p hp
theorem see_sends {P : Program} {w : World} {t e : TypeId} {v : Value} {r : Reach} {b0 : Nat} (hu : P.underlying t = some (.slice e)) (m : Nat) (hk : flatK P m e = some [.i64, .i64]) (hb : P.bytesOf e = 16) (hv : Value.okWide P w r b0 t v) (h : SeesV P w t v) :
    ∃ A c, ∃ l : List (Int × Int), v = .slice A l.length c ∧ l.length ≤ c ∧ c ≤ maxLen ∧ l.length * 16 ≤ 140737488351232 ∧ Rd (fun _ => False) w A (sends l) ∧ I64l l ∧ (A = none → l = []) := by
  obtain ⟨A, c, rows, rfl, hlc, hcm, hw, hn, hr, hf⟩ := see_flats hu m hk hv h
  obtain ⟨l, h1, h2, h3⟩ := sends_of_rows rows hf
  rw [hb] at hw
  rw [h2] at hr
  refine ⟨A, c, l, by rw [h1], by omega, hcm, by rw [h1]; exact hw, hr, h3, fun e => ?_⟩
  have := hn e
  subst this
  exact List.length_eq_zero_iff.1 h1
end Go.Proofs.Ytjldogfpccbkeaa
