/- Chapter 15: acts and packets that came in. -/
import Derived.Test.YtfiiikgjgcnjgaaFfA
import Derived.Test.YtfiiikgjgcnjgaaOpen
set_option linter.unusedVariables false
set_option linter.unusedSimpArgs false
namespace Go.Proofs.Ytfiiikgjgcnjgaa
open Go.RowKit

def Pk.I64 (p : Pk) : Prop := (-9223372036854775808 ≤ p.id ∧ p.id ≤ 9223372036854775807) ∧ (-9223372036854775808 ≤ p.flow ∧ p.flow ≤ 9223372036854775807) ∧ (-9223372036854775808 ≤ p.size ∧ p.size ≤ 9223372036854775807)
theorem flat_cons {k : IntKind} {ks : List IntKind} {cs : List Value} (h : FlatC (k :: ks) cs) : ∃ z cs', cs = .int k z :: cs' ∧ (Lit.int k z).wf = true ∧ FlatC ks cs' := by
  cases cs with
  | nil => exact h.elim
  | cons v cs => obtain ⟨⟨z, rfl, hz⟩, h2⟩ := h; exact ⟨z, cs, rfl, hz, h2⟩
theorem flat_nil {cs : List Value} (h : FlatC [] cs) : cs = [] := by
  cases cs with
  | nil => rfl
  | cons v cs => exact h.elim
theorem pk_of_flat {cs : List Value} (h : FlatC [.i64, .i64, .i64] cs) : ∃ p : Pk, cs = pkc p ∧ p.I64 := by
  obtain ⟨x0, l0, e0, h0, h⟩ := flat_cons h
  obtain ⟨x1, l1, e1, h1, h⟩ := flat_cons h
  obtain ⟨x2, l2, e2, h2, h⟩ := flat_cons h
  have e3 := flat_nil h
  subst e3 e2 e1 e0
  exact ⟨⟨x0, x1, x2⟩, rfl, wf_i64 h0, wf_i64 h1, wf_i64 h2⟩
theorem pks_of_rows : ∀ rows : List (List Value), (∀ x ∈ rows, FlatC [.i64, .i64, .i64] x) → ∃ l : List Pk, l.length = rows.length ∧ rows.flatten = pks l
  | [], _ => ⟨[], rfl, rfl⟩
  | x :: rows, h => by
    obtain ⟨l, h1, h2⟩ := pks_of_rows rows (fun y hy => h y (by simp [hy]))
    obtain ⟨p, hp, _⟩ := pk_of_flat (h x (by simp))
    exact ⟨p :: l, by simp [h1], by rw [List.flatten_cons, h2, hp]; rfl⟩
theorem see_pks {P : Program} {w : World} {t e : TypeId} {v : Value} {r : Reach} {b0 : Nat} (hu : P.underlying t = some (.slice e)) (m : Nat) (hk : flatK P m e = some [.i64, .i64, .i64]) (hb : P.bytesOf e = 24) (hv : Value.okWide P w r b0 t v) (h : SeesV P w t v) :
    ∃ A c, ∃ l : List Pk, v = .slice A l.length c ∧ l.length ≤ c ∧ c ≤ maxLen ∧ l.length * 24 ≤ 140737488351232 ∧ Rd (fun _ => False) w A (pks l) := by
  obtain ⟨A, c, rows, rfl, hlc, hcm, hw, hn, hr, hf⟩ := see_flats hu m hk hv h
  obtain ⟨l, h1, h2⟩ := pks_of_rows rows hf
  rw [hb] at hw
  rw [h2] at hr
  exact ⟨A, c, l, by rw [h1], by omega, hcm, by rw [h1]; exact hw, hr⟩
/-- An act as cells. -/
def actL (x : Int × Pk) : List Value := [.int .i64 x.1, .int .i64 x.2.id, .int .i64 x.2.flow, .int .i64 x.2.size]
theorem acts_of_rows : ∀ rows : List (List Value), (∀ x ∈ rows, FlatC [.i64, .i64, .i64, .i64] x) → ∃ l : List (Int × Pk), l.length = rows.length ∧ rows.flatten = l.flatMap actL
  | [], _ => ⟨[], rfl, rfl⟩
  | x :: rows, h => by
    obtain ⟨l, h1, h2⟩ := acts_of_rows rows (fun y hy => h y (by simp [hy]))
    obtain ⟨x0, l0, e0, h0, h'⟩ := flat_cons (h x (by simp))
    obtain ⟨p, hp, _⟩ := pk_of_flat h'
    exact ⟨(x0, p) :: l, by simp [h1], by rw [List.flatten_cons, h2, e0, hp]; rfl⟩
theorem see_acts {P : Program} {w : World} {t e : TypeId} {v : Value} {r : Reach} {b0 : Nat} (hu : P.underlying t = some (.slice e)) (m : Nat) (hk : flatK P m e = some [.i64, .i64, .i64, .i64]) (hb : P.bytesOf e = 32) (hv : Value.okWide P w r b0 t v) (h : SeesV P w t v) :
    ∃ A c, ∃ l : List (Int × Pk), v = .slice A l.length c ∧ l.length ≤ c ∧ c ≤ maxLen ∧ l.length * 32 ≤ 140737488351232 ∧ Rd (fun _ => False) w A (l.flatMap actL) := by
  obtain ⟨A, c, rows, rfl, hlc, hcm, hw, hn, hr, hf⟩ := see_flats hu m hk hv h
  obtain ⟨l, h1, h2⟩ := acts_of_rows rows hf
  rw [hb] at hw
  rw [h2] at hr
  exact ⟨A, c, l, by rw [h1], by omega, hcm, by rw [h1]; exact hw, hr⟩
end Go.Proofs.Ytfiiikgjgcnjgaa
