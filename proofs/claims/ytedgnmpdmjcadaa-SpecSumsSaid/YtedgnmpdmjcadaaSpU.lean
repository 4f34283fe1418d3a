/- Two lists of sendings that came in, in one struct. -/
import Derived.Test.YtedgnmpdmjcadaaSpT
set_option linter.unusedVariables false
set_option linter.unusedSimpArgs false
namespace Go.Proofs.Ytedgnmpdmjcadaa
open Go.RowKit

section
variable {P : Program} {w : World} {t e e2 : TypeId} {v : Value} {r : Reach} {b0 : Nat}
theorem sees_sends (hu : P.underlying e = some (.slice e2)) (m : Nat) (hk : flatK P m e2 = some [.i64, .i64]) (hb : P.bytesOf e2 = 16) {n : Nat} {cs : List Value} (h : Sees P w n e cs) :
    ∃ A c, ∃ l : List (Int × Int), cs = [.slice A l.length c] ∧ l.length * 16 ≤ 140737488351232 ∧ Rd (fun _ => False) w A (sends l) := by
  cases n with
  | zero => exact h.elim
  | succ n =>
    unfold Sees at h
    rw [hu] at h
    obtain ⟨A, len, cap, rfl, hlc, hcm, hw, hn, rows, hl, hrd, hrows⟩ := h
    obtain ⟨l, h1, h2, h3⟩ := sends_of_rows rows (fun x hx => flat_sees m n e2 _ x hk (hrows x hx).2)
    rw [hb] at hw
    rw [h2] at hrd
    exact ⟨A, cap, l, by rw [h1, hl], by rw [h1, hl]; exact hw, hrd⟩
theorem see_two {fs : Array Field} (hu : P.underlying t = some (.struct fs)) (h0 : ∃ f, f ∈ fs.toList ∧ f.type = e ∧ f.offset = 0) (h1 : ∃ f, f ∈ fs.toList ∧ f.type = e ∧ f.offset = 1) (hc : P.cellsOf e = 1) (hct : P.cellsOf t = 2)
    (hu2 : P.underlying e = some (.slice e2)) (m : Nat) (hk : flatK P m e2 = some [.i64, .i64]) (hb : P.bytesOf e2 = 16) (hv : Value.okWide P w r b0 t v) (h : SeesV P w t v) :
    ∃ A B c d, ∃ x y : List (Int × Int), v = .agg #[.slice A x.length c, .slice B y.length d] ∧ x.length * 16 ≤ 140737488351232 ∧ y.length * 16 ≤ 140737488351232 ∧ Rd (fun _ => False) w A (sends x) ∧ Rd (fun _ => False) w B (sends y) := by
  obtain ⟨n, h⟩ := h
  have : ∃ cs, v = .agg cs := by
    simp only [Value.okWide, hu] at hv
    obtain ⟨cs, rfl, _⟩ := hv
    exact ⟨cs, rfl⟩
  obtain ⟨cs, rfl⟩ := this
  cases n with
  | zero => exact h.elim
  | succ n =>
    unfold Sees at h
    rw [hu] at h
    obtain ⟨hl, hs⟩ := h
    obtain ⟨f0, m0, t0, o0⟩ := h0
    obtain ⟨f1, m1, t1, o1⟩ := h1
    have s0 := hs f0 m0
    have s1 := hs f1 m1
    rw [t0, o0, hc] at s0
    rw [t1, o1, hc] at s1
    obtain ⟨A, c, x, e0, lx, rx⟩ := sees_sends hu2 m hk hb s0
    obtain ⟨B, d, y, e1, ly, ry⟩ := sees_sends hu2 m hk hb s1
    rw [hct] at hl
    refine ⟨A, B, c, d, x, y, ?_, lx, ly, rx, ry⟩
    obtain ⟨l⟩ := cs
    have hl2 : l.length = 2 := hl
    match l, hl2 with
    | [p, q], _ =>
      have e0' : [p] = [Value.slice A x.length c] := e0
      have e1' : [q] = [Value.slice B y.length d] := e1
      simp only [List.cons.injEq, and_true] at e0' e1'
      subst e0' e1'
      rfl
end
end Go.Proofs.Ytedgnmpdmjcadaa
