/- Chapter 24: a slice of calls, opened. -/
import Derived.Test.YtbhdkpcakjookaaPoZ
import Derived.Test.YtbhdkpcakjookaaOpenB
set_option linter.unusedVariables false
set_option linter.unusedSimpArgs false
namespace Go.Proofs.Ytbhdkpcakjookaa
open Go.RowKit

theorem sees_i64 {w : World} {t : TypeId} (hu : Try.prog.underlying t = some (.int .i64)) {n : Nat} {v : Value} (h : Sees Try.prog w n t [v]) : ∃ z, v = .int .i64 z ∧ InI z := by
  cases n with
  | zero => exact h.elim
  | succ n =>
    unfold Sees at h
    rw [hu] at h
    obtain ⟨z, hz, hw⟩ := h
    have hb := wf_i64 hw
    exact ⟨z, by simpa using hz, hb⟩
theorem sees_act {w : World} {n : Nat} {cs : List Value} (h : Sees Try.prog w n 49 cs) : ∃ r : Ra, cs = rac r ∧ r.Ok1 w ∧ r.a.bytes.length ≤ 140737488351232 := by
  cases n with
  | zero => exact h.elim
  | succ n =>
    unfold Sees at h
    rw [Try.underlying49] at h
    obtain ⟨hl, hs⟩ := h
    have c1 : Try.prog.cellsOf 3 = 1 := by kernel_rfl
    have c2 : Try.prog.cellsOf 2 = 1 := by kernel_rfl
    have c3 : Try.prog.cellsOf 22 = 1 := by kernel_rfl
    have c5 : Try.prog.cellsOf 49 = 5 := by kernel_rfl
    rw [c5] at hl
    match cs, hl with
    | [v0, v1, v2, v3, v4], _ =>
      have s0 := hs _ (.head _)
      have s1 := hs _ (.tail _ (.head _))
      have s2 := hs _ (.tail _ (.tail _ (.head _)))
      have s3 := hs _ (.tail _ (.tail _ (.tail _ (.head _))))
      have s4 := hs _ (.tail _ (.tail _ (.tail _ (.tail _ (.head _)))))
      dsimp only at s0 s1 s2 s3 s4
      rw [c1] at s0 s1 s2
      rw [c2] at s3
      rw [c3] at s4
      simp only [List.drop_zero, List.drop_succ_cons, List.take_succ_cons, List.take_zero] at s0 s1 s2 s3 s4
      obtain ⟨z0, rfl, _⟩ := sees_i64 Try.underlying3 s0
      obtain ⟨z1, rfl, b1⟩ := sees_i64 Try.underlying3 s1
      obtain ⟨z2, rfl, b2⟩ := sees_i64 Try.underlying3 s2
      obtain ⟨z3, rfl, _⟩ := sees_i64 Try.underlying2 s3
      obtain ⟨v, bs, hv, ⟨A, c, rfl, hrd⟩, hbl⟩ := sees_rdb Try.underlying22 1 (by kernel_rfl) (by kernel_rfl) s4
      obtain rfl : v4 = .slice A bs.length c := by simpa using hv
      exact ⟨⟨⟨z0, z1, z2, z3, bs⟩, A, c⟩, rfl, ⟨hrd, b1, b2⟩, hbl⟩
theorem rows_acts {w : World} {n : Nat} : ∀ rows : List (List Value), (∀ x ∈ rows, Sees Try.prog w n 49 x) → ∃ l : List Ra, rows.length = l.length ∧ rows.flatten = ras l ∧ ∀ r ∈ l, r.Ok1 w
  | [], _ => ⟨[], rfl, rfl, by simp⟩
  | x :: rows, h => by
    obtain ⟨l, h1, h2, h3⟩ := rows_acts rows (fun y hy => h y (by simp [hy]))
    obtain ⟨r, rfl, hr, _⟩ := sees_act (h x (by simp))
    exact ⟨r :: l, by simp [h1], by rw [List.flatten_cons, h2, ras_cons], fun r' hr' => by
      rcases List.mem_cons.1 hr' with rfl | hr'
      · exact hr
      · exact h3 r' hr'⟩
theorem see_racts2 {w : World} {v : Value} {r : Reach} {b0 : Nat} (hv : Value.okWide Try.prog w r b0 42 v) (h : SeesV Try.prog w 42 v) :
    ∃ A c, ∃ l : List Ra, v = .slice A l.length c ∧ l.length ≤ c ∧ c ≤ maxLen ∧ l.length ≤ 140737488351232 ∧ Rd (fun _ => False) w A (ras l) ∧ (∀ r ∈ l, r.Ok1 w) ∧ (A = none → l = []) := by
  obtain ⟨n, h⟩ := h
  cases n with
  | zero => exact h.elim
  | succ n =>
    unfold Sees at h
    rw [Try.underlying42] at h
    obtain ⟨A, len, cap, hz, hlc, hcm, hw, hn, rows, hl, hrd, hrows⟩ := h
    obtain ⟨a, l, c, rfl⟩ := Go.WideShapes.okWide_slice Try.underlying42 hv
    have hz' : a = A ∧ l = len ∧ c = cap := by simpa [Value.cells] using hz
    obtain ⟨rfl, rfl, rfl⟩ := hz'
    subst hl
    obtain ⟨l, h1, h2, h3⟩ := rows_acts rows (fun x hx => (hrows x hx).2)
    have hbo : Try.prog.bytesOf 49 = 56 := by kernel_rfl
    rw [hbo] at hw
    rw [h2] at hrd
    exact ⟨a, c, l, by rw [h1], by omega, hcm, by unfold reachBytes at hw; omega, hrd, h3, fun e => List.length_eq_zero_iff.1 (by rw [← h1]; exact hn e)⟩
theorem see_racts {w : World} {v : Value} {r : Reach} {b0 : Nat} (hv : Value.okWide Try.prog w r b0 42 v) (h : SeesV Try.prog w 42 v) :
    ∃ A c, ∃ l : List Ra, v = .slice A l.length c ∧ l.length ≤ c ∧ c ≤ maxLen ∧ l.length ≤ 140737488351232 ∧ Rd (fun _ => False) w A (ras l) ∧ ∀ r ∈ l, r.Ok1 w := by
  obtain ⟨A, c, l, h1, h2, h3, h4, h5, h6, _⟩ := see_racts2 hv h
  exact ⟨A, c, l, h1, h2, h3, h4, h5, h6⟩
end Go.Proofs.Ytbhdkpcakjookaa
