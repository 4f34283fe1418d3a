/- Chapter 01: many fractions, plain. -/
import Derived.Test.YtdakeenjeieekaaRaS
import Derived.Test.YtdakeenjeieekaaRaY
set_option linter.unusedVariables false
set_option linter.unusedSimpArgs false
namespace Go.Proofs.Ytdakeenjeieekaa

/-- A fraction more. -/
def addR (r : Ra) (x : Int × Int) : Ra := match r with
  | .ok a => rR (rq a.1 a.2 + rq x.1 x.2)
  | .error k => .error k
/-- The sum of the first k. -/
def sumK (l : List (Int × Int)) (k : Nat) : Ra := (l.take k).foldl addR (.ok (0, 1))
def sumR (l : List (Int × Int)) : Ra := if AllR l then sumK l l.length else .error 2
theorem sumK_zero (l : List (Int × Int)) : sumK l 0 = .ok (0, 1) := rfl
theorem sumK_succ {l : List (Int × Int)} {k : Nat} (h : k < l.length) : sumK l (k + 1) = addR (sumK l k) (at_ l k, sz_ l k) := by
  unfold sumK
  rw [List.take_succ_eq_append_getElem h, List.foldl_append, at_eq l k h, sz_eq l k h]
  rfl
theorem addR_err (k : Int) : ∀ l : List (Int × Int), l.foldl addR (.error k) = .error k
  | [] => rfl
  | x :: l => addR_err k l
theorem sumK_err {l : List (Int × Int)} {k : Nat} {e : Int} (h : sumK l k = .error e) : ∀ j, k ≤ j → sumK l j = .error e := by
  intro j hj
  have e1 : l.take j = l.take k ++ (l.take j).drop k := by
    conv => lhs; rw [← List.take_append_drop k (l.take j), List.take_take, Nat.min_eq_left hj]
  unfold sumK at *
  rw [e1, List.foldl_append, h]
  exact addR_err e _
theorem sumK_good {l : List (Int × Int)} : ∀ {k : Nat} {n d : Int}, sumK l k = .ok (n, d) → k ≤ l.length → RtOk n d ∧ I64r n ∧ I64r d
  | 0, n, d, h, _ => by
    rw [sumK_zero] at h
    injection h with h
    injection h with h1 h2
    subst h1; subst h2
    refine ⟨⟨by decide, by decide, by decide⟩, by unfold I64r; omega, by unfold I64r; omega⟩
  | k + 1, n, d, h, hk => by
    rw [sumK_succ (by omega)] at h
    unfold addR at h
    split at h
    · exact rR_good h
    · cases h
theorem allR_at {l : List (Int × Int)} (h : AllR l) {k : Nat} (hk : k < l.length) : RtOk (at_ l k) (sz_ l k) := h _ (at_mem hk)
theorem sumK_cases (l : List (Int × Int)) {k : Nat} {n d : Int} (h : sumK l k = .ok (n, d)) (hk : k < l.length) :
    (∃ a b, rR (rq n d + rq (at_ l k) (sz_ l k)) = .ok (a, b) ∧ sumK l (k + 1) = .ok (a, b)) ∨ (∃ e, rR (rq n d + rq (at_ l k) (sz_ l k)) = .error e ∧ sumK l l.length = .error e) := by
  have h1 : sumK l (k + 1) = rR (rq n d + rq (at_ l k) (sz_ l k)) := by rw [sumK_succ hk, h]; rfl
  cases h2 : rR (rq n d + rq (at_ l k) (sz_ l k)) with
  | ok p => exact .inl ⟨p.1, p.2, rfl, by rw [h1, h2]⟩
  | error e => exact .inr ⟨e, rfl, sumK_err (by rw [h1, h2]) _ (by omega)⟩
end Go.Proofs.Ytdakeenjeieekaa
