/- Chapter 12: Take of what may not be asked; When. -/
import Derived.Test.YtmnadploikcljaaBkE
set_option linter.unusedVariables false
set_option linter.unusedSimpArgs false
namespace Go.Proofs.Ytmnadploikcljaa
open Go.RowKit
attribute [local go_sem] Oper.semAt_some

theorem take_not (b : Nat) (B : Bk) (t z : Int) (w : World) (hb : IsBk w b B) (hr : B.s.rate ≠ 0) (hm : ¬ B.may t) :
    Calls Try.prog 31 #[.pointer (some ⟨b, 0, none⟩), .int .i64 t, .int .i64 z] w fun e w' => e = .returned (.tuple #[.bool false, .int .i64 2]) ∧ Fr0 w w' := by
  have HA := Lib.hid (fun w' (h : Fr0 w w') => asked_calls b B t w' (hb.kept0 h) hr)
  rw [show askA B t = 2 from if_neg hm] at HA
  refine (callsIn_wide (n := 5)).1 ?_
  refine callsIn_of_wp_marks Try.func31 rfl trivial ?_ rfl
  simp only [Try.ntmps31, List.size_toArray, List.length_cons, List.length_nil, Nat.reduceAdd, Nat.reduceSub, Array.replicate_succ, Array.replicate_zero, List.push_toArray, List.append_toArray, List.nil_append, List.cons_append]
  gi_wp2_with (first
    | (refine ⟨trivial, ?_⟩; gi_at_call 49; refine (callsIn_wide.2 (HA.out _ ((Fr.refl _ w).alloc _))).mono ?_; rintro e w' ⟨rfl, rfl⟩))
  exact ⟨_, results_tmp2 rfl _ _ _, rfl, (Fr.refl _ w).alloc _⟩
theorem take_no (v : Value) (t z : Int) (w : World) (h : NoBk w v) :
    Calls Try.prog 31 #[v, .int .i64 t, .int .i64 z] w fun e w' => e = .returned (.tuple #[.bool false, .int .i64 1]) ∧ Fr0 w w' := by
  have HA := Lib.hid (fun w' (hf : Fr0 w w') => asked_no v t w' (h.kept hf))
  have hv : v.oneCell' = true := by rcases h with rfl | ⟨b, B, rfl, _⟩ <;> rfl
  refine (callsIn_wide (n := 5)).1 ?_
  refine callsIn_of_wp_marks Try.func31 rfl trivial ?_ rfl
  simp only [Try.ntmps31, List.size_toArray, List.length_cons, List.length_nil, Nat.reduceAdd, Nat.reduceSub, Array.replicate_succ, Array.replicate_zero, List.push_toArray, List.append_toArray, List.nil_append, List.cons_append]
  rcases h with rfl | ⟨b, B, rfl, h⟩
  all_goals
    gi_wp2_with (first
      | (refine ⟨trivial, ?_⟩; gi_at_call 49; refine (callsIn_wide.2 (HA.out _ ((Fr.refl _ w).alloc _))).mono ?_; rintro e w' ⟨rfl, rfl⟩))
    exact ⟨_, results_tmp2 rfl _ _ _, rfl, (Fr.refl _ w).alloc _⟩

/-- In how many ticks there is so much of a kind. -/
def K3.lacks (k : K3) (z : Int) : Int := (max 0 (z - k.has) + k.more - 1) / k.more
theorem lacks_calls (k : K3) (z : Int) (w : World) (h0 : 0 ≤ k.has ∧ k.has ≤ 10000000) (h1 : 1 ≤ k.more ∧ k.more ≤ 1000000) (h2 : 0 ≤ z ∧ z ≤ 2000) :
    Calls Try.prog 52 #[k3v k, .int .i64 z] w fun e w' => e = .returned (.int .i64 (k.lacks z)) ∧ Fr0 w w' := by
  have hl : k.lacks z = (max 0 (z - k.has) + k.more - 1) / k.more := rfl
  have HL := Lib.hid hl
  obtain ⟨a1, a2⟩ := h0
  obtain ⟨b1, b2⟩ := h1
  obtain ⟨c1, c2⟩ := h2
  obtain ⟨has, most, more⟩ := k
  dsimp only at *
  by_cases hx : has < z
  · have hmx : max 0 (z - has) = z - has := by omega
    rw [hmx] at HL
    clear hl hmx
    go_enter Try.func52, Try.ntmps52
    go_wp2_with fail
    go_ret
    rw [HL.out]
    exact ⟨rfl, (Fr.refl _ w).alloc _⟩
  · have hmx : max 0 (z - has) = 0 := by omega
    rw [hmx] at HL
    clear hl hmx
    go_enter Try.func52, Try.ntmps52
    go_wp2_with fail
    go_ret
    rw [HL.out]
    exact ⟨rti (by simp), (Fr.refl _ w).alloc _⟩
end Go.Proofs.Ytmnadploikcljaa
