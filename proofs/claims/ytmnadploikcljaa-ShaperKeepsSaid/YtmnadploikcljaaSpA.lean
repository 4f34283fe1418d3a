/- Chapter 02 (tspec): what a spec is, the small functions. -/
import Derived.Test.YtmnadploikcljaaProg
import Derived.Test.YtmnadploikcljaaBase
import Derived.Test.YtmnadploikcljaaMem
import Derived.Test.YtmnadploikcljaaRegB
import Derived.Deep.RegionHeld3
import Derived.BigRegion
set_option linter.unusedVariables false
set_option linter.unusedSimpArgs false
namespace Go.Proofs.Ytmnadploikcljaa
open Go.RowKit

/-- A spec. -/
structure Sp where
  peak : Int
  rate : Int
  burst : Int
  most : Int
  least : Int
deriving DecidableEq
abbrev spc (s : Sp) : Array Value := #[.int .i64 s.peak, .int .i64 s.rate, .int .i64 s.burst, .int .i64 s.most, .int .i64 s.least]
abbrev spv (s : Sp) : Value := .agg #[.int .i64 s.peak, .int .i64 s.rate, .int .i64 s.burst, .int .i64 s.most, .int .i64 s.least]
structure Sp.Right (s : Sp) : Prop where
  r1 : 1 ≤ s.rate
  r2 : s.rate ≤ s.peak
  r3 : s.peak ≤ 1000000
  r4 : 1 ≤ s.least
  r5 : s.least ≤ s.most
  r6 : s.most ≤ 2000
  r7 : s.most ≤ s.burst
  r8 : s.burst ≤ 10000000
theorem Sp.right_iff (s : Sp) : s.Right ↔ (1 ≤ s.rate ∧ s.rate ≤ s.peak ∧ s.peak ≤ 1000000 ∧ 1 ≤ s.least ∧ s.least ≤ s.most ∧ s.most ≤ 2000 ∧ s.most ≤ s.burst ∧ s.burst ≤ 10000000) :=
  ⟨fun ⟨a, b, c, d, e, f, g, h⟩ => ⟨a, b, c, d, e, f, g, h⟩, fun ⟨a, b, c, d, e, f, g, h⟩ => ⟨a, b, c, d, e, f, g, h⟩⟩
instance (s : Sp) : Decidable s.Right := decidable_of_iff _ s.right_iff.symm
/-- How many bytes it allows. -/
def alw (s : Sp) (t : Int) : Int := min (s.most + s.peak * t) (s.burst + s.rate * t)

theorem mul_le_of {a b x y : Int} (ha : 0 ≤ a) (hb : a ≤ x) (hc : 0 ≤ b) (hd : b ≤ y) : 0 ≤ a * b ∧ a * b ≤ x * y :=
  ⟨Int.mul_nonneg ha hc, Int.mul_le_mul hb hd hc (Int.le_trans ha hb)⟩
theorem alw_prod {s : Sp} (h : s.Right) {t : Int} (h0 : 0 ≤ t) (h1 : t ≤ 2147483647) : (0 ≤ s.peak * t ∧ s.peak * t ≤ 2147483647000000) ∧ (0 ≤ s.rate * t ∧ s.rate * t ≤ 2147483647000000) := by
  obtain ⟨a, b, c, d, e, f, g, i⟩ := h
  have x := mul_le_of (a := s.peak) (b := t) (x := 1000000) (y := 2147483647) (by omega) (by omega) h0 h1
  have y := mul_le_of (a := s.rate) (b := t) (x := 1000000) (y := 2147483647) (by omega) (by omega) h0 h1
  omega
theorem alw_range {s : Sp} (h : s.Right) {t : Int} (h0 : 0 ≤ t) (h1 : t ≤ 2147483647) : 1 ≤ alw s t ∧ alw s t ≤ 2147483657000000 := by
  obtain ⟨⟨a, b⟩, c, d⟩ := alw_prod h h0 h1
  obtain ⟨q1, q2, q3, q4, q5, q6, q7, q8⟩ := h
  unfold alw
  omega

theorem rti {k : IntKind} {a b : Int} (h : a = b) : Ending.returned (.int k a) = .returned (.int k b) := by rw [h]
theorem rtb {a b : Bool} (h : a = b) : Ending.returned (.bool a) = .returned (.bool b) := by rw [h]

theorem within_calls (n lo hi : Int) (w : World) : Calls Try.prog 64 #[.int .i64 n, .int .i64 lo, .int .i64 hi] w fun e w' => e = .returned (.bool (decide (lo ≤ n ∧ n ≤ hi))) ∧ w = w' := by
  by_cases h1 : lo ≤ n
  · go_enter Try.func64, Try.ntmps64
    go_wp2_with fail
    go_ret
    simp [h1]
  · go_enter Try.func64, Try.ntmps64
    go_wp2_with fail
    go_ret
    exact ⟨rtb (by have : ¬ lo ≤ n := by omega
                   simp [this]), rfl⟩

/-- What is wrong with a spec, by number. -/
def flaw (s : Sp) : Nat → Bool
  | 0 => decide (¬ (1 ≤ s.rate ∧ s.rate ≤ 1000000) ∨ ¬ (s.rate ≤ s.peak ∧ s.peak ≤ 1000000))
  | 1 => decide (¬ (1 ≤ s.most ∧ s.most ≤ 2000) ∨ ¬ (1 ≤ s.least ∧ s.least ≤ s.most))
  | _ => decide (¬ (s.most ≤ s.burst ∧ s.burst ≤ 10000000))
theorem right_flaw (s : Sp) : s.Right ↔ flaw s 0 = false ∧ flaw s 1 = false ∧ flaw s 2 = false := by
  rw [Sp.right_iff]
  simp only [flaw, decide_eq_false_iff_not]
  omega

theorem flaw0_calls (s : Sp) (w : World) : Calls Try.prog 63 #[spv s] w fun e w' => e = .returned (.bool (flaw s 0)) ∧ Fr0 w w' := by
  by_cases h1 : 1 ≤ s.rate ∧ s.rate ≤ 1000000
  · by_cases h2 : s.rate ≤ s.peak ∧ s.peak ≤ 1000000
    all_goals
      go_enter Try.func63, Try.ntmps63
      go_wp2_with (go_at_call 64; refine (within_calls _ _ _ _).mono ?_; rintro e w' ⟨rfl, rfl⟩)
      go_ret
      exact ⟨rtb (by simp [flaw, h1, h2]), (Fr.refl _ w).alloc _⟩
  · have h1' : decide (1 ≤ s.rate ∧ s.rate ≤ 1000000) = false := decide_eq_false h1
    go_enter Try.func63, Try.ntmps63
    go_wp2_with (go_at_call 64; refine (within_calls _ _ _ _).mono ?_; rw [h1']; rintro e w' ⟨rfl, rfl⟩)
    go_ret
    exact ⟨rtb (by simp [flaw, h1]), (Fr.refl _ w).alloc _⟩
theorem flaw1_calls (s : Sp) (w : World) : Calls Try.prog 65 #[spv s] w fun e w' => e = .returned (.bool (flaw s 1)) ∧ Fr0 w w' := by
  by_cases h1 : 1 ≤ s.most ∧ s.most ≤ 2000
  · by_cases h2 : 1 ≤ s.least ∧ s.least ≤ s.most
    all_goals
      go_enter Try.func65, Try.ntmps65
      go_wp2_with (go_at_call 64; refine (within_calls _ _ _ _).mono ?_; rintro e w' ⟨rfl, rfl⟩)
      go_ret
      exact ⟨rtb (by simp [flaw, h1, h2]), (Fr.refl _ w).alloc _⟩
  · have h1' : decide (1 ≤ s.most ∧ s.most ≤ 2000) = false := decide_eq_false h1
    go_enter Try.func65, Try.ntmps65
    go_wp2_with (go_at_call 64; refine (within_calls _ _ _ _).mono ?_; rw [h1']; rintro e w' ⟨rfl, rfl⟩)
    go_ret
    exact ⟨rtb (by simp [flaw, h1]), (Fr.refl _ w).alloc _⟩
theorem flaw2_calls (s : Sp) (w : World) : Calls Try.prog 66 #[spv s] w fun e w' => e = .returned (.bool (flaw s 2)) ∧ Fr0 w w' := by
  by_cases h1 : s.most ≤ s.burst ∧ s.burst ≤ 10000000
  all_goals
    go_enter Try.func66, Try.ntmps66
    go_wp2_with (go_at_call 64; refine (within_calls _ _ _ _).mono ?_; rintro e w' ⟨rfl, rfl⟩)
    go_ret
    exact ⟨rtb (by simp [flaw, h1]), (Fr.refl _ w).alloc _⟩
end Go.Proofs.Ytmnadploikcljaa
