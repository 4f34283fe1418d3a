/- Chapter 02: tick, sent. -/
import Derived.Test.YtedgnmpdmjcadaaSpR
set_option linter.unusedVariables false
set_option linter.unusedSimpArgs false
namespace Go.Proofs.Ytedgnmpdmjcadaa
open Go.RowKit

/-- The tick of one of two lists. -/
def tickOf (x y : List (Int × Int)) (i : Nat) : Int := if i < x.length then at_ x i else at_ y (i - x.length)

attribute [local irreducible] at_ sz_ sumF alw

theorem tick_calls (A B : Option Addr) (c d : Nat) (x y : List (Int × Int)) (i : Nat) (w : World) (hx : Rd (fun _ => False) w A (sends x)) (hy : Rd (fun _ => False) w B (sends y)) (hi : i < x.length + y.length) (hl : x.length + y.length ≤ 1000) :
    Calls Try.prog 20 #[.slice A x.length c, .slice B y.length d, .int .i64 i] w fun e w' => e = .returned (.int .i64 (tickOf x y i)) ∧ w = w' := by
  by_cases h : i < x.length
  · obtain ⟨b, off, rfl⟩ := hx.some_ (by rw [sends_length]; omega)
    obtain ⟨c0, c1⟩ := rdl_cells hx i h
    rw [show tickOf x y i = at_ x i from if_pos h]
    clear hx hy
    go_enter Try.func20, Try.ntmps20
    go_wp2_with fail
    go_ret
    exact ⟨rfl, rfl⟩
  · obtain ⟨j, rfl⟩ : ∃ j, i = x.length + j := ⟨i - x.length, by omega⟩
    obtain ⟨b, off, rfl⟩ := hy.some_ (by rw [sends_length]; omega)
    obtain ⟨c0, c1⟩ := rdl_cells hy j (by omega)
    rw [show tickOf x y (x.length + j) = at_ y j by rw [tickOf, if_neg h, Nat.add_sub_cancel_left]]
    clear hx hy
    have hd : decide (((x.length + j : Nat) : Int) < (x.length : Int)) = false := decide_eq_false (by omega)
    go_enter Try.func20, Try.ntmps20
    go_wp2_with fail
    go_ret
    exact ⟨rfl, rfl⟩

set_option maxHeartbeats 1000000 in
theorem sent_calls (A : Option Addr) (c : Nat) (l : List (Int × Int)) (a b : Int) (w : World) (hR : Rd (fun _ => False) w A (sends l)) (hl : l.length ≤ 1000) (hs : ∀ i, i < l.length → 0 ≤ sz_ l i ∧ sz_ l i ≤ 2000) :
    Calls Try.prog 21 #[.slice A l.length c, .int .i64 a, .int .i64 b] w fun e w' => e = .returned (.int .i64 (sentTo l a b l.length)) ∧ w = w' := by
  have HR := Lib.hid hR
  have HS := Lib.hid hs
  clear hR hs
  go_enter Try.func21, Try.ntmps21
  go_wp2_with fail
  go_loop [7, 8] (fun nv iv => ∃ i : Nat, i ≤ l.length ∧ iv = .int .i64 (i : Int) ∧ nv = .int .i64 (sentTo l a b i) ∧ 0 ≤ sentTo l a b i ∧ sentTo l a b i ≤ 2000 * i) (fun _ iv => l.length - (intOf iv).toNat)
  case atStart => exact ⟨0, by omega, rfl, rfl, by simp [sentTo], by simp [sentTo]⟩
  case round =>
    obtain ⟨i, hi, rfl, rfl, h0, h1⟩ := hrel
    by_cases hlt : i < l.length
    · have hR := HR.out
      obtain ⟨g, off, rfl⟩ := hR.some_ (by rw [sends_length]; omega)
      obtain ⟨c0, c1⟩ := rdl_cells hR i hlt
      have hsz := HS.out i hlt
      have hst : sentTo l a b (i + 1) = sentTo l a b i + (if a ≤ at_ l i ∧ at_ l i ≤ b then sz_ l i else 0) := rfl
      clear hR
      by_cases g1 : a ≤ at_ l i
      · by_cases g2 : at_ l i ≤ b
        · rw [if_pos ⟨g1, g2⟩] at hst
          have HST := Lib.hid hst
          clear hst
          go_wp2_with fail
          go_round
          case rel => exact ⟨i + 1, by omega, by go_num, by rw [HST.out], by rw [HST.out]; omega, by rw [HST.out]; omega⟩
          case measure => simp [intOf]; omega
        · rw [if_neg (fun h => g2 h.2)] at hst
          have HST := Lib.hid hst
          clear hst
          go_wp2_with fail
          go_round
          case rel => exact ⟨i + 1, by omega, by go_num, by rw [HST.out, Int.add_zero], by rw [HST.out]; omega, by rw [HST.out]; omega⟩
          case measure => simp [intOf]; omega
      · rw [if_neg (fun h => g1 h.1)] at hst
        have HST := Lib.hid hst
        clear hst
        go_wp2_with fail
        go_round
        case rel => exact ⟨i + 1, by omega, by go_num, by rw [HST.out, Int.add_zero], by rw [HST.out]; omega, by rw [HST.out]; omega⟩
        case measure => simp [intOf]; omega
    · obtain rfl : i = l.length := by omega
      go_wp2_with fail
      go_ret
      exact ⟨rfl, rfl⟩
end Go.Proofs.Ytedgnmpdmjcadaa
