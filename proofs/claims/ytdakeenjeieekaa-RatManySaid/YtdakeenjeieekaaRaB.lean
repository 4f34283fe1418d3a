/- Chapter 01: size, gcd. -/
import Derived.Test.YtdakeenjeieekaaRaA
import Derived.Test.YtdakeenjeieekaaMem
import Derived.Test.YtdakeenjeieekaaChecked
set_option linter.unusedVariables false
set_option linter.unusedSimpArgs false
namespace Go.Proofs.Ytdakeenjeieekaa
open Go.RowKit

abbrev u64v (n : Nat) : Value := .int .u64 (n : Int)
theorem ret_u64 {a b : Int} (h : a = b) : (Ending.returned (.int .u64 a)) = .returned (.int .u64 b) := by rw [h]
theorem rsize_calls (n : Int) (h : -9223372036854775808 ≤ n ∧ n ≤ 9223372036854775807) (w : World) : Calls Try.prog 38 #[.int .i64 n] w fun e w' => e = .returned (u64v n.natAbs) ∧ w = w' := by
  obtain ⟨h1, h2⟩ := h
  by_cases hn : n < 0
  · have e : IntKind.u64.wrap (IntKind.u64.wrap (-(n + 1)) + 1) = ((n.natAbs : Nat) : Int) := by
      rw [IntKind.wrap_u64, IntKind.wrap_u64]; omega
    have e1 : IntKind.i64.wrap (n + 1) = n + 1 := by rw [IntKind.wrap_i64]; omega
    have e2 : IntKind.i64.wrap (-(n + 1)) = -(n + 1) := by rw [IntKind.wrap_i64]; omega
    go_enter Try.func38, Try.ntmps38
    go_wp2_with fail
    go_ret
    exact ⟨ret_u64 (by first | exact e | omega), rfl⟩
  · have e : IntKind.u64.wrap n = ((n.natAbs : Nat) : Int) := by rw [IntKind.wrap_u64]; omega
    go_enter Try.func38, Try.ntmps38
    go_wp2_with fail
    go_ret
    exact ⟨ret_u64 (by first | exact e | omega), rfl⟩
theorem rgcd_calls (a b : Nat) (ha : a < 18446744073709551616) (hb : b < 18446744073709551616) (w : World) : Calls Try.prog 42 #[u64v a, u64v b] w fun e w' => e = .returned (u64v (Nat.gcd a b)) ∧ Fr0 w w' := by
  go_enter Try.func42, Try.ntmps42
  go_wp2_with fail
  go_loopw [0, 1] (fun s0 s1 wr => ∃ (x y : Nat), s0 = u64v x ∧ s1 = u64v y ∧ x < 18446744073709551616 ∧ y < 18446744073709551616 ∧ Hid (Nat.gcd x y = Nat.gcd a b) ∧ Hid (Fr0 w wr)) (fun _ s1 _ => (intOf s1).toNat)
  case atStart => exact ⟨a, b, rfl, rfl, ha, hb, rfl, Fr.refl _ _⟩
  case round =>
    obtain ⟨x, y, rfl, rfl, hx, hy, HG, HF⟩ := hrel
    by_cases h0 : y = 0
    · subst h0
      have hg : x = Nat.gcd a b := by have := HG.out; simpa using this
      subst hg
      go_wp2_with fail
      go_ret
      exact ⟨rfl, HF.out⟩
    · have hy0 : (0 : Int) < (y : Int) := by omega
      have hyn : ¬ ((y : Int) = 0) := by omega
      have hyb : ((y : Int) == 0) = false := by simpa using hyn
      have hm : (x : Int).tmod (y : Int) = ((x % y : Nat) : Int) := by rw [Int.tmod_eq_emod_of_nonneg (by omega)]; simp
      have hlt := Nat.mod_lt x (Nat.pos_of_ne_zero h0)
      have hw : IntKind.u64.wrap ((x % y : Nat) : Int) = ((x % y : Nat) : Int) := by rw [IntKind.wrap_u64]; omega
      have HG2 := Lib.hid (show Nat.gcd y (x % y) = Nat.gcd a b from by rw [← HG.out, Nat.gcd_comm y, ← Nat.gcd_rec, Nat.gcd_comm])
      have HF2 := Lib.hid (HF.out.trans (Fr.refl (fun _ => False) wr).drew)
      go_wp2_with fail
      go_region
      all_goals
        go_wp2_with fail
        go_roundw
        case rel => exact ⟨y, x % y, rfl, by simp, hy, by omega, HG2.out, HF2.out⟩
        case measure => simp [intOf]; omega
end Go.Proofs.Ytdakeenjeieekaa
