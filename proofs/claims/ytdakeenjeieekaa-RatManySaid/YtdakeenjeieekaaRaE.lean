/- Chapter 01: lengths of words, products, sums and differences of two words. -/
import Derived.Test.YtdakeenjeieekaaRaD
import Derived.Lib.Mul64
import Derived.Lib.BitFns
import Derived.Laws.Bits64b
import Derived.Laws.Externs
set_option linter.unusedVariables false
set_option linter.unusedSimpArgs false
namespace Go.Proofs.Ytdakeenjeieekaa
open Go.RowKit
attribute [local go_sem] Oper.semAt_some

theorem tab_eq (i : Int) (h : i.toNat < Lib.len8tab.size) : ((Lib.len8tab[i.toNat].toNat : Nat) : Int) = Lib.len8 i := by
  unfold Lib.len8
  rw [getElem?_pos Lib.len8tab i.toNat h]; rfl
theorem tab_at (i : Int) (h0 : 0 ≤ i) (h1 : i < 256) : ∀ h : i.toNat < Lib.len8tab.size, ((Lib.len8tab[i.toNat].toNat : Nat) : Int) = (Lib.bitLen i.toNat : Int) := fun h => (tab_eq i h).trans (Lib.len8_of i h0 (by omega))
theorem len64_0 (x : Int) (h0 : 0 ≤ x) (h1 : x ≤ 18446744073709551615) (c0 : 4294967296 ≤ x) (c1 : 65536 ≤ x / 4294967296) (c2 : 256 ≤ x / 4294967296 / 65536) (w : World) : Calls Try.prog 83 #[.int .u64 x] w fun e w' => e = .returned (.int .i64 (Lib.bitLen x.toNat)) ∧ w = w' := by
  have hz := Lib.len8tab_size
  have i0 : 0 ≤ x / 4294967296 / 65536 / 256 := by omega
  have i1 : x / 4294967296 / 65536 / 256 < 256 := by omega
  have d0 : decide (4294967296 ≤ x) = true := decide_eq_true c0
  have d1 : decide (65536 ≤ x / 4294967296) = true := decide_eq_true c1
  have d2 : decide (256 ≤ x / 4294967296 / 65536) = true := decide_eq_true c2
  have s := Lib.bitLen_shift56 x.toNat (by omega) (by omega)
  have e : (x / 4294967296 / 65536 / 256).toNat = x.toNat / 72057594037927936 := by omega
  have l := Lib.bitLen_le8' (x / 4294967296 / 65536 / 256) i0 (by omega)
  have t := Lib.len8_of (x / 4294967296 / 65536 / 256) i0 (by omega)
  have hi : 0 ≤ x / 4294967296 / 65536 / 256 ∧ x / 4294967296 / 65536 / 256 < (Lib.len8tab.size : Int) := ⟨i0, by omega⟩
  have hi2 : x / 4294967296 / 65536 / 256 < (Lib.len8tab.size : Int) := hi.2
  have t9 : Try.prog.underlying 9 = some .string := Try.underlying9
  have T := tab_at (x / 4294967296 / 65536 / 256) i0 i1
  rw [e] at l
  have T2 : Lib.bitLen (x / 4294967296 / 65536 / 256).toNat = Lib.bitLen (x.toNat / 72057594037927936) := congrArg Lib.bitLen e
  have L := Lib.hid l; have S := Lib.hid s; have TT := Lib.hid T; have T3 := Lib.hid T2
  clear l s T e t hz i1 T2
  go_enter Try.func83, Try.ntmps83
  go_wp2
  go_ret
  refine ⟨congrArg Ending.returned (congrArg (Value.int IntKind.i64) ?_), rfl⟩
  have l := L.out; have s := S.out; have T := TT.out
  simp only [T, T3.out]
  simp only [wrap64]
  omega
theorem len64_1 (x : Int) (h0 : 0 ≤ x) (h1 : x ≤ 18446744073709551615) (c0 : 4294967296 ≤ x) (c1 : 65536 ≤ x / 4294967296) (c2 : ¬ 256 ≤ x / 4294967296 / 65536) (w : World) : Calls Try.prog 83 #[.int .u64 x] w fun e w' => e = .returned (.int .i64 (Lib.bitLen x.toNat)) ∧ w = w' := by
  have hz := Lib.len8tab_size
  have i0 : 0 ≤ x / 4294967296 / 65536 := by omega
  have i1 : x / 4294967296 / 65536 < 256 := by omega
  have d0 : decide (4294967296 ≤ x) = true := decide_eq_true c0
  have d1 : decide (65536 ≤ x / 4294967296) = true := decide_eq_true c1
  have d2 : decide (256 ≤ x / 4294967296 / 65536) = false := decide_eq_false c2
  have s := Lib.bitLen_shift48 x.toNat (by omega) (by omega)
  have e : (x / 4294967296 / 65536).toNat = x.toNat / 281474976710656 := by omega
  have l := Lib.bitLen_le8' (x / 4294967296 / 65536) i0 (by omega)
  have t := Lib.len8_of (x / 4294967296 / 65536) i0 (by omega)
  have hi : 0 ≤ x / 4294967296 / 65536 ∧ x / 4294967296 / 65536 < (Lib.len8tab.size : Int) := ⟨i0, by omega⟩
  have hi2 : x / 4294967296 / 65536 < (Lib.len8tab.size : Int) := hi.2
  have t9 : Try.prog.underlying 9 = some .string := Try.underlying9
  have T := tab_at (x / 4294967296 / 65536) i0 i1
  rw [e] at l
  have T2 : Lib.bitLen (x / 4294967296 / 65536).toNat = Lib.bitLen (x.toNat / 281474976710656) := congrArg Lib.bitLen e
  have L := Lib.hid l; have S := Lib.hid s; have TT := Lib.hid T; have T3 := Lib.hid T2
  clear l s T e t hz i1 T2
  go_enter Try.func83, Try.ntmps83
  go_wp2
  go_ret
  refine ⟨congrArg Ending.returned (congrArg (Value.int IntKind.i64) ?_), rfl⟩
  have l := L.out; have s := S.out; have T := TT.out
  simp only [T, T3.out]
  simp only [wrap64]
  omega
theorem len64_2 (x : Int) (h0 : 0 ≤ x) (h1 : x ≤ 18446744073709551615) (c0 : 4294967296 ≤ x) (c1 : ¬ 65536 ≤ x / 4294967296) (c2 : 256 ≤ x / 4294967296) (w : World) : Calls Try.prog 83 #[.int .u64 x] w fun e w' => e = .returned (.int .i64 (Lib.bitLen x.toNat)) ∧ w = w' := by
  have hz := Lib.len8tab_size
  have i0 : 0 ≤ x / 4294967296 / 256 := by omega
  have i1 : x / 4294967296 / 256 < 256 := by omega
  have d0 : decide (4294967296 ≤ x) = true := decide_eq_true c0
  have d1 : decide (65536 ≤ x / 4294967296) = false := decide_eq_false c1
  have d2 : decide (256 ≤ x / 4294967296) = true := decide_eq_true c2
  have s := Lib.bitLen_shift40 x.toNat (by omega) (by omega)
  have e : (x / 4294967296 / 256).toNat = x.toNat / 1099511627776 := by omega
  have l := Lib.bitLen_le8' (x / 4294967296 / 256) i0 (by omega)
  have t := Lib.len8_of (x / 4294967296 / 256) i0 (by omega)
  have hi : 0 ≤ x / 4294967296 / 256 ∧ x / 4294967296 / 256 < (Lib.len8tab.size : Int) := ⟨i0, by omega⟩
  have hi2 : x / 4294967296 / 256 < (Lib.len8tab.size : Int) := hi.2
  have t9 : Try.prog.underlying 9 = some .string := Try.underlying9
  have T := tab_at (x / 4294967296 / 256) i0 i1
  rw [e] at l
  have T2 : Lib.bitLen (x / 4294967296 / 256).toNat = Lib.bitLen (x.toNat / 1099511627776) := congrArg Lib.bitLen e
  have L := Lib.hid l; have S := Lib.hid s; have TT := Lib.hid T; have T3 := Lib.hid T2
  clear l s T e t hz i1 T2
  go_enter Try.func83, Try.ntmps83
  go_wp2
  go_ret
  refine ⟨congrArg Ending.returned (congrArg (Value.int IntKind.i64) ?_), rfl⟩
  have l := L.out; have s := S.out; have T := TT.out
  simp only [T, T3.out]
  simp only [wrap64]
  omega
theorem len64_3 (x : Int) (h0 : 0 ≤ x) (h1 : x ≤ 18446744073709551615) (c0 : 4294967296 ≤ x) (c1 : ¬ 65536 ≤ x / 4294967296) (c2 : ¬ 256 ≤ x / 4294967296) (w : World) : Calls Try.prog 83 #[.int .u64 x] w fun e w' => e = .returned (.int .i64 (Lib.bitLen x.toNat)) ∧ w = w' := by
  have hz := Lib.len8tab_size
  have i0 : 0 ≤ x / 4294967296 := by omega
  have i1 : x / 4294967296 < 256 := by omega
  have d0 : decide (4294967296 ≤ x) = true := decide_eq_true c0
  have d1 : decide (65536 ≤ x / 4294967296) = false := decide_eq_false c1
  have d2 : decide (256 ≤ x / 4294967296) = false := decide_eq_false c2
  have s := Lib.bitLen_shift32 x.toNat (by omega) (by omega)
  have e : (x / 4294967296).toNat = x.toNat / 4294967296 := by omega
  have l := Lib.bitLen_le8' (x / 4294967296) i0 (by omega)
  have t := Lib.len8_of (x / 4294967296) i0 (by omega)
  have hi : 0 ≤ x / 4294967296 ∧ x / 4294967296 < (Lib.len8tab.size : Int) := ⟨i0, by omega⟩
  have hi2 : x / 4294967296 < (Lib.len8tab.size : Int) := hi.2
  have t9 : Try.prog.underlying 9 = some .string := Try.underlying9
  have T := tab_at (x / 4294967296) i0 i1
  rw [e] at l
  have T2 : Lib.bitLen (x / 4294967296).toNat = Lib.bitLen (x.toNat / 4294967296) := congrArg Lib.bitLen e
  have L := Lib.hid l; have S := Lib.hid s; have TT := Lib.hid T; have T3 := Lib.hid T2
  clear l s T e t hz i1 T2
  go_enter Try.func83, Try.ntmps83
  go_wp2
  go_ret
  refine ⟨congrArg Ending.returned (congrArg (Value.int IntKind.i64) ?_), rfl⟩
  have l := L.out; have s := S.out; have T := TT.out
  simp only [T, T3.out]
  simp only [wrap64]
  omega
theorem len64_4 (x : Int) (h0 : 0 ≤ x) (h1 : x ≤ 18446744073709551615) (c0 : ¬ 4294967296 ≤ x) (c1 : 65536 ≤ x) (c2 : 256 ≤ x / 65536) (w : World) : Calls Try.prog 83 #[.int .u64 x] w fun e w' => e = .returned (.int .i64 (Lib.bitLen x.toNat)) ∧ w = w' := by
  have hz := Lib.len8tab_size
  have i0 : 0 ≤ x / 65536 / 256 := by omega
  have i1 : x / 65536 / 256 < 256 := by omega
  have d0 : decide (4294967296 ≤ x) = false := decide_eq_false c0
  have d1 : decide (65536 ≤ x) = true := decide_eq_true c1
  have d2 : decide (256 ≤ x / 65536) = true := decide_eq_true c2
  have s := Lib.bitLen_shift24 x.toNat (by omega) (by omega)
  have e : (x / 65536 / 256).toNat = x.toNat / 16777216 := by omega
  have l := Lib.bitLen_le8' (x / 65536 / 256) i0 (by omega)
  have t := Lib.len8_of (x / 65536 / 256) i0 (by omega)
  have hi : 0 ≤ x / 65536 / 256 ∧ x / 65536 / 256 < (Lib.len8tab.size : Int) := ⟨i0, by omega⟩
  have hi2 : x / 65536 / 256 < (Lib.len8tab.size : Int) := hi.2
  have t9 : Try.prog.underlying 9 = some .string := Try.underlying9
  have T := tab_at (x / 65536 / 256) i0 i1
  rw [e] at l
  have T2 : Lib.bitLen (x / 65536 / 256).toNat = Lib.bitLen (x.toNat / 16777216) := congrArg Lib.bitLen e
  have L := Lib.hid l; have S := Lib.hid s; have TT := Lib.hid T; have T3 := Lib.hid T2
  clear l s T e t hz i1 T2
  go_enter Try.func83, Try.ntmps83
  go_wp2
  go_ret
  refine ⟨congrArg Ending.returned (congrArg (Value.int IntKind.i64) ?_), rfl⟩
  have l := L.out; have s := S.out; have T := TT.out
  simp only [T, T3.out]
  simp only [wrap64]
  omega
theorem len64_5 (x : Int) (h0 : 0 ≤ x) (h1 : x ≤ 18446744073709551615) (c0 : ¬ 4294967296 ≤ x) (c1 : 65536 ≤ x) (c2 : ¬ 256 ≤ x / 65536) (w : World) : Calls Try.prog 83 #[.int .u64 x] w fun e w' => e = .returned (.int .i64 (Lib.bitLen x.toNat)) ∧ w = w' := by
  have hz := Lib.len8tab_size
  have i0 : 0 ≤ x / 65536 := by omega
  have i1 : x / 65536 < 256 := by omega
  have d0 : decide (4294967296 ≤ x) = false := decide_eq_false c0
  have d1 : decide (65536 ≤ x) = true := decide_eq_true c1
  have d2 : decide (256 ≤ x / 65536) = false := decide_eq_false c2
  have s := Lib.bitLen_shift16 x.toNat (by omega) (by omega)
  have e : (x / 65536).toNat = x.toNat / 65536 := by omega
  have l := Lib.bitLen_le8' (x / 65536) i0 (by omega)
  have t := Lib.len8_of (x / 65536) i0 (by omega)
  have hi : 0 ≤ x / 65536 ∧ x / 65536 < (Lib.len8tab.size : Int) := ⟨i0, by omega⟩
  have hi2 : x / 65536 < (Lib.len8tab.size : Int) := hi.2
  have t9 : Try.prog.underlying 9 = some .string := Try.underlying9
  have T := tab_at (x / 65536) i0 i1
  rw [e] at l
  have T2 : Lib.bitLen (x / 65536).toNat = Lib.bitLen (x.toNat / 65536) := congrArg Lib.bitLen e
  have L := Lib.hid l; have S := Lib.hid s; have TT := Lib.hid T; have T3 := Lib.hid T2
  clear l s T e t hz i1 T2
  go_enter Try.func83, Try.ntmps83
  go_wp2
  go_ret
  refine ⟨congrArg Ending.returned (congrArg (Value.int IntKind.i64) ?_), rfl⟩
  have l := L.out; have s := S.out; have T := TT.out
  simp only [T, T3.out]
  simp only [wrap64]
  omega
theorem len64_6 (x : Int) (h0 : 0 ≤ x) (h1 : x ≤ 18446744073709551615) (c0 : ¬ 4294967296 ≤ x) (c1 : ¬ 65536 ≤ x) (c2 : 256 ≤ x) (w : World) : Calls Try.prog 83 #[.int .u64 x] w fun e w' => e = .returned (.int .i64 (Lib.bitLen x.toNat)) ∧ w = w' := by
  have hz := Lib.len8tab_size
  have i0 : 0 ≤ x / 256 := by omega
  have i1 : x / 256 < 256 := by omega
  have d0 : decide (4294967296 ≤ x) = false := decide_eq_false c0
  have d1 : decide (65536 ≤ x) = false := decide_eq_false c1
  have d2 : decide (256 ≤ x) = true := decide_eq_true c2
  have s := Lib.bitLen_shift8 x.toNat (by omega) (by omega)
  have e : (x / 256).toNat = x.toNat / 256 := by omega
  have l := Lib.bitLen_le8' (x / 256) i0 (by omega)
  have t := Lib.len8_of (x / 256) i0 (by omega)
  have hi : 0 ≤ x / 256 ∧ x / 256 < (Lib.len8tab.size : Int) := ⟨i0, by omega⟩
  have hi2 : x / 256 < (Lib.len8tab.size : Int) := hi.2
  have t9 : Try.prog.underlying 9 = some .string := Try.underlying9
  have T := tab_at (x / 256) i0 i1
  rw [e] at l
  have T2 : Lib.bitLen (x / 256).toNat = Lib.bitLen (x.toNat / 256) := congrArg Lib.bitLen e
  have L := Lib.hid l; have S := Lib.hid s; have TT := Lib.hid T; have T3 := Lib.hid T2
  clear l s T e t hz i1 T2
  go_enter Try.func83, Try.ntmps83
  go_wp2
  go_ret
  refine ⟨congrArg Ending.returned (congrArg (Value.int IntKind.i64) ?_), rfl⟩
  have l := L.out; have s := S.out; have T := TT.out
  simp only [T, T3.out]
  simp only [wrap64]
  omega
theorem len64_7 (x : Int) (h0 : 0 ≤ x) (h1 : x ≤ 18446744073709551615) (c0 : ¬ 4294967296 ≤ x) (c1 : ¬ 65536 ≤ x) (c2 : ¬ 256 ≤ x) (w : World) : Calls Try.prog 83 #[.int .u64 x] w fun e w' => e = .returned (.int .i64 (Lib.bitLen x.toNat)) ∧ w = w' := by
  have hz := Lib.len8tab_size
  have i0 : 0 ≤ x := by omega
  have i1 : x < 256 := by omega
  have d0 : decide (4294967296 ≤ x) = false := decide_eq_false c0
  have d1 : decide (65536 ≤ x) = false := decide_eq_false c1
  have d2 : decide (256 ≤ x) = false := decide_eq_false c2
  have q : x.toNat = x.toNat / 1 := by omega
  have s : Lib.bitLen x.toNat = 0 + Lib.bitLen (x.toNat / 1) := by simp
  have e : (x).toNat = x.toNat / 1 := by omega
  have l := Lib.bitLen_le8' (x) i0 (by omega)
  have t := Lib.len8_of (x) i0 (by omega)
  have hi : 0 ≤ x ∧ x < (Lib.len8tab.size : Int) := ⟨i0, by omega⟩
  have hi2 : x < (Lib.len8tab.size : Int) := hi.2
  have t9 : Try.prog.underlying 9 = some .string := Try.underlying9
  have T := tab_at (x) i0 i1
  rw [e] at l
  have T2 : Lib.bitLen (x).toNat = Lib.bitLen (x.toNat / 1) := congrArg Lib.bitLen e
  have L := Lib.hid l; have S := Lib.hid s; have TT := Lib.hid T; have T3 := Lib.hid T2
  clear l s T e t hz i1 T2 q
  go_enter Try.func83, Try.ntmps83
  go_wp2
  go_ret
  refine ⟨congrArg Ending.returned (congrArg (Value.int IntKind.i64) ?_), rfl⟩
  have l := L.out; have s := S.out; have T := TT.out
  simp only [T, T3.out]
  simp only [wrap64]
  omega
theorem len64_calls (x : Int) (h0 : 0 ≤ x) (h1 : x ≤ 18446744073709551615) (w : World) : Calls Try.prog 83 #[.int .u64 x] w fun e w' => e = .returned (.int .i64 (Lib.bitLen x.toNat)) ∧ w = w' := by
  by_cases c0 : 4294967296 ≤ x
  · by_cases c1 : 65536 ≤ x / 4294967296
    · by_cases c2 : 256 ≤ x / 4294967296 / 65536
      · exact len64_0 x h0 h1 c0 c1 c2 w
      · exact len64_1 x h0 h1 c0 c1 c2 w
    · by_cases c2 : 256 ≤ x / 4294967296
      · exact len64_2 x h0 h1 c0 c1 c2 w
      · exact len64_3 x h0 h1 c0 c1 c2 w
  · by_cases c1 : 65536 ≤ x
    · by_cases c2 : 256 ≤ x / 65536
      · exact len64_4 x h0 h1 c0 c1 c2 w
      · exact len64_5 x h0 h1 c0 c1 c2 w
    · by_cases c2 : 256 ≤ x
      · exact len64_6 x h0 h1 c0 c1 c2 w
      · exact len64_7 x h0 h1 c0 c1 c2 w
theorem bitLen_log (x : Nat) (h0 : x ≠ 0) (h : x < 18446744073709551616) : Lib.bitLen x = x.log2 + 1 := by
  have h1 := Nat.log2_self_le h0
  have h2 := Nat.lt_log2_self (n := x)
  rw [Lib.bitLen_shift x.log2 x h1 h]
  have h3 : x / 2 ^ x.log2 = 1 := by
    apply Nat.div_eq_of_lt_le
    · omega
    · rw [Nat.pow_succ] at h2; omega
  rw [h3]; rfl
theorem lead64_calls (x : Nat) (h0 : x ≠ 0) (h1 : x < 18446744073709551616) (w : World) : Calls Try.prog 82 #[u64v x] w fun e w' => e = .returned (.int .i64 ((63 - x.log2 : Nat) : Int)) ∧ w = w' := by
  have HL := Lib.hid (fun U => len64_calls (x : Int) (by omega) (by omega) U)
  have hb := bitLen_log x h0 h1
  have hl : x.log2 < 64 := (Nat.log2_lt h0).2 (by simpa using h1)
  have e : 64 - ((Lib.bitLen x : Nat) : Int) = ((63 - x.log2 : Nat) : Int) := by omega
  have e2 : IntKind.i64.wrap ((63 - x.log2 : Nat) : Int) = ((63 - x.log2 : Nat) : Int) := by rw [IntKind.wrap_i64]; omega
  simp only [Int.toNat_natCast] at HL
  rw [hb] at HL e
  generalize x.log2 = s at *
  generalize 63 - s = t at *
  clear hb hl
  go_enter Try.func82, Try.ntmps82
  go_wp2_with (first | (go_at_call 83; (with_reducible refine (HL.out _).mono ?_); rintro _ _ ⟨rfl, rfl⟩) | fail)
  rw [show (64 : Int) - ((s : Int) + 1) = (t : Int) by omega]
  go_ret
  exact ⟨rfl, rfl⟩
theorem maskN (a : Nat) (ha : a < 18446744073709551616) : bits .and .u64 (a : Int) 4294967295 = ((a % 4294967296 : Nat) : Int) := by
  have h := bits_and_u64_nat a 4294967295 ha (by omega)
  have e : a &&& 4294967295 = a % 4294967296 := Nat.and_two_pow_sub_one_eq_mod a 32
  rw [e] at h
  exact h
theorem divN (a : Nat) : (a : Int) / 4294967296 = ((a / 4294967296 : Nat) : Int) := by omega
theorem mulN (a b : Nat) : (a : Int) * (b : Int) = ((a * b : Nat) : Int) := (Int.natCast_mul a b).symm
theorem addN (a b : Nat) : (a : Int) + (b : Int) = ((a + b : Nat) : Int) := (Int.natCast_add a b).symm
theorem wrapN (a : Nat) (ha : a < 18446744073709551616) : IntKind.u64.wrap (a : Int) = (a : Int) := by rw [IntKind.wrap_u64]; omega
theorem wrapM (a : Nat) : IntKind.u64.wrap (a : Int) = ((a % 18446744073709551616 : Nat) : Int) := by rw [IntKind.wrap_u64]; omega
set_option maxHeartbeats 1000000 in
theorem mul64_calls (x y : Nat) (hx : x < 18446744073709551616) (hy : y < 18446744073709551616) (w : World) :
    Calls Try.prog 77 #[u64v x, u64v y] w fun e w' => e = .returned (.tuple #[u64v (x * y / 18446744073709551616), u64v (x * y % 18446744073709551616)]) ∧ w = w' := by
  obtain ⟨bd, bt, bw, hhi⟩ := Lib.mul64_hi x y hx hy
  have ba := Lib.half_mul_le (a := x / 4294967296) (b := y / 4294967296) (by omega) (by omega)
  have bb := Lib.half_mul_le (a := x / 4294967296) (b := y % 4294967296) (by omega) (by omega)
  have bc := Lib.half_mul_le (a := x % 4294967296) (b := y / 4294967296) (by omega) (by omega)
  have ba' : x / 4294967296 * (y / 4294967296) < 18446744073709551616 := by omega
  have bb' : x / 4294967296 * (y % 4294967296) < 18446744073709551616 := by omega
  have bc' : x % 4294967296 * (y / 4294967296) < 18446744073709551616 := by omega
  have bh1 : x / 4294967296 * (y / 4294967296) + (x / 4294967296 * (y % 4294967296) + x % 4294967296 * (y % 4294967296) / 4294967296) / 4294967296 < 18446744073709551616 := by omega
  have bh : x / 4294967296 * (y / 4294967296) + (x / 4294967296 * (y % 4294967296) + x % 4294967296 * (y % 4294967296) / 4294967296) / 4294967296 + ((x / 4294967296 * (y % 4294967296) + x % 4294967296 * (y % 4294967296) / 4294967296) % 4294967296 + x % 4294967296 * (y / 4294967296)) / 4294967296 < 18446744073709551616 := by omega
  have HH := Lib.hid hhi
  clear hhi ba bb bc
  have B := Lib.hid (And.intro bd (And.intro bb' (And.intro bt (And.intro bc' (And.intro bw (And.intro ba' (And.intro bh1 bh)))))))
  clear bd bb' bt bc' bw ba' bh1 bh
  go_enter Try.func77, Try.ntmps77
  go_wp2
  obtain ⟨bd, bb', bt, bc', bw, ba', bh1, bh⟩ := B.out
  simp only [maskN x hx, maskN y hy, divN, mulN, addN, wrapN _ bd, wrapN _ bb', wrapN _ bt, maskN _ bt, wrapN _ bc', wrapN _ bw, wrapN _ ba', wrapN _ bh1, wrapN _ bh, wrapM (x * y)]
  rw [HH.out]
  go_ret2
  exact ⟨rfl, rfl⟩
theorem add64_run (x y c s k : Nat) (hc : c ≤ 1) (hs : s < 18446744073709551616) (h : s + 18446744073709551616 * k = x + y + c) (w : World) :
    (callFunc 78 #[u64v x, u64v y, u64v c]).run Try.prog w = .ok (.value (.tuple #[u64v s, u64v k])) w := by
  rw [run_callFunc_extern (e := add64Entry) Try.func78 (by kernel_rfl) (by kernel_rfl) (by kernel_rfl) (by kernel_rfl), run_add64 x y c (by omega) (by omega) (by omega) (by omega)]
  simp only [Result.andThen]
  have e1 : ((x : Int) + y + c) % 18446744073709551616 = (s : Int) := by omega
  have e2 : ((x : Int) + y + c) / 18446744073709551616 = (k : Int) := by omega
  rw [e1, e2]
def sub64E : Array Value → Sem Value := fun args => do
  let (x, y, b) ← Extern.MathBitsCarry.three "Sub64" args
  pure (Extern.MathBitsCarry.pair ((x + Extern.MathBitsCarry.m64 - y - b) % Extern.MathBitsCarry.m64) (if x < y + b then 1 else 0))
theorem run_sub64E {P : Program} (x y b : Nat) (hb : b ≤ 1) (w : World) :
    (sub64E #[u64v x, u64v y, u64v b]).run P w = .ok (.tuple #[u64v ((x + 18446744073709551616 - y - b) % 18446744073709551616), u64v (if x < y + b then 1 else 0)]) w := by
  have : b = 0 ∨ b = 1 := by omega
  rcases this with rfl | rfl <;> rfl
theorem sub64_run (x y b s k : Nat) (hb : b ≤ 1) (hy : y < 18446744073709551616) (hx : x < 18446744073709551616) (hs : s < 18446744073709551616) (h : s + y + b = x + 18446744073709551616 * k) (w : World) :
    (callFunc 79 #[u64v x, u64v y, u64v b]).run Try.prog w = .ok (.value (.tuple #[u64v s, u64v k])) w := by
  rw [run_callFunc_extern (e := sub64E) Try.func79 (by kernel_rfl) (by kernel_rfl) (by kernel_rfl) (by kernel_rfl), run_sub64E x y b hb]
  simp only [Result.andThen]
  have e1 : (x + 18446744073709551616 - y - b) % 18446744073709551616 = s := by omega
  have e2 : (if x < y + b then 1 else 0) = k := by split <;> omega
  rw [e1, e2]
end Go.Proofs.Ytdakeenjeieekaa
