/- The contracts of the reference's sums, and of the statements' own helpers; the sum by pairs. -/
import Derived.Test.YtkggkbcnlpjbjaaSumE
set_option linter.unusedVariables false
set_option linter.unusedSimpArgs false
namespace Go.Proofs.Ytkggkbcnlpjbjaa
open Go.RowKit

def pairs (n : Int) : List UInt8 → Int
  | [] => n
  | [x] => putI n (256 * x.toNat)
  | x :: y :: l => pairs (putI n (256 * x.toNat + y.toNat)) l

theorem run_pairs : ∀ (l : List UInt8) (s h : Int), (Ad.run ⟨false, h, s⟩ l).all = 65535 - pairs s l
  | [], s, h => rfl
  | [x], s, h => by simp [Ad.run, Ad.step, Ad.all, pairs, Int.mul_comm]
  | x :: y :: l, s, h => by
    have := run_pairs l (putI s (256 * x.toNat + y.toNat)) y.toNat
    rw [pairs, ← this]
    simp [Ad.run, Ad.step, Int.mul_comm]
theorem ck_pairs (bs : List UInt8) : ck bs = 65535 - pairs 0 bs := run_pairs bs 0 0

theorem pairs_range : ∀ (l : List UInt8) (n : Int), 0 ≤ n → n ≤ 65535 → 0 ≤ pairs n l ∧ pairs n l ≤ 65535
  | [], n, h0, h1 => ⟨h0, h1⟩
  | [x], n, h0, h1 => by have := x.toNat_lt; exact putI_range h0 h1 (by omega) (by omega)
  | x :: y :: l, n, h0, h1 => by
    have := x.toNat_lt
    have := y.toNat_lt
    obtain ⟨a, b⟩ := putI_range h0 h1 (b := 256 * x.toNat + y.toNat) (by omega) (by omega)
    exact pairs_range l _ a b

theorem rput_calls (a b : Int) (w : World) (h0 : 0 ≤ a) (h1 : a ≤ 65535) (h2 : 0 ≤ b) (h3 : b ≤ 65535) :
    Calls Try.prog 29 #[.int .i64 a, .int .i64 b] w fun e w' => e = .returned (.int .i64 (putI a b)) ∧ w = w' := by
  have hp : putI a b = if 65535 < a + b then a + b - 65536 + 1 else a + b := by unfold putI; split <;> omega
  have HP := Lib.hid hp
  clear hp
  by_cases h : 65535 < a + b
  · go_enter Try.func29, Try.ntmps29
    go_wp2
    go_ret
    exact ⟨ret_int (by rw [HP.out, if_pos h]), rfl⟩
  · go_enter Try.func29, Try.ntmps29
    go_wp2
    go_ret
    exact ⟨ret_int (by rw [HP.out, if_neg (by omega)]), rfl⟩

set_option maxHeartbeats 400000 in
theorem rsum_calls (A : Option Addr) (c : Nat) (bs : List UInt8) (w : World) (hR : Rd (fun _ => False) w A (u8s bs)) (hl : bs.length ≤ 140737488351232) :
    Calls Try.prog 21 #[.slice A bs.length c] w fun e w' => e = .returned (.int .i64 (ck bs)) ∧ w = w' := by
  have HR := Lib.hid hR
  have HC := Lib.hid (ck_pairs bs)
  clear hR
  go_enter Try.func21, Try.ntmps21
  go_wp2
  go_loop [3, 4, 5] (fun n i _ => ∃ (k : Nat) (m : Int), k ≤ bs.length + 1 ∧ i = .int .i64 k ∧ n = .int .i64 m ∧ 0 ≤ m ∧ m ≤ 65535 ∧ Hid (pairs m (bs.drop k) = pairs 0 bs)) (fun _ i _ => bs.length + 1 - (intOf i).toNat)
  case atStart => exact ⟨0, 0, by omega, rfl, rfl, by omega, by omega, rfl⟩
  case round =>
    obtain ⟨k, m, hk, rfl, rfl, hm0, hm1, HI⟩ := hrel
    by_cases hlt : k < bs.length
    · obtain ⟨b, off, rfl⟩ := HR.out.some_ (by rw [u8s_length]; omega)
      have hc := HR.out.at_ k (by rw [u8s_length]; omega)
      have e1 : (u8s bs)[k]'(by rw [u8s_length]; omega) = .int .u8 (bs[k].toNat : Int) := by simp [u8s]
      rw [e1] at hc
      have hd := List.drop_eq_getElem_cons hlt
      have HD := Lib.hid hd
      have hx := bs[k].toNat_lt
      generalize bs[k] = x at *
      clear e1 hd
      by_cases hlt2 : k + 1 < bs.length
      · have hc2 := HR.out.at_ (k + 1) (by rw [u8s_length]; omega)
        have e2 : (u8s bs)[k + 1]'(by rw [u8s_length]; omega) = .int .u8 (bs[k + 1].toNat : Int) := by simp [u8s]
        rw [e2] at hc2
        have hd2 := List.drop_eq_getElem_cons hlt2
        have HD2 := Lib.hid hd2
        have hy := bs[k + 1].toNat_lt
        generalize bs[k + 1] = y at *
        clear e2 hd2
        obtain ⟨p0, p1⟩ := putI_range hm0 hm1 (b := 256 * x.toNat + y.toNat) (by omega) (by omega)
        go_wp2_with (go_at_call 29; refine (rput_calls _ _ _ hm0 hm1 (by omega) (by omega)).mono ?_; rintro e w' ⟨rfl, rfl⟩)
        go_round
        case rel => exact ⟨k + 2, _, by omega, by go_num, rfl, p0, p1, by rw [← HI.out, HD.out, HD2.out]; rfl⟩
        case measure => simp [intOf]; omega
      · have hd2 : bs.drop (k + 1) = [] := List.drop_eq_nil_of_le (by omega)
        have hd3 : bs.drop (k + 2) = [] := List.drop_eq_nil_of_le (by omega)
        have HD2 := Lib.hid hd2
        have HD3 := Lib.hid hd3
        clear hd2 hd3
        obtain ⟨p0, p1⟩ := putI_range hm0 hm1 (b := 256 * x.toNat) (by omega) (by omega)
        go_wp2_with (go_at_call 29; refine (rput_calls _ _ _ hm0 hm1 (by omega) (by omega)).mono ?_; rintro e w' ⟨rfl, rfl⟩)
        go_round
        case rel => exact ⟨k + 2, _, by omega, by go_num, rfl, p0, p1, by rw [HD3.out, ← HI.out, HD.out, HD2.out]; rfl⟩
        case measure => simp [intOf]; omega
    · have hd : bs.drop k = [] := List.drop_eq_nil_of_le (by omega)
      have HD := Lib.hid hd
      clear hd
      go_wp2
      go_ret
      refine ⟨ret_int ?_, rfl⟩
      rw [HC.out, ← HI.out, HD.out]
      rfl

def rpatchI (s a n : Int) : Int := 65535 - putI (putI (65535 - s) (65535 - a)) n
theorem rpatch_calls (s a n : Int) (w : World) (h0 : 0 ≤ s) (h1 : s ≤ 65535) (h2 : 0 ≤ a) (h3 : a ≤ 65535) (h4 : 0 ≤ n) (h5 : n ≤ 65535) :
    Calls Try.prog 16 #[.int .i64 s, .int .i64 a, .int .i64 n] w fun e w' => e = .returned (.int .i64 (patchI s a n)) ∧ w = w' := by
  obtain ⟨p0, p1⟩ := putI_range (a := 65535 - s) (b := 65535 - a) (by omega) (by omega) (by omega) (by omega)
  obtain ⟨q0, q1⟩ := putI_range p0 p1 h4 h5
  go_enter Try.func16, Try.ntmps16
  go_wp2_with fail
  refine (rput_calls _ _ _ (by omega) (by omega) (by omega) (by omega)).mono ?_
  rintro e w' ⟨rfl, rfl⟩
  go_wp2_with fail
  refine (rput_calls _ _ _ p0 p1 h4 h5).mono ?_
  rintro e w' ⟨rfl, rfl⟩
  go_wp2
  go_ret
  exact ⟨ret_int rfl, rfl⟩

theorem nought_calls (A : Option Addr) (c : Nat) (bs : List UInt8) (w : World) (hR : Rd (fun _ => False) w A (u8s bs)) (hl : bs.length ≤ 140737488351232) :
    Calls Try.prog 17 #[.slice A bs.length c] w fun e w' => e = .returned (.bool (bs.all (· == 0))) ∧ w = w' := by
  have HR := Lib.hid hR
  clear hR
  go_enter Try.func17, Try.ntmps17
  go_wp2
  go_loop [3] (fun i => ∃ (k : Nat), k ≤ bs.length ∧ i = .int .i64 k ∧ Hid ((bs.take k).all (· == 0) = true)) (fun i => bs.length - (intOf i).toNat)
  case atStart => exact ⟨0, by omega, rfl, rfl⟩
  case round =>
    obtain ⟨k, hk, rfl, HI⟩ := hrel
    by_cases hlt : k < bs.length
    · obtain ⟨b, off, rfl⟩ := HR.out.some_ (by rw [u8s_length]; omega)
      have hc := HR.out.at_ k (by rw [u8s_length]; omega)
      have e1 : (u8s bs)[k]'(by rw [u8s_length]; omega) = .int .u8 (bs[k].toNat : Int) := by simp [u8s]
      rw [e1] at hc
      have ht := List.take_succ_eq_append_getElem hlt
      have HT := Lib.hid ht
      have hmem : bs[k] ∈ bs := List.getElem_mem hlt
      have HM := Lib.hid hmem
      generalize bs[k] = x at *
      clear e1 ht hmem
      by_cases hx : x = 0
      · subst hx
        go_wp2
        go_round
        case rel => exact ⟨k + 1, by omega, by go_num, by rw [HT.out, List.all_append, HI.out]; rfl⟩
        case measure => simp [intOf]; omega
      · have hx2 : ((x.toNat : Int) != 0) = true := by
          rw [bne_iff_ne]; intro e; exact hx (UInt8.toNat_inj.1 (by simpa using e))
        go_wp2
        go_ret
        refine ⟨ret_bool ?_, rfl⟩
        symm
        rw [List.all_eq_false]
        exact ⟨x, HM.out, by simpa using hx⟩
    · go_wp2
      go_ret
      refine ⟨ret_bool ?_, rfl⟩
      have := HI.out
      rw [List.take_of_length_le (by omega)] at this
      rw [this]
end Go.Proofs.Ytkggkbcnlpjbjaa
