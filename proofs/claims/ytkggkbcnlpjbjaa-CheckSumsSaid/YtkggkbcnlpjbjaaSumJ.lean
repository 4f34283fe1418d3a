/- The statement CheckFlips walked. -/
import Derived.Test.YtkggkbcnlpjbjaaSumH
import Derived.Test.YtkggkbcnlpjbjaaSumM
set_option linter.unusedVariables false
set_option linter.unusedSimpArgs false
namespace Go.Proofs.Ytkggkbcnlpjbjaa
open Go.RowKit

theorem BArg.take {w : World} {A : Option Addr} {bs : List UInt8} (h : BArg w A bs) (k : Nat) : BArg w A (bs.take k) := by
  refine .of_rd ?_ (Nat.le_trans (List.length_take_le' _ _) h.len)
  rcases h.rd with h | ⟨b, off, e, hs, h⟩
  · left; simp [u8s] at h; simp [h, u8s]
  · refine .inr ⟨b, off, e, hs, fun i hi => ?_⟩
    have hi' : i < (u8s bs).length := by rw [u8s_length] at *; simp at hi; omega
    rw [h i hi']
    simp [u8s]

theorem xor_bit : ∀ n, n < 256 → ∀ r, r < 8 → (n ^^^ 2 ^ r) < 256 ∧ ((n ^^^ 2 ^ r) = n + 2 ^ r ∨ (n ^^^ 2 ^ r) + 2 ^ r = n) := by decide +kernel
theorem flip_bit (y : UInt8) (r : Nat) (hr : r < 8) : ∃ v : UInt8, bits .xor .u8 (y.toNat : Int) ((2 : Int) ^ r) = (v.toNat : Int) ∧ ((v.toNat : Int) = y.toNat + 2 ^ r ∨ (v.toNat : Int) = y.toNat - 2 ^ r) := by
  have hy := y.toNat_lt
  obtain ⟨h1, h2⟩ := xor_bit y.toNat hy r hr
  have hp : (2 : Nat) ^ r < 256 := by
    have := Nat.pow_lt_pow_right (a := 2) (by decide) hr
    exact this
  refine ⟨UInt8.ofNat (y.toNat ^^^ 2 ^ r), ?_, ?_⟩
  · have e : (2 : Int) ^ r = ((2 ^ r : Nat) : Int) := by simp
    rw [e, u8_xor_nat _ _ hy hp, UInt8.toNat_ofNat', Nat.mod_eq_of_lt h1]
  · rw [UInt8.toNat_ofNat', Nat.mod_eq_of_lt h1]
    have e : (2 : Int) ^ r = ((2 ^ r : Nat) : Int) := by simp
    rw [e]
    omega

set_option maxHeartbeats 4000000 in
theorem flips_walk (A : Option Addr) (c : Nat) (bs : List UInt8) (i j : Int) (w : World) (hb : BArg w A bs) (hc : bs.length ≤ c) (hi : -9223372036854775808 ≤ i) (hi2 : i ≤ 9223372036854775807) (hj : -9223372036854775808 ≤ j) (hj2 : j ≤ 9223372036854775807) :
    Calls Try.prog 4 #[.slice A bs.length c, .int .i64 i, .int .i64 j] w (Good w) := by
  have hl := hb.len
  have HB := Lib.hid (hb.take (bs.length / 2 * 2))
  clear hb
  by_cases hlen : 2000 < bs.length
  · go_enter Try.func4, Try.ntmps4
    go_wp2_with (go_at_call 10; refine (known_calls _).mono ?_; rintro e w' ⟨rfl, hf⟩)
    go_ret
    exact ⟨rfl, hf⟩
  · go_enter Try.func4, Try.ntmps4
    go_wp2_with fail
    have hel : (bs.take (bs.length / 2 * 2)).length = bs.length / 2 * 2 := by simp; omega
    generalize bs.take (bs.length / 2 * 2) = es at *
    rw [← hel]
    have heven : es.length % 2 = 0 := by omega
    have hle : es.length ≤ 2000 := by omega
    clear hel
    by_cases hbad : i < 0 ∨ i % 2 = 1 ∨ (es.length : Int) - 2 < i
    · refine (seal_no A c es.length i w hbad hi hi2 (by simp only [maxLen]; omega)).mono ?_
      clear hbad
      rintro e w' ⟨rfl, rfl⟩
      go_wp2_with (go_at_call 10; refine (known_calls _).mono ?_; rintro e w' ⟨rfl, hf⟩)
      go_ret
      exact ⟨rfl, hf⟩
    · obtain ⟨k, rfl⟩ := Int.eq_ofNat_of_zero_le (show 0 ≤ i by omega)
      have hk : k % 2 = 0 := by omega
      have hk2 : k + 2 ≤ es.length := by omega
      clear hbad
      refine (seal_yes A c es k w HB.out.rd hk hk2 (by omega)).mono ?_
      rintro e w1 ⟨v1, rfl, ho1, hf1⟩
      have hsl : (sealed es k).length = es.length := by simp [sealed, zeroed]
      have hsr := sealed_right es k hk hk2
      generalize sealed es k = ss at *
      rw [← hsl] at ho1 hle
      obtain ⟨g, cap, rfl, hg0, hglt⟩ := ho1.form (by omega)
      have hck := (ck_zero_iff ss).2 hsr
      have hck1 : (ck ss == 0) = true := by rw [hck]; rfl
      have HO1 := Lib.hid ho1
      have HF1 := Lib.hid hf1
      have HSR := Lib.hid hsr
      have HSL := Lib.hid hsl
      clear ho1 hf1 hck hsr hsl
      go_wp2_with fail
      refine (right_calls _ ss.length cap ss w1 ⟨_, _, rfl, own_rd _ HO1.out (fun _ _ _ h => h)⟩ (by simp only [maxLen]; omega)).mono ?_
      rintro e w2 ⟨rfl, hf2⟩
      have HO2 := Lib.hid (own_kept0 HO1.out hf2)
      have HF2 := Lib.hid (HF1.out.trans hf2)
      rw [hck1]
      clear hf2 hck1
      by_cases hj0 : 0 ≤ j ∧ j < 8 * (ss.length : Int)
      · obtain ⟨m, rfl⟩ := Int.eq_ofNat_of_zero_le hj0.1
        have hm : m < 8 * ss.length := by omega
        clear hj0
        go_wp2_with fail
        have hq : m / 8 < ss.length := by omega
        obtain ⟨x, hx, hxs⟩ := own_some HO2.out (m / 8) hq
        have hfz := HO2.out.frozenAt (m / 8)
        obtain ⟨y, rfl, hy⟩ : ∃ y : UInt8, x = .int .u8 y.toNat ∧ ss[m / 8]? = some y := by
          simp [u8s] at hxs
          obtain ⟨y, h1, h2⟩ := hxs
          exact ⟨y, h2.symm, h1⟩
        have HY := Lib.hid hy
        clear hxs hy
        have hwq : IntKind.i64.wrap ((m : Int) / 8) = ((m / 8 : Nat) : Int) := by rw [IntKind.wrap_i64]; omega
        have hq0 : (0 : Int) ≤ ((m / 8 : Nat) : Int) := by omega
        have hq1 : ((m / 8 : Nat) : Int) < (ss.length : Int) := by omega
        generalize hqd : m / 8 = q at *
        have HQ := Lib.hid hqd
        clear hqd
        obtain ⟨v, hv, hvd⟩ := flip_bit y (m % 8) (by omega)
        have hlq : q < ss.length := hq
        have hne : ck (ss.set q v) ≠ 0 := by
          have hyq : ss[q] = y := by
            have := HY.out
            rw [List.getElem?_eq_getElem hlq] at this
            exact Option.some.inj this
          have hp : (2 : Int) ^ (m % 8) = ((2 ^ (m % 8) : Nat) : Int) := by simp
          have hp1 : (2 : Nat) ^ (m % 8) ≤ 2 ^ 7 := Nat.pow_le_pow_right (by decide) (by omega)
          have hp0 : 0 < (2 : Nat) ^ (m % 8) := Nat.pow_pos (by decide)
          refine flip_wrong ss q hlq v _ (by rw [hyq]; exact hvd) (by rw [hp]; omega) (by rw [hp]; omega) HSR.out.1
        have hkb : (ck (ss.set q v) == 0) = false := by simpa using hne
        have hown := own_set HO2.out q (.int .u8 v.toNat)
        rw [u8s_set] at hown
        have HOW := Lib.hid hown
        have hgw : ¬ g < w.heap.size := by omega
        have HFW := Lib.hid ((HF2.out.setCell (p := ⟨g, q, none⟩) (fun h => hgw h) (.int .u8 v.toNat)).drew)
        have HKB := Lib.hid hkb
        have htm : (m : Int).tmod 8 = ((m % 8 : Nat) : Int) := by rw [Int.tmod_eq_emod_of_nonneg (by omega)]; omega
        have hr8 : m % 8 = 0 ∨ m % 8 = 1 ∨ m % 8 = 2 ∨ m % 8 = 3 ∨ m % 8 = 4 ∨ m % 8 = 5 ∨ m % 8 = 6 ∨ m % 8 = 7 := by omega
        clear hown hkb hne hvd hwq
        have hwq : IntKind.i64.wrap ((m : Int) / 8) = (q : Int) := by rw [IntKind.wrap_i64]; have := HQ.out; omega
        generalize hrd : m % 8 = r at *
        clear hrd
        rcases hr8 with rfl | rfl | rfl | rfl | rfl | rfl | rfl | rfl
        all_goals
          simp only [Int.reducePow] at hv htm
          refine wp_region_class (· = w2.drew) 10 (by kernel_rfl) (by kernel_rfl) rfl ?_
          simp only [List.take_succ_cons, List.take_zero, List.drop_succ_cons, List.drop_zero]
          repeat (quiet_step (fail))
          refine wpQuiet_nil ?_
          rintro _ rfl
          go_wp2_with fail
          refine (right_calls _ ss.length cap (ss.set q v) _ ⟨_, cap, by rw [List.length_set], own_rd _ HOW.out.drew (fun _ _ _ h => h)⟩ (by rw [List.length_set]; simp only [maxLen]; omega)).mono ?_
          rw [HKB.out]
          rintro e w3 ⟨rfl, hf3⟩
          go_wp2_with (go_at_call 10; refine (known_calls _).mono ?_; rintro e w' ⟨rfl, hf⟩)
          go_ret
          exact ⟨rfl, (HFW.out.trans hf3).trans hf⟩
      · have hjn : j < 0 ∨ 8 * (ss.length : Int) ≤ j := by omega
        clear hj0
        by_cases hj1 : j < 0
        · clear hjn
          go_wp2_with (go_at_call 10; refine (known_calls _).mono ?_; rintro e w' ⟨rfl, hf⟩)
          go_ret
          exact ⟨rfl, HF2.out.trans hf⟩
        · have hj2 : 8 * (ss.length : Int) ≤ j := by omega
          clear hjn
          go_wp2_with (go_at_call 10; refine (known_calls _).mono ?_; rintro e w' ⟨rfl, hf⟩)
          go_ret
          exact ⟨rfl, HF2.out.trans hf⟩
end Go.Proofs.Ytkggkbcnlpjbjaa
