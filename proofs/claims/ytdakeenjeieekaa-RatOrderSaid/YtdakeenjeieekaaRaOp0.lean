/- Chapter 01: of two one is less, or they are the same: RatOrder walked. -/
import Derived.Test.YtdakeenjeieekaaRaFi
import Derived.Test.YtdakeenjeieekaaRaCi
set_option linter.unusedVariables false
set_option linter.unusedSimpArgs false
namespace Go.Proofs.Ytdakeenjeieekaa
open Go.RowKit
attribute [local go_sem] Oper.semAt_some

theorem cmpN_anti (an ad bn bd : Int) : cmpN an ad bn bd = - cmpN bn bd an ad := by
  unfold cmpN
  by_cases h1 : an * bd < bn * ad
  · rw [if_pos h1, if_neg (by omega), if_neg (by omega)]
  · by_cases h2 : an * bd = bn * ad
    · rw [if_neg h1, if_pos h2, if_neg (by omega), if_pos h2.symm]; rfl
    · rw [if_neg h1, if_neg h2, if_pos (by omega)]; rfl
theorem cmpN_range (an ad bn bd : Int) : cmpN an ad bn bd = -1 ∨ cmpN an ad bn bd = 0 ∨ cmpN an ad bn bd = 1 := by
  unfold cmpN; split
  · exact .inl rfl
  · split
    · exact .inr (.inl rfl)
    · exact .inr (.inr rfl)
theorem cmpN_zero (an ad bn bd : Int) : cmpN an ad bn bd = 0 ↔ an * bd = bn * ad := by
  unfold cmpN; split
  · constructor <;> intro h <;> omega
  · split
    · constructor <;> intro h <;> first | assumption | rfl
    · constructor
      · intro h; omega
      · intro h; contradiction
theorem cmpN_neg (an ad bn bd : Int) : cmpN an ad bn bd < 0 ↔ an * bd < bn * ad := by
  unfold cmpN; split
  · constructor <;> intro h <;> first | assumption | omega
  · split
    · constructor <;> intro h <;> omega
    · constructor <;> intro h <;> omega
theorem rq_cross {an ad bn bd : Int} (ha : 1 ≤ ad) (hb : 1 ≤ bd) : rq an ad = rq bn bd ↔ an * bd = bn * ad := by
  unfold rq
  rw [Rat.mkRat_eq_iff (by omega) (by omega), Int.natAbs_of_nonneg (by omega), Int.natAbs_of_nonneg (by omega)]
theorem ok_eq {a b : Int × Int} (ha : Okp a) (hb : Okp b) : cmpN a.1 a.2 b.1 b.2 = 0 ↔ a.1 = b.1 ∧ a.2 = b.2 := by
  rw [cmpN_zero]
  constructor
  · intro h
    have h1 := (rq_cross ha.1 hb.1).2 h
    obtain ⟨e1, e2⟩ := rq_parts ha.p
    obtain ⟨e3, e4⟩ := rq_parts hb.p
    rw [h1] at e1 e2
    refine ⟨by rw [← e1, e3], ?_⟩
    have := ha.1; have := hb.1
    omega
  · rintro ⟨h1, h2⟩; rw [h1, h2]
theorem sub_sign {a b : Int × Int} (h : rE (subT a b) = 0) : ((rP (subT a b)).1 < 0 ↔ cmpN a.1 a.2 b.1 b.2 < 0) ∧ ((rP (subT a b)).1 = 0 ↔ cmpN a.1 a.2 b.1 b.2 = 0) := by
  obtain ⟨ha, hb, hd, hv⟩ := twoR_inv h
  change Okp (rP (subT a b)) at hd
  change vq (rP (subT a b)) = _ at hv
  generalize rP (subT a b) = d at *
  obtain ⟨a1, a2⟩ := a
  obtain ⟨b1, b2⟩ := b
  obtain ⟨d1, d2⟩ := d
  have h1 := ha.1; have h2 := hb.1; have h3 := hd.1
  dsimp only at *
  have he : rq d1 d2 + rq b1 b2 = rq a1 a2 := by
    show vq (d1, d2) + vq (b1, b2) = vq (a1, a2)
    rw [hv, Rat.sub_add_cancel]
  unfold rq at he
  rw [Rat.mkRat_add_mkRat _ _ (by omega) (by omega), Rat.mkRat_eq_iff (Nat.mul_ne_zero (by omega) (by omega)) (by omega), Int.natCast_mul, Int.natAbs_of_nonneg (by omega), Int.natAbs_of_nonneg (by omega), Int.natAbs_of_nonneg (by omega)] at he
  have hx : d1 * (b2 * a2) = d2 * (a1 * b2 - b1 * a2) := by
    rw [Int.add_mul, Int.mul_assoc, Int.mul_assoc, Int.mul_left_comm b1 d2 a2, Int.mul_left_comm a1 d2 b2] at he
    rw [Int.mul_sub]; omega
  have hp : 0 < b2 * a2 := Int.mul_pos (by omega) (by omega)
  rw [cmpN_neg, cmpN_zero]
  generalize b2 * a2 = P at *
  generalize a1 * b2 = X at *
  generalize b1 * a2 = Y at *
  constructor
  · constructor
    · intro h
      have := Int.mul_neg_of_neg_of_pos h hp
      rw [hx] at this
      rw [Int.mul_comm] at this
      have := Int.neg_of_mul_neg_left this (show 0 < d2 by omega)
      omega
    · intro h
      have := Int.mul_neg_of_pos_of_neg (show 0 < d2 by omega) (show X - Y < 0 by omega)
      rw [← hx] at this
      exact Int.neg_of_mul_neg_left this hp
  · constructor
    · intro h
      rw [h, Int.zero_mul] at hx
      rcases Int.mul_eq_zero.1 hx.symm with h4 | h4 <;> omega
    · intro h
      rw [h, Int.sub_self, Int.mul_zero] at hx
      rcases Int.mul_eq_zero.1 hx with h4 | h4 <;> omega
theorem floor_down {n d : Int} (h : RtOk n d) : (cmpN (n / d) 1 n d = 0 ↔ d = 1) ∧ cmpN (n / d) 1 n d ≤ 0 := by
  have h1 := Int.ediv_mul_le n (show d ≠ 0 by have := h.1; omega)
  constructor
  · rw [cmpN_zero, Int.mul_one]
    constructor
    · intro h2
      have h3 : d ∣ n := ⟨n / d, by rw [Int.mul_comm]; exact h2.symm⟩
      have h4 : Nat.gcd n.natAbs d.natAbs = d.natAbs := Nat.gcd_eq_right (Int.natAbs_dvd_natAbs.2 h3)
      rw [h.2.2] at h4
      have := h.1; omega
    · rintro rfl; rw [Int.ediv_one, Int.mul_one]
  · unfold cmpN
    rw [Int.mul_one]
    split
    · omega
    · rw [if_pos (by omega)]; omega
theorem ceil_up {n d : Int} (h : RtOk n d) : (d = 1 → -((-n) / d) = n / d) ∧ (d ≠ 1 → -((-n) / d) = n / d + 1) := by
  constructor
  · rintro rfl; rw [Int.ediv_one, Int.ediv_one]; omega
  · intro hd
    have h0 := h.1
    rw [tdiv_ceil h.1, tdiv_floor h.1]
    have hne : n.tmod d ≠ 0 := by
      intro hz
      have h3 : d ∣ n := Int.dvd_of_tmod_eq_zero hz
      have h4 : Nat.gcd n.natAbs d.natAbs = d.natAbs := Nat.gcd_eq_right (Int.natAbs_dvd_natAbs.2 h3)
      rw [h.2.2] at h4
      omega
    split <;> split <;> omega
end Go.Proofs.Ytdakeenjeieekaa
