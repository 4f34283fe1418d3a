/- Chapter 01: fractions, cut ahead of the sum and of the product. No program in sight. -/
import Derived.Test.YtdakeenjeieekaaBase
set_option linter.unusedVariables false
set_option linter.unusedSimpArgs false
namespace Go.Proofs.Ytdakeenjeieekaa

/-- A sum or a difference of two numbers. -/
def SumOf (t x y : Nat) : Prop := t = x + y ∨ t + y = x ∨ t + x = y
theorem SumOf.dvd_left {t x y c : Nat} (h : SumOf t x y) (ht : c ∣ t) (hy : c ∣ y) : c ∣ x := by
  rcases h with h | h | h
  · subst h; exact (Nat.dvd_add_left hy).1 ht
  · rw [← h]; exact Nat.dvd_add ht hy
  · exact (Nat.dvd_add_right ht).1 (h ▸ hy)
theorem SumOf.symm {t x y : Nat} (h : SumOf t x y) : SumOf t y x := by
  rcases h with h | h | h
  · exact .inl (by omega)
  · exact .inr (.inr (by omega))
  · exact .inr (.inl (by omega))
theorem SumOf.mul {t x y : Nat} (h : SumOf t x y) (g : Nat) : SumOf (g * t) (g * x) (g * y) := by
  rcases h with h | h | h
  · exact .inl (by rw [h, Nat.mul_add])
  · exact .inr (.inl (by rw [← h, Nat.mul_add]))
  · exact .inr (.inr (by rw [← h, Nat.mul_add]))
theorem gcd_three {t p q g : Nat} (hp : Nat.Coprime t p) (hq : Nat.Coprime t q) : Nat.gcd t (p * q * g) = Nat.gcd t g :=
  Nat.Coprime.gcd_mul_left_cancel_right g (Nat.Coprime.mul_right hp hq).symm
/-- The sum of two fractions, cut ahead: its parts, and that they have no common divisor. -/
theorem sum_cut {aN aD bN bD g t : Nat} (ha : Nat.Coprime aN aD) (hb : Nat.Coprime bN bD) (hg : g = Nat.gcd aD bD) (h1 : 0 < aD) (h2 : 0 < bD) (ht : SumOf t (aN * (bD / g)) (bN * (aD / g))) :
    SumOf (g * t) (aN * bD) (bN * aD) ∧ Nat.gcd (g * t) (aD * bD) = g * Nat.gcd g t ∧ (g * t) / (g * Nat.gcd g t) = t / Nat.gcd g t ∧ (aD * bD) / (g * Nat.gcd g t) = (aD / g) * (bD / Nat.gcd g t) ∧ 0 < g ∧ Nat.gcd g t ∣ bD := by
  have g0 : 0 < g := hg ▸ Nat.gcd_pos_of_pos_left bD h1
  have hpq : Nat.Coprime (aD / g) (bD / g) := by subst hg; exact Nat.coprime_div_gcd_div_gcd g0
  have ga : g ∣ aD := hg ▸ Nat.gcd_dvd_left aD bD
  have gb : g ∣ bD := hg ▸ Nat.gcd_dvd_right aD bD
  obtain ⟨p, hp⟩ := ga
  obtain ⟨q, hq⟩ := gb
  have ep : aD / g = p := by rw [hp, Nat.mul_div_cancel_left p g0]
  have eq : bD / g = q := by rw [hq, Nat.mul_div_cancel_left q g0]
  rw [ep, eq] at hpq ht
  have htp : Nat.Coprime t p := by
    have c1 : Nat.gcd t p ∣ aN * q := ht.dvd_left (Nat.gcd_dvd_left t p) (Nat.dvd_trans (Nat.gcd_dvd_right t p) (Nat.dvd_mul_left p bN))
    have c2 : Nat.Coprime (aN * q) p := Nat.Coprime.mul_left (Nat.Coprime.coprime_dvd_right (hp ▸ Nat.dvd_mul_left p g) ha) hpq.symm
    exact Nat.eq_one_of_dvd_one (c2 ▸ Nat.dvd_gcd c1 (Nat.gcd_dvd_right t p))
  have htq : Nat.Coprime t q := by
    have c1 : Nat.gcd t q ∣ bN * p := ht.symm.dvd_left (Nat.gcd_dvd_left t q) (Nat.dvd_trans (Nat.gcd_dvd_right t q) (Nat.dvd_mul_left q aN))
    have c2 : Nat.Coprime (bN * p) q := Nat.Coprime.mul_left (Nat.Coprime.coprime_dvd_right (hq ▸ Nat.dvd_mul_left q g) hb) hpq
    exact Nat.eq_one_of_dvd_one (c2 ▸ Nat.dvd_gcd c1 (Nat.gcd_dvd_right t q))
  have hh : Nat.gcd t (p * q * g) = Nat.gcd g t := by rw [gcd_three htp htq, Nat.gcd_comm]
  have e1 : aD * bD = g * (p * q * g) := by rw [hp, hq, Nat.mul_assoc, Nat.mul_assoc, Nat.mul_left_comm p g q, Nat.mul_comm g (p * q), ← Nat.mul_assoc p q g, Nat.mul_comm (p * q) g]
  have e2 : Nat.gcd (g * t) (aD * bD) = g * Nat.gcd g t := by rw [e1, Nat.gcd_mul_left, hh]
  have h0 : 0 < Nat.gcd g t := Nat.gcd_pos_of_pos_left t g0
  have hdb : Nat.gcd g t ∣ bD := Nat.dvd_trans (Nat.gcd_dvd_left g t) (hq ▸ Nat.dvd_mul_right g q)
  refine ⟨?_, e2, ?_, ?_, g0, hdb⟩
  · have := ht.mul g
    rw [show g * (aN * q) = aN * bD by rw [hq]; exact Nat.mul_left_comm g aN q, show g * (bN * p) = bN * aD by rw [hp]; exact Nat.mul_left_comm g bN p] at this
    exact this
  · exact Nat.mul_div_mul_left t (Nat.gcd g t) g0
  · rw [ep]
    obtain ⟨k, hk⟩ := hdb
    have : aD * bD = g * Nat.gcd g t * (p * k) := by
      rw [hp]
      conv => lhs; rw [hk]
      rw [Nat.mul_assoc g p, Nat.mul_assoc g, Nat.mul_left_comm p]
    rw [this, Nat.mul_div_cancel_left _ (Nat.mul_pos g0 h0)]
    conv => rhs; rw [hk, Nat.mul_div_cancel_left _ h0]
/-- The product of two fractions, cut ahead. -/
theorem mul_cut {aN aD bN bD g h : Nat} (ha : Nat.Coprime aN aD) (hb : Nat.Coprime bN bD) (hg : g = Nat.gcd aN bD) (hh : h = Nat.gcd bN aD) (h1 : 0 < aN) (h2 : 0 < bN) :
    Nat.gcd (aN * bN) (aD * bD) = g * h ∧ (aN * bN) / (g * h) = (aN / g) * (bN / h) ∧ (aD * bD) / (g * h) = (aD / h) * (bD / g) := by
  have g0 : 0 < g := hg ▸ Nat.gcd_pos_of_pos_left bD h1
  have h0 : 0 < h := hh ▸ Nat.gcd_pos_of_pos_left aD h2
  have c1 : Nat.Coprime (aN / g) (bD / g) := by subst hg; exact Nat.coprime_div_gcd_div_gcd g0
  have c2 : Nat.Coprime (bN / h) (aD / h) := by subst hh; exact Nat.coprime_div_gcd_div_gcd h0
  obtain ⟨x, hx⟩ : g ∣ aN := hg ▸ Nat.gcd_dvd_left aN bD
  obtain ⟨y, hy⟩ : g ∣ bD := hg ▸ Nat.gcd_dvd_right aN bD
  obtain ⟨u, hu⟩ : h ∣ bN := hh ▸ Nat.gcd_dvd_left bN aD
  obtain ⟨v, hv⟩ : h ∣ aD := hh ▸ Nat.gcd_dvd_right bN aD
  have ex : aN / g = x := by rw [hx, Nat.mul_div_cancel_left x g0]
  have ey : bD / g = y := by rw [hy, Nat.mul_div_cancel_left y g0]
  have eu : bN / h = u := by rw [hu, Nat.mul_div_cancel_left u h0]
  have ev : aD / h = v := by rw [hv, Nat.mul_div_cancel_left v h0]
  rw [ex, ey] at c1
  rw [eu, ev] at c2
  rw [ex, ey, eu, ev]
  have c3 : Nat.Coprime x v := Nat.Coprime.coprime_dvd_left (hx ▸ Nat.dvd_mul_left x g) (Nat.Coprime.coprime_dvd_right (hv ▸ Nat.dvd_mul_left v h) ha)
  have c4 : Nat.Coprime u y := Nat.Coprime.coprime_dvd_left (hu ▸ Nat.dvd_mul_left u h) (Nat.Coprime.coprime_dvd_right (hy ▸ Nat.dvd_mul_left y g) hb)
  have en : aN * bN = g * h * (x * u) := by rw [hx, hu, Nat.mul_mul_mul_comm]
  have ed : aD * bD = g * h * (v * y) := by rw [hv, hy, Nat.mul_mul_mul_comm, Nat.mul_comm h g]
  have hc : Nat.gcd (x * u) (v * y) = 1 := Nat.Coprime.mul_left (Nat.Coprime.mul_right c3 c1) (Nat.Coprime.mul_right c2 c4)
  rw [en, ed]
  refine ⟨by rw [Nat.gcd_mul_left, hc, Nat.mul_one], Nat.mul_div_cancel_left _ (Nat.mul_pos g0 h0), Nat.mul_div_cancel_left _ (Nat.mul_pos g0 h0)⟩
end Go.Proofs.Ytdakeenjeieekaa
