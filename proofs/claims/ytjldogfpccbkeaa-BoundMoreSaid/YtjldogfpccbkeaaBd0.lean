/- Chapter 05, plain: the bound of a spec behind a rate and terms, as a fraction; it falls where the rate rises. -/
import Derived.Test.YtjldogfpccbkeaaM2
set_option linter.unusedVariables false
set_option linter.unusedSimpArgs false
namespace Go.Proofs.Ytjldogfpccbkeaa

/-- Above and below, with one denominator (p peak, q rate, b burst, m most; r the rate; c, d the terms). -/
def bNum (p q b m r c d : Int) : Int := if p ≤ r then m + c + d * r else (m + c) * (p - q) + d * (r * (p - q)) + (b - m) * (p - r)
def bDen (p q r : Int) : Int := if p ≤ r then r else r * (p - q)
def bq (p q b m r c d : Int) : Rat := rq (bNum p q b m r c d) (bDen p q r)
/-- What may be asked for. -/
structure BOk (p q b m r c d : Int) : Prop where
  q1 : 1 ≤ q
  qp : q ≤ p
  p2 : p ≤ 1000000
  m1 : 1 ≤ m
  m2 : m ≤ 2000
  mb : m ≤ b
  b2 : b ≤ 10000000
  c1 : 0 ≤ c
  c2 : c ≤ 10000000
  d1 : 0 ≤ d
  d2 : d ≤ 1000000
  qr : q ≤ r
  r2 : r ≤ 1000000
theorem mul_range {a b x y : Int} (ha : 0 ≤ a) (hb : a ≤ x) (hc : 0 ≤ b) (hd : b ≤ y) : 0 ≤ a * b ∧ a * b ≤ x * y :=
  ⟨Int.mul_nonneg ha hc, Int.mul_le_mul hb hd hc (Int.le_trans ha hb)⟩
theorem bDen_pos {p q b m r c d : Int} (h : BOk p q b m r c d) : 1 ≤ bDen p q r ∧ bDen p q r ≤ 1000000000000 := by
  obtain ⟨h1, h2, h3, h4, h5, h6, h7, h8, h9, h10, h11, h12, h13⟩ := h
  unfold bDen
  split
  · omega
  · have h := Int.mul_le_mul (show (1 : Int) ≤ r by omega) (show (1 : Int) ≤ p - q by omega) (by omega) (by omega)
    have k := mul_range (a := r) (b := p - q) (x := 1000000) (y := 1000000) (by omega) (by omega) (by omega) (by omega)
    omega
theorem bNum_range {p q b m r c d : Int} (h : BOk p q b m r c d) : 1 ≤ bNum p q b m r c d ∧ bNum p q b m r c d ≤ 30000000 * bDen p q r ∧ bNum p q b m r c d ≤ 1100000000000000000 := by
  have hD := bDen_pos h
  obtain ⟨h1, h2, h3, h4, h5, h6, h7, h8, h9, h10, h11, h12, h13⟩ := h
  unfold bNum
  unfold bDen at hD ⊢
  split
  · have k := mul_range (a := d) (b := r) (x := 1000000) (y := r) (by omega) (by omega) (by omega) (by omega)
    have k2 := mul_range (a := d) (b := r) (x := 1000000) (y := 1000000) (by omega) (by omega) (by omega) (by omega)
    omega
  · rename_i hp
    rw [if_neg hp] at hD
    have k1 := mul_range (a := m + c) (b := p - q) (x := 10002000) (y := p - q) (by omega) (by omega) (by omega) (by omega)
    have k2 := mul_range (a := d) (b := r * (p - q)) (x := 1000000) (y := r * (p - q)) (by omega) (by omega) (by omega) (by omega)
    have k3 := mul_range (a := b - m) (b := p - r) (x := 10000000) (y := p - q) (by omega) (by omega) (by omega) (by omega)
    have k4 : (p - q) ≤ r * (p - q) := by
      have := Int.mul_le_mul (show (1 : Int) ≤ r by omega) (Int.le_refl (p - q)) (by omega) (by omega)
      omega
    have k5 : 1 ≤ (m + c) * (p - q) := by
      have := Int.mul_le_mul (show (1 : Int) ≤ m + c by omega) (show (1 : Int) ≤ p - q by omega) (by omega) (by omega)
      omega
    omega
/-- What fits: both parts of a fraction. -/
theorem rR_fits {n d : Int} (h1 : -9223372036854775807 ≤ n) (h2 : n ≤ 9223372036854775807) (h3 : 1 ≤ d) (h4 : d ≤ 9223372036854775807) : rR (rq n d) = .ok ((rq n d).num, ((rq n d).den : Int)) := by
  unfold rR
  rw [if_pos]
  have hd : d.natAbs ≠ 0 := by omega
  have e1 : (rq n d).den ∣ d.natAbs := by
    unfold rq
    rw [Rat.mkRat_def, dif_neg hd, Rat.normalize_eq hd]
    exact Nat.div_dvd_of_dvd (Nat.gcd_dvd_right _ _)
  have e2 : (rq n d).num.natAbs ≤ n.natAbs := by
    unfold rq
    rw [Rat.mkRat_def, dif_neg hd, Rat.normalize_eq hd]
    show (n / _).natAbs ≤ _
    exact Int.natAbs_ediv_le_natAbs _ _
  have := Nat.le_of_dvd (by omega) e1
  omega
theorem bq_rR {p q b m r c d : Int} (h : BOk p q b m r c d) : rR (bq p q b m r c d) = .ok ((bq p q b m r c d).num, ((bq p q b m r c d).den : Int)) := by
  have h1 := bNum_range h
  have h2 := bDen_pos h
  exact rR_fits (by omega) (by omega) (by omega) (by omega)
/-- The code's way: a sum. -/
theorem bq_sum {p q b m r c d : Int} (h : BOk p q b m r c d) : bq p q b m r c d = if r < p then (rq (m + c) r + rq d 1) + rq ((b - m) * (p - r)) (r * (p - q)) else rq (m + c) r + rq d 1 := by
  obtain ⟨h1, h2, h3, h4, h5, h6, h7, h8, h9, h10, h11, h12, h13⟩ := h
  have e0 : rq (m + c) r + rq d 1 = rq (m + c + d * r) r := by
    unfold rq
    rw [Rat.mkRat_add_mkRat _ _ (by omega) (by omega)]
    have e : (r.natAbs : Int) = r := by omega
    rw [e]
    simp
  unfold bq bNum bDen
  by_cases hp : p ≤ r
  · rw [if_pos hp, if_pos hp, if_neg (by omega), e0]
  · have k := Int.mul_le_mul (show (1 : Int) ≤ r by omega) (show (1 : Int) ≤ p - q by omega) (by omega) (by omega)
    rw [if_neg hp, if_neg hp, if_pos (by omega), e0]
    unfold rq
    rw [Rat.mkRat_add_mkRat _ _ (by omega) (by omega), Rat.mkRat_eq_iff (by omega) (Nat.mul_ne_zero (by omega) (by omega))]
    have e1 : (r.natAbs : Int) = r := by omega
    have e2 : ((r * (p - q)).natAbs : Int) = r * (p - q) := by omega
    rw [Int.natCast_mul, e1, e2]
    generalize p - q = k
    generalize (b - m) * (p - r) = x
    generalize m + c = y
    grind
/-- Not greater, by both parts. -/
def leF (n1 d1 n2 d2 : Int) : Prop := n1 * d2 ≤ n2 * d1
theorem bq_falls {p q b m r c d : Int} (h : BOk p q b m r c d) (hr : r + 1 ≤ 1000000) : leF (bNum p q b m (r + 1) c d) (bDen p q (r + 1)) (bNum p q b m r c d) (bDen p q r) := by
  obtain ⟨h1, h2, h3, h4, h5, h6, h7, h8, h9, h10, h11, h12, h13⟩ := h
  unfold leF bNum bDen
  have hM : 0 ≤ m + c := by omega
  generalize m + c = y at *
  by_cases a : p ≤ r
  · rw [if_pos a, if_pos a, if_pos (by omega), if_pos (by omega)]
    grind
  · rw [if_neg a, if_neg a]
    obtain ⟨k, hk⟩ : ∃ k, k = p - q := ⟨_, rfl⟩
    have hk1 : 1 ≤ k := by omega
    have hX : 0 ≤ b - m := by omega
    rw [← hk]
    generalize b - m = x at *
    by_cases a2 : p ≤ r + 1
    · rw [if_pos a2, if_pos a2]
      have hp : p = r + 1 := by omega
      subst hp
      have e : r + 1 - r = 1 := by omega
      rw [e]
      have j1 : 0 ≤ y * k := Int.mul_nonneg hM (by omega)
      have j2 : 0 ≤ x * (r + 1) := Int.mul_nonneg hX (by omega)
      have g : (y * k + d * (r * k) + x * 1) * (r + 1) - (y + d * (r + 1)) * (r * k) = y * k + x * (r + 1) := by grind
      omega
    · rw [if_neg a2, if_neg a2]
      have j1 : 0 ≤ y * k := Int.mul_nonneg hM (by omega)
      have j2 : 0 ≤ x * p := Int.mul_nonneg hX (by omega)
      have g : (y * k + d * (r * k) + x * (p - r)) * ((r + 1) * k) - (y * k + d * ((r + 1) * k) + x * (p - (r + 1))) * (r * k) = (y * k + x * p) * k := by grind
      have j3 : 0 ≤ (y * k + x * p) * k := Int.mul_nonneg (by omega) (by omega)
      omega
theorem bq_terms {p q b m r c d c2 d2 : Int} (h : BOk p q b m r c d) (hc : c ≤ c2) (hd : d ≤ d2) : leF (bNum p q b m r c d) (bDen p q r) (bNum p q b m r c2 d2) (bDen p q r) := by
  have hD := bDen_pos h
  unfold leF
  refine Int.mul_le_mul_of_nonneg_right ?_ (by omega)
  obtain ⟨h1, h2, h3, h4, h5, h6, h7, h8, h9, h10, h11, h12, h13⟩ := h
  unfold bNum
  unfold bDen at hD
  split
  · have := Int.mul_le_mul_of_nonneg_right hd (show 0 ≤ r by omega)
    omega
  · rename_i hp
    rw [if_neg hp] at hD
    have j1 := Int.mul_le_mul_of_nonneg_right hd (show 0 ≤ r * (p - q) by omega)
    have j2 := Int.mul_le_mul_of_nonneg_right (show m + c ≤ m + c2 by omega) (show 0 ≤ p - q by omega)
    omega
theorem bq_burst {p q b m r c d : Int} (h : BOk p q b m r c d) : leF (bNum p q b m r c d) (bDen p q r) (bNum p q (b + 1) m r c d) (bDen p q r) := by
  have hD := bDen_pos h
  unfold leF
  refine Int.mul_le_mul_of_nonneg_right ?_ (by omega)
  obtain ⟨h1, h2, h3, h4, h5, h6, h7, h8, h9, h10, h11, h12, h13⟩ := h
  unfold bNum
  split
  · omega
  · have j2 := Int.mul_le_mul_of_nonneg_right (show b - m ≤ b + 1 - m by omega) (show 0 ≤ p - r by omega)
    omega
/-- The parts of what is cut. -/
theorem rq_cross {n d : Int} (hd : 1 ≤ d) : (rq n d).num * d = n * ((rq n d).den : Int) := by
  unfold rq
  have hd2 : d.natAbs ≠ 0 := by omega
  have h := (Rat.mkRat_eq_iff (n₁ := (mkRat n d.natAbs).num) (n₂ := n) (d₁ := (mkRat n d.natAbs).den) (d₂ := d.natAbs) (Rat.den_nz _) hd2).1 (Rat.mkRat_self _)
  have e : (d.natAbs : Int) = d := by omega
  rwa [e] at h
theorem leF_cut {n1 d1 n2 d2 : Int} (h1 : 1 ≤ d1) (h2 : 1 ≤ d2) (h : leF n1 d1 n2 d2) : leF (rq n1 d1).num ((rq n1 d1).den : Int) (rq n2 d2).num ((rq n2 d2).den : Int) := by
  unfold leF at *
  have c1 := rq_cross (n := n1) h1
  have c2 := rq_cross (n := n2) h2
  have p1 : 0 < ((rq n1 d1).den : Int) := by have := (rq n1 d1).den_pos; omega
  have p2 : 0 < ((rq n2 d2).den : Int) := by have := (rq n2 d2).den_pos; omega
  generalize (rq n1 d1).num = a1 at *
  generalize (rq n2 d2).num = a2 at *
  generalize ((rq n1 d1).den : Int) = e1 at *
  generalize ((rq n2 d2).den : Int) = e2 at *
  -- a1 e2 ≤ a2 e1, by d1 d2
  have hpos : 0 < d1 * d2 := Int.mul_pos (by omega) (by omega)
  have q : (a1 * e2) * (d1 * d2) = (n1 * d2) * (e1 * e2) := by
    have : (a1 * e2) * (d1 * d2) = (a1 * d1) * (e2 * d2) := by grind
    rw [this, c1]; grind
  have q2 : (a2 * e1) * (d1 * d2) = (n2 * d1) * (e1 * e2) := by
    have : (a2 * e1) * (d1 * d2) = (a2 * d2) * (e1 * d1) := by grind
    rw [this, c2]; grind
  have hle := Int.mul_le_mul_of_nonneg_right h (show 0 ≤ e1 * e2 from Int.le_of_lt (Int.mul_pos p1 p2))
  rw [← q, ← q2] at hle
  exact Int.le_of_mul_le_mul_right hle hpos
theorem ceil_mono {n1 d1 n2 d2 : Int} (h1 : 0 < d1) (h2 : 0 < d2) (h : leF n1 d1 n2 d2) : -((-n1) / d1) ≤ -((-n2) / d2) := by
  unfold leF at h
  have a : (-n2) / d2 * d2 ≤ -n2 := Int.ediv_mul_le _ (by omega)
  have b : (-n2) / d2 ≤ (-n1) / d1 := by
    rw [Int.le_ediv_iff_mul_le h1]
    generalize (-n2) / d2 = t at *
    refine Int.le_of_mul_le_mul_right (a := d2) ?_ h2
    have c := Int.mul_le_mul_of_nonneg_right a (show 0 ≤ d1 by omega)
    have e1 : t * d1 * d2 = t * d2 * d1 := by grind
    have e2 : -n2 * d1 = -(n2 * d1) := by grind
    have e3 : -n1 * d2 = -(n1 * d2) := by grind
    omega
  omega
/-- In whole ticks. -/
def bT (p q b m r c d : Int) : Int := -((-(bq p q b m r c d).num) / ((bq p q b m r c d).den : Int))
theorem bT_range {p q b m r c d : Int} (h : BOk p q b m r c d) : 0 ≤ bT p q b m r c d ∧ bT p q b m r c d ≤ 30000000 := by
  have h1 := bNum_range h
  have h2 := bDen_pos h
  have e := rq_cross (n := bNum p q b m r c d) (d := bDen p q r) (by omega)
  have hp : 0 < ((bq p q b m r c d).den : Int) := by have := (bq p q b m r c d).den_pos; omega
  unfold bT
  unfold bq at *
  generalize (rq (bNum p q b m r c d) (bDen p q r)).num = n at *
  generalize ((rq (bNum p q b m r c d) (bDen p q r)).den : Int) = k at *
  generalize bNum p q b m r c d = N at *
  generalize bDen p q r = D at *
  have hn0 : 0 ≤ n := by
    refine Int.le_of_mul_le_mul_right (a := D) ?_ (by omega)
    rw [Int.zero_mul, e]
    exact Int.mul_nonneg (by omega) (by omega)
  have hn1 : n ≤ 30000000 * k := by
    refine Int.le_of_mul_le_mul_right (a := D) ?_ (by omega)
    rw [e]
    have := Int.mul_le_mul_of_nonneg_right h1.2.1 (show 0 ≤ k by omega)
    have e2 : 30000000 * k * D = 30000000 * D * k := by grind
    omega
  have a1 : (-n) / k ≤ 0 := Int.ediv_nonpos_of_nonpos_of_neg (by omega) (by omega) |> fun h => h
  have a2 : -30000000 ≤ (-n) / k := by
    rw [Int.le_ediv_iff_mul_le hp]
    omega
  omega
end Go.Proofs.Ytjldogfpccbkeaa
