/- Several texts in one: RaA RaK RaB RaC RaD RaE RaF. -/
import Derived.Test.YtjldogfpccbkeaaM1
import Derived.Test.YtjldogfpccbkeaaM1
import Derived.Test.YtjldogfpccbkeaaChecked
import Derived.Test.YtjldogfpccbkeaaM1
import Derived.Test.YtjldogfpccbkeaaM1
import Derived.Test.YtjldogfpccbkeaaM1
import Derived.Recover
import Derived.Lib.Mul64
import Derived.Lib.BitFns
import Derived.Laws.Bits64b
import Derived.Laws.Externs
/- Chapter 01: fractions, cut ahead of the sum and of the product. No program in sight. -/
set_option linter.unusedVariables false
set_option linter.unusedSimpArgs false
namespace Go.Proofs.Ytjldogfpccbkeaa

/-- A sum or a difference of two numbers. -/
def SumOf (t x y : Nat) : Prop := t = x + y ∨ t + y = x ∨ t + x = y
theorem SumOf.dvd_left {t x y c : Nat} (h : SumOf t x y) (ht : c ∣ t) (hy : c ∣ y) : c ∣ x := by
  rcases h with h | h | h
  · subst h; exact (Nat.dvd_add_left hy).1 ht
  · rw [← h]; exact Nat.dvd_add ht hy
  · exact (Nat.dvd_add_right ht).1 (h ▸ hy)
theorem SumOf.symm {t x y : Nat} (h : SumOf t x y) : SumOf t y x := by
  rcases h with h | h | h
  · exact .inl (by omega)
  · exact .inr (.inr (by omega))
  · exact .inr (.inl (by omega))
theorem SumOf.mul {t x y : Nat} (h : SumOf t x y) (g : Nat) : SumOf (g * t) (g * x) (g * y) := by
  rcases h with h | h | h
  · exact .inl (by rw [h, Nat.mul_add])
  · exact .inr (.inl (by rw [← h, Nat.mul_add]))
  · exact .inr (.inr (by rw [← h, Nat.mul_add]))
theorem gcd_three {t p q g : Nat} (hp : Nat.Coprime t p) (hq : Nat.Coprime t q) : Nat.gcd t (p * q * g) = Nat.gcd t g :=
  Nat.Coprime.gcd_mul_left_cancel_right g (Nat.Coprime.mul_right hp hq).symm
/-- The sum of two fractions, cut ahead: its parts, and that they have no common divisor. -/
theorem sum_cut {aN aD bN bD g t : Nat} (ha : Nat.Coprime aN aD) (hb : Nat.Coprime bN bD) (hg : g = Nat.gcd aD bD) (h1 : 0 < aD) (h2 : 0 < bD) (ht : SumOf t (aN * (bD / g)) (bN * (aD / g))) :
    SumOf (g * t) (aN * bD) (bN * aD) ∧ Nat.gcd (g * t) (aD * bD) = g * Nat.gcd g t ∧ (g * t) / (g * Nat.gcd g t) = t / Nat.gcd g t ∧ (aD * bD) / (g * Nat.gcd g t) = (aD / g) * (bD / Nat.gcd g t) ∧ 0 < g ∧ Nat.gcd g t ∣ bD := by
  have g0 : 0 < g := hg ▸ Nat.gcd_pos_of_pos_left bD h1
  have hpq : Nat.Coprime (aD / g) (bD / g) := by subst hg; exact Nat.coprime_div_gcd_div_gcd g0
  have ga : g ∣ aD := hg ▸ Nat.gcd_dvd_left aD bD
  have gb : g ∣ bD := hg ▸ Nat.gcd_dvd_right aD bD
  obtain ⟨p, hp⟩ := ga
  obtain ⟨q, hq⟩ := gb
  have ep : aD / g = p := by rw [hp, Nat.mul_div_cancel_left p g0]
  have eq : bD / g = q := by rw [hq, Nat.mul_div_cancel_left q g0]
  rw [ep, eq] at hpq ht
  have htp : Nat.Coprime t p := by
    have c1 : Nat.gcd t p ∣ aN * q := ht.dvd_left (Nat.gcd_dvd_left t p) (Nat.dvd_trans (Nat.gcd_dvd_right t p) (Nat.dvd_mul_left p bN))
    have c2 : Nat.Coprime (aN * q) p := Nat.Coprime.mul_left (Nat.Coprime.coprime_dvd_right (hp ▸ Nat.dvd_mul_left p g) ha) hpq.symm
    exact Nat.eq_one_of_dvd_one (c2 ▸ Nat.dvd_gcd c1 (Nat.gcd_dvd_right t p))
  have htq : Nat.Coprime t q := by
    have c1 : Nat.gcd t q ∣ bN * p := ht.symm.dvd_left (Nat.gcd_dvd_left t q) (Nat.dvd_trans (Nat.gcd_dvd_right t q) (Nat.dvd_mul_left q aN))
    have c2 : Nat.Coprime (bN * p) q := Nat.Coprime.mul_left (Nat.Coprime.coprime_dvd_right (hq ▸ Nat.dvd_mul_left q g) hb) hpq
    exact Nat.eq_one_of_dvd_one (c2 ▸ Nat.dvd_gcd c1 (Nat.gcd_dvd_right t q))
  have hh : Nat.gcd t (p * q * g) = Nat.gcd g t := by rw [gcd_three htp htq, Nat.gcd_comm]
  have e1 : aD * bD = g * (p * q * g) := by rw [hp, hq, Nat.mul_assoc, Nat.mul_assoc, Nat.mul_left_comm p g q, Nat.mul_comm g (p * q), ← Nat.mul_assoc p q g, Nat.mul_comm (p * q) g]
  have e2 : Nat.gcd (g * t) (aD * bD) = g * Nat.gcd g t := by rw [e1, Nat.gcd_mul_left, hh]
  have h0 : 0 < Nat.gcd g t := Nat.gcd_pos_of_pos_left t g0
  have hdb : Nat.gcd g t ∣ bD := Nat.dvd_trans (Nat.gcd_dvd_left g t) (hq ▸ Nat.dvd_mul_right g q)
  refine ⟨?_, e2, ?_, ?_, g0, hdb⟩
  · have := ht.mul g
    rw [show g * (aN * q) = aN * bD by rw [hq]; exact Nat.mul_left_comm g aN q, show g * (bN * p) = bN * aD by rw [hp]; exact Nat.mul_left_comm g bN p] at this
    exact this
  · exact Nat.mul_div_mul_left t (Nat.gcd g t) g0
  · rw [ep]
    obtain ⟨k, hk⟩ := hdb
    have : aD * bD = g * Nat.gcd g t * (p * k) := by
      rw [hp]
      conv => lhs; rw [hk]
      rw [Nat.mul_assoc g p, Nat.mul_assoc g, Nat.mul_left_comm p]
    rw [this, Nat.mul_div_cancel_left _ (Nat.mul_pos g0 h0)]
    conv => rhs; rw [hk, Nat.mul_div_cancel_left _ h0]
/-- The product of two fractions, cut ahead. -/
theorem mul_cut {aN aD bN bD g h : Nat} (ha : Nat.Coprime aN aD) (hb : Nat.Coprime bN bD) (hg : g = Nat.gcd aN bD) (hh : h = Nat.gcd bN aD) (h1 : 0 < aN) (h2 : 0 < bN) :
    Nat.gcd (aN * bN) (aD * bD) = g * h ∧ (aN * bN) / (g * h) = (aN / g) * (bN / h) ∧ (aD * bD) / (g * h) = (aD / h) * (bD / g) := by
  have g0 : 0 < g := hg ▸ Nat.gcd_pos_of_pos_left bD h1
  have h0 : 0 < h := hh ▸ Nat.gcd_pos_of_pos_left aD h2
  have c1 : Nat.Coprime (aN / g) (bD / g) := by subst hg; exact Nat.coprime_div_gcd_div_gcd g0
  have c2 : Nat.Coprime (bN / h) (aD / h) := by subst hh; exact Nat.coprime_div_gcd_div_gcd h0
  obtain ⟨x, hx⟩ : g ∣ aN := hg ▸ Nat.gcd_dvd_left aN bD
  obtain ⟨y, hy⟩ : g ∣ bD := hg ▸ Nat.gcd_dvd_right aN bD
  obtain ⟨u, hu⟩ : h ∣ bN := hh ▸ Nat.gcd_dvd_left bN aD
  obtain ⟨v, hv⟩ : h ∣ aD := hh ▸ Nat.gcd_dvd_right bN aD
  have ex : aN / g = x := by rw [hx, Nat.mul_div_cancel_left x g0]
  have ey : bD / g = y := by rw [hy, Nat.mul_div_cancel_left y g0]
  have eu : bN / h = u := by rw [hu, Nat.mul_div_cancel_left u h0]
  have ev : aD / h = v := by rw [hv, Nat.mul_div_cancel_left v h0]
  rw [ex, ey] at c1
  rw [eu, ev] at c2
  rw [ex, ey, eu, ev]
  have c3 : Nat.Coprime x v := Nat.Coprime.coprime_dvd_left (hx ▸ Nat.dvd_mul_left x g) (Nat.Coprime.coprime_dvd_right (hv ▸ Nat.dvd_mul_left v h) ha)
  have c4 : Nat.Coprime u y := Nat.Coprime.coprime_dvd_left (hu ▸ Nat.dvd_mul_left u h) (Nat.Coprime.coprime_dvd_right (hy ▸ Nat.dvd_mul_left y g) hb)
  have en : aN * bN = g * h * (x * u) := by rw [hx, hu, Nat.mul_mul_mul_comm]
  have ed : aD * bD = g * h * (v * y) := by rw [hv, hy, Nat.mul_mul_mul_comm, Nat.mul_comm h g]
  have hc : Nat.gcd (x * u) (v * y) = 1 := Nat.Coprime.mul_left (Nat.Coprime.mul_right c3 c1) (Nat.Coprime.mul_right c2 c4)
  rw [en, ed]
  refine ⟨by rw [Nat.gcd_mul_left, hc, Nat.mul_one], Nat.mul_div_cancel_left _ (Nat.mul_pos g0 h0), Nat.mul_div_cancel_left _ (Nat.mul_pos g0 h0)⟩
end Go.Proofs.Ytjldogfpccbkeaa

/- Plain: what the code cuts ahead is the fraction (core's Rat), or that it does not fit. -/
set_option linter.unusedVariables false
set_option linter.unusedSimpArgs false
namespace Go.Proofs.Ytjldogfpccbkeaa

/-- A fraction's parts, or why there is none. -/
abbrev Ra := Except Int (Int × Int)
/-- The parts of a fraction, if they fit. -/
def rR (x : Rat) : Ra := if x.den ≤ 9223372036854775807 ∧ x.num.natAbs ≤ 9223372036854775807 then .ok (x.num, (x.den : Int)) else .error 110
/-- The fraction of two parts. -/
def rq (n d : Int) : Rat := mkRat n d.natAbs
def toldR (n : Nat) (below : Bool) (d : Nat) : Ra := if d ≤ 9223372036854775807 ∧ n ≤ 9223372036854775807 then .ok (if below then -(n : Int) else n, (d : Int)) else .error 110
/-- What is cut by the greatest common divisor. -/
def fracR (n : Nat) (below : Bool) (d : Nat) : Ra := toldR (n / Nat.gcd n d) below (d / Nat.gcd n d)
def sgn (n : Nat) (below : Bool) : Int := if below then -(n : Int) else n
theorem sgn_natAbs (n : Nat) (below : Bool) : (sgn n below).natAbs = n := by unfold sgn; split <;> simp
theorem sgn_div (n g : Nat) (below : Bool) (h : g ∣ n) : sgn n below / (g : Int) = sgn (n / g) below := by
  unfold sgn
  split
  · rw [Int.neg_ediv_of_dvd (Int.natCast_dvd_natCast.2 h)]; simp
  · simp
theorem fracR_eq (n : Nat) (below : Bool) (d : Nat) (hd : d ≠ 0) : fracR n below d = rR (mkRat (sgn n below) d) := by
  unfold fracR toldR rR
  rw [Rat.mkRat_def, dif_neg hd, Rat.normalize_eq hd]
  simp only [sgn_natAbs]
  rw [sgn_div n (Nat.gcd n d) below (Nat.gcd_dvd_left n d), sgn_natAbs]
  rfl
/-- Parts without a common divisor. -/
def RtP (n d : Int) : Prop := 1 ≤ d ∧ Nat.gcd n.natAbs d.natAbs = 1
theorem rq_parts {n d : Int} (h : RtP n d) : (rq n d).num = n ∧ (rq n d).den = d.natAbs := by
  have hd : d.natAbs ≠ 0 := by have := h.1; omega
  unfold rq
  rw [← Rat.mk_eq_mkRat n d.natAbs hd h.2]
  exact ⟨rfl, rfl⟩
theorem rR_rq {n d : Int} (h : RtP n d) (h1 : n.natAbs ≤ 9223372036854775807) (h2 : d ≤ 9223372036854775807) : rR (rq n d) = .ok (n, d) := by
  obtain ⟨e1, e2⟩ := rq_parts h
  have := h.1
  unfold rR
  rw [e1, e2, if_pos ⟨by omega, h1⟩]
  congr 2
  omega
theorem rR_ok {x : Rat} {n d : Int} (h : rR x = .ok (n, d)) : x = rq n d ∧ RtP n d ∧ n.natAbs ≤ 9223372036854775807 ∧ d ≤ 9223372036854775807 := by
  unfold rR at h
  split at h
  · rename_i hc
    cases h
    have hd := x.den_nz
    refine ⟨?_, ⟨by omega, ?_⟩, hc.2, by omega⟩
    · unfold rq; rw [Int.natAbs_natCast, Rat.mkRat_self]
    · rw [Int.natAbs_natCast]; exact x.reduced
  · cases h
theorem rR_inj {x y : Rat} {p : Int × Int} (h1 : rR x = .ok p) (h2 : rR y = .ok p) : x = y := by
  obtain ⟨n, d⟩ := p
  rw [(rR_ok h1).1, (rR_ok h2).1]
/-- A sum, cut ahead, as the code tells it: t is what the cut cross products sum to. -/
def codeAdd (t : Nat) (below : Bool) (h bot : Nat) : Ra :=
  if t / 18446744073709551616 < h then
    if bot / 18446744073709551616 = 0 ∨ t = 0 then
      if t = 0 then .ok (0, 1) else toldR (t / h) below (bot % 18446744073709551616)
    else .error 110
  else .error 110
theorem codeAdd_eq {aN aD bN bD g t : Nat} (below : Bool) (ha : Nat.Coprime aN aD) (hb : Nat.Coprime bN bD) (hg : g = Nat.gcd aD bD) (h1 : 0 < aD) (h2 : 0 < bD) (ht : SumOf t (aN * (bD / g)) (bN * (aD / g))) :
    codeAdd t below (Nat.gcd g (t % g)) (aD / g * (bD / Nat.gcd g (t % g))) = rR (mkRat (sgn (g * t) below) (aD * bD)) := by
  obtain ⟨_, e2, e3, e4, g0, hdb⟩ := sum_cut ha hb hg h1 h2 ht
  have hgt : Nat.gcd g (t % g) = Nat.gcd g t := by rw [Nat.gcd_comm g (t % g), ← Nat.gcd_rec]
  rw [← fracR_eq _ _ _ (Nat.mul_ne_zero (by omega) (by omega))]
  unfold fracR
  rw [hgt, e2, e3, e4]
  have h0 : 0 < Nat.gcd g t := Nat.gcd_pos_of_pos_left t g0
  generalize Nat.gcd g t = h at *
  unfold codeAdd
  have hbot : 0 < aD / g * (bD / h) := by
    have : 0 < g * h * (aD / g * (bD / h)) := by
      rw [← e4, Nat.mul_div_cancel']
      · exact Nat.mul_pos h1 h2
      · rw [← e2]; exact Nat.gcd_dvd_right _ _
    exact Nat.pos_of_mul_pos_left this
  generalize aD / g * (bD / h) = bot at *
  by_cases c0 : t = 0
  · subst c0
    rw [if_pos (by simpa using h0), if_pos (.inr rfl), if_pos rfl]
    have hb1 : bot = 1 := by
      rw [Nat.mul_zero, Nat.gcd_zero_left] at e2
      rw [← e4, e2, Nat.div_self (Nat.mul_pos g0 h0)]
    unfold toldR
    rw [hb1, Nat.zero_div, if_pos (by omega)]
    cases below <;> rfl
  · by_cases c1 : t / 18446744073709551616 < h
    · rw [if_pos c1]
      by_cases c2 : bot / 18446744073709551616 = 0
      · rw [if_pos (.inl c2), if_neg c0, Nat.mod_eq_of_lt (by omega)]
      · rw [if_neg (by rintro (h | h); exact c2 h; exact c0 h)]
        unfold toldR
        rw [if_neg (by omega)]
    · rw [if_neg c1]
      unfold toldR
      rw [if_neg]
      rintro ⟨_, hle⟩
      have : h * 18446744073709551616 ≤ t := by
        have := Nat.div_add_mod t 18446744073709551616
        have h3 : h ≤ t / 18446744073709551616 := by omega
        have := Nat.mul_le_mul_right 18446744073709551616 h3
        omega
      have h4 : 18446744073709551616 ≤ t / h := by rw [Nat.le_div_iff_mul_le h0, Nat.mul_comm]; exact this
      omega
/-- A product, cut ahead, as the code tells it. -/
def codeMul (n d : Nat) (below : Bool) : Ra :=
  if n / 18446744073709551616 = 0 ∧ d / 18446744073709551616 = 0 then toldR (n % 18446744073709551616) below (d % 18446744073709551616) else .error 110
theorem codeMul_eq {aN aD bN bD g h : Nat} (below : Bool) (ha : Nat.Coprime aN aD) (hb : Nat.Coprime bN bD) (hg : g = Nat.gcd aN bD) (hh : h = Nat.gcd bN aD) (h1 : 0 < aN) (h2 : 0 < bN) (h3 : 0 < aD) (h4 : 0 < bD) :
    codeMul (aN / g * (bN / h)) (aD / h * (bD / g)) below = rR (mkRat (sgn (aN * bN) below) (aD * bD)) := by
  obtain ⟨e1, e2, e3⟩ := mul_cut ha hb hg hh h1 h2
  rw [← fracR_eq _ _ _ (Nat.mul_ne_zero (by omega) (by omega))]
  unfold fracR
  rw [e1, e2, e3]
  generalize aN / g * (bN / h) = n at *
  generalize aD / h * (bD / g) = d at *
  unfold codeMul
  by_cases c : n / 18446744073709551616 = 0 ∧ d / 18446744073709551616 = 0
  · rw [if_pos c, Nat.mod_eq_of_lt (by omega), Nat.mod_eq_of_lt (by omega)]
  · rw [if_neg c]
    unfold toldR
    rw [if_neg (by omega)]
end Go.Proofs.Ytjldogfpccbkeaa

/- Chapter 01: size, gcd. -/
set_option linter.unusedVariables false
set_option linter.unusedSimpArgs false
namespace Go.Proofs.Ytjldogfpccbkeaa
open Go.RowKit

abbrev u64v (n : Nat) : Value := .int .u64 (n : Int)
theorem ret_u64 {a b : Int} (h : a = b) : (Ending.returned (.int .u64 a)) = .returned (.int .u64 b) := by rw [h]
theorem rsize_calls (n : Int) (h : -9223372036854775808 ≤ n ∧ n ≤ 9223372036854775807) (w : World) : Calls Try.prog 73 #[.int .i64 n] w fun e w' => e = .returned (u64v n.natAbs) ∧ w = w' := by
  obtain ⟨h1, h2⟩ := h
  by_cases hn : n < 0
  · have e : IntKind.u64.wrap (IntKind.u64.wrap (-(n + 1)) + 1) = ((n.natAbs : Nat) : Int) := by
      rw [IntKind.wrap_u64, IntKind.wrap_u64]; omega
    have e1 : IntKind.i64.wrap (n + 1) = n + 1 := by rw [IntKind.wrap_i64]; omega
    have e2 : IntKind.i64.wrap (-(n + 1)) = -(n + 1) := by rw [IntKind.wrap_i64]; omega
    go_enter Try.func73, Try.ntmps73
    go_wp2_with fail
    go_ret
    exact ⟨ret_u64 (by first | exact e | omega), rfl⟩
  · have e : IntKind.u64.wrap n = ((n.natAbs : Nat) : Int) := by rw [IntKind.wrap_u64]; omega
    go_enter Try.func73, Try.ntmps73
    go_wp2_with fail
    go_ret
    exact ⟨ret_u64 (by first | exact e | omega), rfl⟩
theorem rgcd_calls (a b : Nat) (ha : a < 18446744073709551616) (hb : b < 18446744073709551616) (w : World) : Calls Try.prog 74 #[u64v a, u64v b] w fun e w' => e = .returned (u64v (Nat.gcd a b)) ∧ Fr0 w w' := by
  go_enter Try.func74, Try.ntmps74
  go_wp2_with fail
  go_loopw [0, 1] (fun s0 s1 wr => ∃ (x y : Nat), s0 = u64v x ∧ s1 = u64v y ∧ x < 18446744073709551616 ∧ y < 18446744073709551616 ∧ Hid (Nat.gcd x y = Nat.gcd a b) ∧ Hid (Fr0 w wr)) (fun _ s1 _ => (intOf s1).toNat)
  case atStart => exact ⟨a, b, rfl, rfl, ha, hb, rfl, Fr.refl _ _⟩
  case round =>
    obtain ⟨x, y, rfl, rfl, hx, hy, HG, HF⟩ := hrel
    by_cases h0 : y = 0
    · subst h0
      have hg : x = Nat.gcd a b := by have := HG.out; simpa using this
      subst hg
      go_wp2_with fail
      go_ret
      exact ⟨rfl, HF.out⟩
    · have hy0 : (0 : Int) < (y : Int) := by omega
      have hyn : ¬ ((y : Int) = 0) := by omega
      have hyb : ((y : Int) == 0) = false := by simpa using hyn
      have hm : (x : Int).tmod (y : Int) = ((x % y : Nat) : Int) := by rw [Int.tmod_eq_emod_of_nonneg (by omega)]; simp
      have hlt := Nat.mod_lt x (Nat.pos_of_ne_zero h0)
      have hw : IntKind.u64.wrap ((x % y : Nat) : Int) = ((x % y : Nat) : Int) := by rw [IntKind.wrap_u64]; omega
      have HG2 := Lib.hid (show Nat.gcd y (x % y) = Nat.gcd a b from by rw [← HG.out, Nat.gcd_comm y, ← Nat.gcd_rec, Nat.gcd_comm])
      have HF2 := Lib.hid (HF.out.trans (Fr.refl (fun _ => False) wr).drew)
      go_wp2_with fail
      go_region
      all_goals
        go_wp2_with fail
        go_roundw
        case rel => exact ⟨y, x % y, rfl, by simp, hy, by omega, HG2.out, HF2.out⟩
        case measure => simp [intOf]; omega
end Go.Proofs.Ytjldogfpccbkeaa

/- Chapter 01: Check; wide numbers compared. -/
set_option linter.unusedVariables false
set_option linter.unusedSimpArgs false
namespace Go.Proofs.Ytjldogfpccbkeaa
open Go.RowKit
attribute [local go_sem] Oper.semAt_some

abbrev rtv (n d : Int) : Value := .agg #[.int .i64 n, .int .i64 d]
abbrev rtc (n d : Int) : Array Value := #[.int .i64 n, .int .i64 d]
/-- A fraction. -/
def RtOk (n d : Int) : Prop := 1 ≤ d ∧ n ≠ -9223372036854775808 ∧ Nat.gcd n.natAbs d.natAbs = 1
instance (n d : Int) : Decidable (RtOk n d) := by unfold RtOk; infer_instance
def I64r (n : Int) : Prop := -9223372036854775808 ≤ n ∧ n ≤ 9223372036854775807
theorem rcheck_calls (n d : Int) (hn : I64r n) (hd : I64r d) (w : World) : Calls Try.prog 58 #[rtv n d] w fun e w' => e = .returned (.int .i64 (if RtOk n d then 0 else 2)) ∧ Fr0 w w' := by
  have hmx : Try.prog.follows .mixedOrders = true := by kernel_rfl
  have HB := Lib.hid (heap_alloc_new w (.cells (rtc n d) 27))
  have HF := Lib.hid ((Fr.refl (fun _ => False) w).alloc (.cells (rtc n d) 27))
  have c0 : (w.alloc (.cells (rtc n d) 27)).cell? ⟨w.heap.size, 0, none⟩ = some (.int .i64 n) := cell_of_blk HB.out 0
  have c1 : (w.alloc (.cells (rtc n d) 27)).cell? ⟨w.heap.size, 1, none⟩ = some (.int .i64 d) := cell_of_blk HB.out 1
  have HSZ := Lib.hid (fun U => rsize_calls n hn U)
  by_cases h1 : d < 1
  · have hr : ¬ RtOk n d := fun h => absurd h.1 (by omega)
    rw [if_neg hr]
    have h1d : decide (d < 1) = true := decide_eq_true h1
    clear h1 hr
    go_enter Try.func58, Try.ntmps58
    go_wp2_with fail
    generalize w.alloc (.cells (rtc n d) 27) = W at *
    have r0 := cg_cell (W := W) c0
    have r1 := cg_cell (W := W) c1
    refine wp_region_cg hmx (by kernel_rfl) ?_
    repeat (go_big_quiet_step (fail))
    refine wpQuiet_nil ?_
    intro w6 hf6
    go_wp2_with fail
    go_ret
    exact ⟨rfl, HF.out.trans hf6⟩
  have h1d : decide (d < 1) = false := decide_eq_false h1
  by_cases h2 : n = -9223372036854775808
  · have hr : ¬ RtOk n d := fun h => h.2.1 h2
    rw [if_neg hr]
    subst h2
    clear h1 hr
    go_enter Try.func58, Try.ntmps58
    go_wp2_with fail
    generalize w.alloc (.cells (rtc (-9223372036854775808) d) 27) = W at *
    have r0 := cg_cell (W := W) c0
    have r1 := cg_cell (W := W) c1
    refine wp_region_cg hmx (by kernel_rfl) ?_
    repeat (go_big_quiet_step (fail))
    refine wpQuiet_nil ?_
    intro w6 hf6
    go_wp2_with fail
    go_ret
    exact ⟨rfl, HF.out.trans hf6⟩
  have h2b : (n == -9223372036854775808) = false := by simpa using h2
  have h2d : decide (n = -9223372036854775808) = false := decide_eq_false h2
  have hdw : IntKind.u64.wrap d = ((d.natAbs : Nat) : Int) := by rw [IntKind.wrap_u64]; have := hd.2; omega
  have HGC := Lib.hid (fun U => rgcd_calls n.natAbs d.natAbs (by have := hn.1; have := hn.2; omega) (by have := hd.1; have := hd.2; omega) U)
  by_cases hg : Nat.gcd n.natAbs d.natAbs = 1
  · rw [if_pos (show RtOk n d from ⟨by omega, h2, hg⟩)]
    rw [hg] at HGC
    have hgb : (((1 : Nat) : Int) == 1) = true := rfl
    clear h1 h2 hg
    go_enter Try.func58, Try.ntmps58
    go_wp2_with fail
    generalize w.alloc (.cells (rtc n d) 27) = W at *
    have r0 := cg_cell (W := W) c0
    have r1 := cg_cell (W := W) c1
    refine wp_region_cg hmx (by kernel_rfl) ?_
    repeat (first
      | go_big_quiet_step (fail)
      | go_big_quiet_step (first
        | (go_at_call 73; exact quiet_cg ((HSZ.out _).mono fun e w' h => ⟨h.1, h.2 ▸ Fr.refl _ _⟩))
        | (go_at_call 74; exact quiet_cg (HGC.out _))))
    refine wpQuiet_nil ?_
    intro w6 hf6
    go_wp2_with fail
    go_ret
    exact ⟨rfl, HF.out.trans hf6⟩
  · rw [if_neg (show ¬ RtOk n d from fun h => hg h.2.2)]
    have hgb : ((Nat.gcd n.natAbs d.natAbs : Int) == 1) = false := by simp; omega
    have hgd : decide ((Nat.gcd n.natAbs d.natAbs : Int) = 1) = false := decide_eq_false (by omega)
    generalize Nat.gcd n.natAbs d.natAbs = g at *
    clear h1 h2 hg
    go_enter Try.func58, Try.ntmps58
    go_wp2_with fail
    generalize w.alloc (.cells (rtc n d) 27) = W at *
    have r0 := cg_cell (W := W) c0
    have r1 := cg_cell (W := W) c1
    refine wp_region_cg hmx (by kernel_rfl) ?_
    repeat (first
      | go_big_quiet_step (fail)
      | go_big_quiet_step (first
        | (go_at_call 73; exact quiet_cg ((HSZ.out _).mono fun e w' h => ⟨h.1, h.2 ▸ Fr.refl _ _⟩))
        | (go_at_call 74; exact quiet_cg (HGC.out _))))
    refine wpQuiet_nil ?_
    intro w6 hf6
    go_wp2_with fail
    go_ret
    exact ⟨rfl, HF.out.trans hf6⟩
end Go.Proofs.Ytjldogfpccbkeaa

/- Chapter 01: must, signed, told, made. -/
set_option linter.unusedVariables false
set_option linter.unusedSimpArgs false
namespace Go.Proofs.Ytjldogfpccbkeaa
open Go.RowKit
attribute [local go_sem] Oper.semAt_some

theorem two_facts {w : World} {b : Nat} {u v : Value} {t : TypeId} (h : w.heap[b]? = some (.cells #[u, v] t (0, 0))) :
    w.cell? ⟨b, 0, none⟩ = some u ∧ w.cell? ⟨b, 1, none⟩ = some v ∧ w.frozen? ⟨b, 0, none⟩ = false ∧ w.frozen? ⟨b, 1, none⟩ = false :=
  ⟨cell_of_blk h 0, cell_of_blk h 1, free_of_blk h 0, free_of_blk h 1⟩
theorem two_set {w : World} {b : Nat} {u v : Value} {t : TypeId} (h : w.heap[b]? = some (.cells #[u, v] t (0, 0))) (x y : Value) :
    ((w.setCell ⟨b, 0, none⟩ x).setCell ⟨b, 1, none⟩ y).heap[b]? = some (.cells #[x, y] t (0, 0)) := blk_setCell (blk_setCell h 0 x) 1 y
theorem two_fr {S : Nat → Prop} {a w : World} {b : Nat} (h : Fr S a w) (hb : ¬ b < a.heap.size) (x y : Value) : Fr S a ((w.setCell ⟨b, 0, none⟩ x).setCell ⟨b, 1, none⟩ y) :=
  (h.setCell (p := ⟨b, 0, none⟩) (fun k => absurd k hb) x).setCell (p := ⟨b, 1, none⟩) (fun k => absurd k hb) y
abbrev stopE (k : Int) : PanicEntry := { v := .iface 125 (.agg #[.int .i64 k]), recovered := false }
theorem rmust_yes (k : Int) (w : World) : Calls Try.prog 71 #[.bool true, .int .i64 k] w fun e w' => e = .returned (.tuple #[]) ∧ w = w' := by
  go_enter Try.func71, Try.ntmps71
  go_wp2_with fail
  go_end0
  exact ⟨rfl, rfl⟩
theorem rmust_no (k : Int) (w : World) : Calls Try.prog 71 #[.bool false, .int .i64 k] w fun e w' => e = .panicked [stopE k] ∧ w = w' := by
  go_enter Try.func71, Try.ntmps71
  go_wp2_with fail
  exact ⟨rfl, rfl, rfl⟩
theorem rsigned_yes (n : Nat) (below : Bool) (h : n ≤ 9223372036854775807) (w : World) : Calls Try.prog 98 #[u64v n, .bool below] w fun e w' => e = .returned (.int .i64 (if below then -(n : Int) else n)) ∧ w = w' := by
  have hd : decide ((n : Int) ≤ 9223372036854775807) = true := decide_eq_true (by omega)
  have hi : IntKind.i64.wrap (n : Int) = (n : Int) := by rw [IntKind.wrap_i64]; omega
  have hn : IntKind.i64.wrap (-(n : Int)) = -(n : Int) := by rw [IntKind.wrap_i64]; omega
  have HM := Lib.hid (fun U => rmust_yes 110 U)
  go_enter Try.func98, Try.ntmps98
  cases below
  · go_wp2_with (first | (go_at_call 71; (with_reducible refine (HM.out _).mono ?_); rintro _ _ ⟨rfl, rfl⟩) | fail)
    go_ret
    exact ⟨rfl, rfl⟩
  · go_wp2_with (first | (go_at_call 71; (with_reducible refine (HM.out _).mono ?_); rintro _ _ ⟨rfl, rfl⟩) | fail)
    go_ret
    exact ⟨rfl, rfl⟩
theorem rsigned_no (n : Nat) (below : Bool) (h : ¬ n ≤ 9223372036854775807) (w : World) : Calls Try.prog 98 #[u64v n, .bool below] w fun e w' => e = .panicked [stopE 110] ∧ w = w' := by
  have hd : decide ((n : Int) ≤ 9223372036854775807) = false := decide_eq_false (by omega)
  have HM := Lib.hid (fun U => rmust_no 110 U)
  go_enter Try.func98, Try.ntmps98
  go_wp2_with (first | (go_at_call 71; (with_reducible refine (HM.out _).mono ?_); rintro _ _ ⟨rfl, rfl⟩) | fail)
  exact ⟨rfl, rfl, rfl⟩
/-- A fraction of parts, or none. -/
def toldE (n : Nat) (below : Bool) (d : Nat) : Ending := if d ≤ 9223372036854775807 ∧ n ≤ 9223372036854775807 then .returned (rtv (if below then -(n : Int) else n) d) else .panicked [stopE 110]
theorem rtold_calls (n : Nat) (below : Bool) (d : Nat) (w : World) : Calls Try.prog 91 #[u64v n, .bool below, u64v d] w fun e w' => e = toldE n below d ∧ Fr0 w w' := by
  unfold toldE
  have HF := fun o => Lib.hid ((Fr.refl (fun _ => False) w).alloc o)
  have HF2 := fun o (v v' : Value) => Lib.hid ((((Fr.refl (fun _ => False) w).alloc o).setCell (p := ⟨w.heap.size, 0, none⟩) (fun h => absurd h (by simp)) v).setCell (p := ⟨w.heap.size, 1, none⟩) (fun h => absurd h (by simp)) v')
  by_cases h1 : d ≤ 9223372036854775807
  · have hd : decide ((d : Int) ≤ 9223372036854775807) = true := decide_eq_true (by omega)
    have hi : IntKind.i64.wrap (d : Int) = (d : Int) := by rw [IntKind.wrap_i64]; omega
    have HM := Lib.hid (fun U => rmust_yes 110 U)
    by_cases h2 : n ≤ 9223372036854775807
    · rw [if_pos ⟨h1, h2⟩]
      have HS := Lib.hid (fun U => rsigned_yes n below h2 U)
      go_enter Try.func91, Try.ntmps91
      cases below <;>
        (go_wp2_with (first | (go_at_call 71; (with_reducible refine (HM.out _).mono ?_); rintro _ _ ⟨rfl, rfl⟩) | (go_at_call 98; (with_reducible refine (HS.out _).mono ?_); rintro _ _ ⟨rfl, rfl⟩) | fail)
         exact bodyPost_ret (results_cell_row rfl _ _ w.heap.size _ _ _ _ rfl (heap_alloc_new w (.cells _ 27)) Try.underlying27 rfl (by kernel_rfl)) rfl ⟨rfl, (HF _).out⟩)
    · rw [if_neg (fun h => h2 h.2)]
      have HS := Lib.hid (fun U => rsigned_no n below h2 U)
      go_enter Try.func91, Try.ntmps91
      go_wp2_with (first | (go_at_call 71; (with_reducible refine (HM.out _).mono ?_); rintro _ _ ⟨rfl, rfl⟩) | (go_at_call 98; (with_reducible refine (HS.out _).mono ?_); rintro _ _ ⟨rfl, rfl⟩) | fail)
      exact ⟨rfl, rfl, (HF _).out⟩
  · rw [if_neg (fun h => h1 h.1)]
    have hd : decide ((d : Int) ≤ 9223372036854775807) = false := decide_eq_false (by omega)
    have HM := Lib.hid (fun U => rmust_no 110 U)
    go_enter Try.func91, Try.ntmps91
    go_wp2_with (first | (go_at_call 71; (with_reducible refine (HM.out _).mono ?_); rintro _ _ ⟨rfl, rfl⟩) | fail)
    exact ⟨rfl, rfl, (HF _).out⟩
/-- A fraction of any two numbers, or none. -/
def madeE (n : Nat) (below : Bool) (d : Nat) : Ending := toldE (n / Nat.gcd n d) below (d / Nat.gcd n d)
theorem rmade_calls (n : Nat) (below : Bool) (d : Nat) (hn : n < 18446744073709551616) (hd : d < 18446744073709551616) (h0 : 0 < d) (w : World) : Calls Try.prog 72 #[u64v n, .bool below, u64v d] w fun e w' => e = madeE n below d ∧ Fr0 w w' := by
  have hmx : Try.prog.follows .mixedOrders = true := by kernel_rfl
  have hg0 : 0 < Nat.gcd n d := Nat.gcd_pos_of_pos_right _ h0
  have HG := Lib.hid (fun U => rgcd_calls n d hn hd U)
  have HF := Lib.hid ((Fr.refl (fun _ => False) w).alloc (.cells (rtc 0 0) 27))
  have HB := Lib.hid (heap_alloc_new w (.cells (rtc 0 0) 27))
  have HT := Lib.hid (fun U => rtold_calls (n / Nat.gcd n d) below (d / Nat.gcd n d) U)
  have q1 : (n : Int).tdiv ((Nat.gcd n d : Nat) : Int) = ((n / Nat.gcd n d : Nat) : Int) := by rw [Int.tdiv_eq_ediv_of_nonneg (by omega)]; simp
  have q2 : (d : Int).tdiv ((Nat.gcd n d : Nat) : Int) = ((d / Nat.gcd n d : Nat) : Int) := by rw [Int.tdiv_eq_ediv_of_nonneg (by omega)]; simp
  have l1 := Nat.div_le_self n (Nat.gcd n d)
  have l2 := Nat.div_le_self d (Nat.gcd n d)
  unfold madeE
  generalize n / Nat.gcd n d = p at *
  generalize d / Nat.gcd n d = q at *
  generalize hg : Nat.gcd n d = g at *
  have q3 : IntKind.u64.wrap ((p : Nat) : Int) = (p : Int) := by rw [IntKind.wrap_u64]; omega
  have q4 : IntKind.u64.wrap ((q : Nat) : Int) = (q : Int) := by rw [IntKind.wrap_u64]; omega
  have hgn : ¬ ((g : Int) = 0) := by omega
  have hgb : ((g : Int) == 0) = false := by simpa using hgn
  clear hg hg0 l1 l2
  unfold toldE at HT ⊢
  go_enter Try.func72, Try.ntmps72
  split at HT
  · rw [if_pos (by assumption)]
    generalize (if below = true then -(p : Int) else (p : Int)) = s at *
    go_wp2_with (first | (go_at_call 74; (with_reducible refine (HG.out _).mono ?_); rintro _ w2 ⟨rfl, hf2⟩) | fail)
    refine wp_region_class (fun U => ∃ x : Wx w2, U = x.u) 7 hmx (by kernel_rfl) ⟨⟨w2.drew, (Fr.refl _ w2).drew⟩, rfl⟩ ?_
    simp only [List.take_succ_cons, List.take_zero, List.drop_succ_cons, List.drop_zero]
    repeat (go_big_quiet_step (fail))
    refine wpQuiet_nil ?_
    rintro U ⟨y, rfl⟩
    go_wp2_with (first | (go_at_call 91; (with_reducible refine (HT.out _).mono ?_); rintro _ w3 ⟨rfl, hf3⟩; have hb3 := ((hf2.trans y.fr).trans hf3).blk HB.out (fun h => h); obtain ⟨c0, c1, f0, f1⟩ := two_facts hb3) | fail)
    exact bodyPost_ret (results_cell_row rfl _ _ w.heap.size _ _ _ _ rfl (two_set hb3 _ _) Try.underlying27 rfl (by kernel_rfl)) rfl ⟨rfl, two_fr (((HF.out.trans hf2).trans y.fr).trans hf3) (by simp) _ _⟩
  · rw [if_neg (by assumption)]
    go_wp2_with (first | (go_at_call 74; (with_reducible refine (HG.out _).mono ?_); rintro _ w2 ⟨rfl, hf2⟩) | fail)
    refine wp_region_class (fun U => ∃ x : Wx w2, U = x.u) 7 hmx (by kernel_rfl) ⟨⟨w2.drew, (Fr.refl _ w2).drew⟩, rfl⟩ ?_
    simp only [List.take_succ_cons, List.take_zero, List.drop_succ_cons, List.drop_zero]
    repeat (go_big_quiet_step (fail))
    refine wpQuiet_nil ?_
    rintro U ⟨y, rfl⟩
    go_wp2_with (first | (go_at_call 91; (with_reducible refine (HT.out _).mono ?_); rintro _ w3 ⟨rfl, hf3⟩) | fail)
    exact ⟨rfl, rfl, ((HF.out.trans hf2).trans y.fr).trans hf3⟩
end Go.Proofs.Ytjldogfpccbkeaa

/- Chapter 01: lengths of words, products, sums and differences of two words. -/
set_option linter.unusedVariables false
set_option linter.unusedSimpArgs false
namespace Go.Proofs.Ytjldogfpccbkeaa
open Go.RowKit
attribute [local go_sem] Oper.semAt_some

theorem tab_eq (i : Int) (h : i.toNat < Lib.len8tab.size) : ((Lib.len8tab[i.toNat].toNat : Nat) : Int) = Lib.len8 i := by
  unfold Lib.len8
  rw [getElem?_pos Lib.len8tab i.toNat h]; rfl
theorem tab_at (i : Int) (h0 : 0 ≤ i) (h1 : i < 256) : ∀ h : i.toNat < Lib.len8tab.size, ((Lib.len8tab[i.toNat].toNat : Nat) : Int) = (Lib.bitLen i.toNat : Int) := fun h => (tab_eq i h).trans (Lib.len8_of i h0 (by omega))
theorem len64_0 (x : Int) (h0 : 0 ≤ x) (h1 : x ≤ 18446744073709551615) (c0 : 4294967296 ≤ x) (c1 : 65536 ≤ x / 4294967296) (c2 : 256 ≤ x / 4294967296 / 65536) (w : World) : Calls Try.prog 100 #[.int .u64 x] w fun e w' => e = .returned (.int .i64 (Lib.bitLen x.toNat)) ∧ w = w' := by
  have hz := Lib.len8tab_size
  have i0 : 0 ≤ x / 4294967296 / 65536 / 256 := by omega
  have i1 : x / 4294967296 / 65536 / 256 < 256 := by omega
  have d0 : decide (4294967296 ≤ x) = true := decide_eq_true c0
  have d1 : decide (65536 ≤ x / 4294967296) = true := decide_eq_true c1
  have d2 : decide (256 ≤ x / 4294967296 / 65536) = true := decide_eq_true c2
  have s := Lib.bitLen_shift56 x.toNat (by omega) (by omega)
  have e : (x / 4294967296 / 65536 / 256).toNat = x.toNat / 72057594037927936 := by omega
  have l := Lib.bitLen_le8' (x / 4294967296 / 65536 / 256) i0 (by omega)
  have t := Lib.len8_of (x / 4294967296 / 65536 / 256) i0 (by omega)
  have hi : 0 ≤ x / 4294967296 / 65536 / 256 ∧ x / 4294967296 / 65536 / 256 < (Lib.len8tab.size : Int) := ⟨i0, by omega⟩
  have hi2 : x / 4294967296 / 65536 / 256 < (Lib.len8tab.size : Int) := hi.2
  have t9 : Try.prog.underlying 9 = some .string := Try.underlying9
  have T := tab_at (x / 4294967296 / 65536 / 256) i0 i1
  rw [e] at l
  have T2 : Lib.bitLen (x / 4294967296 / 65536 / 256).toNat = Lib.bitLen (x.toNat / 72057594037927936) := congrArg Lib.bitLen e
  have L := Lib.hid l; have S := Lib.hid s; have TT := Lib.hid T; have T3 := Lib.hid T2
  clear l s T e t hz i1 T2
  go_enter Try.func100, Try.ntmps100
  go_wp2
  go_ret
  refine ⟨congrArg Ending.returned (congrArg (Value.int IntKind.i64) ?_), rfl⟩
  have l := L.out; have s := S.out; have T := TT.out
  simp only [T, T3.out]
  simp only [wrap64]
  omega
theorem len64_1 (x : Int) (h0 : 0 ≤ x) (h1 : x ≤ 18446744073709551615) (c0 : 4294967296 ≤ x) (c1 : 65536 ≤ x / 4294967296) (c2 : ¬ 256 ≤ x / 4294967296 / 65536) (w : World) : Calls Try.prog 100 #[.int .u64 x] w fun e w' => e = .returned (.int .i64 (Lib.bitLen x.toNat)) ∧ w = w' := by
  have hz := Lib.len8tab_size
  have i0 : 0 ≤ x / 4294967296 / 65536 := by omega
  have i1 : x / 4294967296 / 65536 < 256 := by omega
  have d0 : decide (4294967296 ≤ x) = true := decide_eq_true c0
  have d1 : decide (65536 ≤ x / 4294967296) = true := decide_eq_true c1
  have d2 : decide (256 ≤ x / 4294967296 / 65536) = false := decide_eq_false c2
  have s := Lib.bitLen_shift48 x.toNat (by omega) (by omega)
  have e : (x / 4294967296 / 65536).toNat = x.toNat / 281474976710656 := by omega
  have l := Lib.bitLen_le8' (x / 4294967296 / 65536) i0 (by omega)
  have t := Lib.len8_of (x / 4294967296 / 65536) i0 (by omega)
  have hi : 0 ≤ x / 4294967296 / 65536 ∧ x / 4294967296 / 65536 < (Lib.len8tab.size : Int) := ⟨i0, by omega⟩
  have hi2 : x / 4294967296 / 65536 < (Lib.len8tab.size : Int) := hi.2
  have t9 : Try.prog.underlying 9 = some .string := Try.underlying9
  have T := tab_at (x / 4294967296 / 65536) i0 i1
  rw [e] at l
  have T2 : Lib.bitLen (x / 4294967296 / 65536).toNat = Lib.bitLen (x.toNat / 281474976710656) := congrArg Lib.bitLen e
  have L := Lib.hid l; have S := Lib.hid s; have TT := Lib.hid T; have T3 := Lib.hid T2
  clear l s T e t hz i1 T2
  go_enter Try.func100, Try.ntmps100
  go_wp2
  go_ret
  refine ⟨congrArg Ending.returned (congrArg (Value.int IntKind.i64) ?_), rfl⟩
  have l := L.out; have s := S.out; have T := TT.out
  simp only [T, T3.out]
  simp only [wrap64]
  omega
theorem len64_2 (x : Int) (h0 : 0 ≤ x) (h1 : x ≤ 18446744073709551615) (c0 : 4294967296 ≤ x) (c1 : ¬ 65536 ≤ x / 4294967296) (c2 : 256 ≤ x / 4294967296) (w : World) : Calls Try.prog 100 #[.int .u64 x] w fun e w' => e = .returned (.int .i64 (Lib.bitLen x.toNat)) ∧ w = w' := by
  have hz := Lib.len8tab_size
  have i0 : 0 ≤ x / 4294967296 / 256 := by omega
  have i1 : x / 4294967296 / 256 < 256 := by omega
  have d0 : decide (4294967296 ≤ x) = true := decide_eq_true c0
  have d1 : decide (65536 ≤ x / 4294967296) = false := decide_eq_false c1
  have d2 : decide (256 ≤ x / 4294967296) = true := decide_eq_true c2
  have s := Lib.bitLen_shift40 x.toNat (by omega) (by omega)
  have e : (x / 4294967296 / 256).toNat = x.toNat / 1099511627776 := by omega
  have l := Lib.bitLen_le8' (x / 4294967296 / 256) i0 (by omega)
  have t := Lib.len8_of (x / 4294967296 / 256) i0 (by omega)
  have hi : 0 ≤ x / 4294967296 / 256 ∧ x / 4294967296 / 256 < (Lib.len8tab.size : Int) := ⟨i0, by omega⟩
  have hi2 : x / 4294967296 / 256 < (Lib.len8tab.size : Int) := hi.2
  have t9 : Try.prog.underlying 9 = some .string := Try.underlying9
  have T := tab_at (x / 4294967296 / 256) i0 i1
  rw [e] at l
  have T2 : Lib.bitLen (x / 4294967296 / 256).toNat = Lib.bitLen (x.toNat / 1099511627776) := congrArg Lib.bitLen e
  have L := Lib.hid l; have S := Lib.hid s; have TT := Lib.hid T; have T3 := Lib.hid T2
  clear l s T e t hz i1 T2
  go_enter Try.func100, Try.ntmps100
  go_wp2
  go_ret
  refine ⟨congrArg Ending.returned (congrArg (Value.int IntKind.i64) ?_), rfl⟩
  have l := L.out; have s := S.out; have T := TT.out
  simp only [T, T3.out]
  simp only [wrap64]
  omega
theorem len64_3 (x : Int) (h0 : 0 ≤ x) (h1 : x ≤ 18446744073709551615) (c0 : 4294967296 ≤ x) (c1 : ¬ 65536 ≤ x / 4294967296) (c2 : ¬ 256 ≤ x / 4294967296) (w : World) : Calls Try.prog 100 #[.int .u64 x] w fun e w' => e = .returned (.int .i64 (Lib.bitLen x.toNat)) ∧ w = w' := by
  have hz := Lib.len8tab_size
  have i0 : 0 ≤ x / 4294967296 := by omega
  have i1 : x / 4294967296 < 256 := by omega
  have d0 : decide (4294967296 ≤ x) = true := decide_eq_true c0
  have d1 : decide (65536 ≤ x / 4294967296) = false := decide_eq_false c1
  have d2 : decide (256 ≤ x / 4294967296) = false := decide_eq_false c2
  have s := Lib.bitLen_shift32 x.toNat (by omega) (by omega)
  have e : (x / 4294967296).toNat = x.toNat / 4294967296 := by omega
  have l := Lib.bitLen_le8' (x / 4294967296) i0 (by omega)
  have t := Lib.len8_of (x / 4294967296) i0 (by omega)
  have hi : 0 ≤ x / 4294967296 ∧ x / 4294967296 < (Lib.len8tab.size : Int) := ⟨i0, by omega⟩
  have hi2 : x / 4294967296 < (Lib.len8tab.size : Int) := hi.2
  have t9 : Try.prog.underlying 9 = some .string := Try.underlying9
  have T := tab_at (x / 4294967296) i0 i1
  rw [e] at l
  have T2 : Lib.bitLen (x / 4294967296).toNat = Lib.bitLen (x.toNat / 4294967296) := congrArg Lib.bitLen e
  have L := Lib.hid l; have S := Lib.hid s; have TT := Lib.hid T; have T3 := Lib.hid T2
  clear l s T e t hz i1 T2
  go_enter Try.func100, Try.ntmps100
  go_wp2
  go_ret
  refine ⟨congrArg Ending.returned (congrArg (Value.int IntKind.i64) ?_), rfl⟩
  have l := L.out; have s := S.out; have T := TT.out
  simp only [T, T3.out]
  simp only [wrap64]
  omega
theorem len64_4 (x : Int) (h0 : 0 ≤ x) (h1 : x ≤ 18446744073709551615) (c0 : ¬ 4294967296 ≤ x) (c1 : 65536 ≤ x) (c2 : 256 ≤ x / 65536) (w : World) : Calls Try.prog 100 #[.int .u64 x] w fun e w' => e = .returned (.int .i64 (Lib.bitLen x.toNat)) ∧ w = w' := by
  have hz := Lib.len8tab_size
  have i0 : 0 ≤ x / 65536 / 256 := by omega
  have i1 : x / 65536 / 256 < 256 := by omega
  have d0 : decide (4294967296 ≤ x) = false := decide_eq_false c0
  have d1 : decide (65536 ≤ x) = true := decide_eq_true c1
  have d2 : decide (256 ≤ x / 65536) = true := decide_eq_true c2
  have s := Lib.bitLen_shift24 x.toNat (by omega) (by omega)
  have e : (x / 65536 / 256).toNat = x.toNat / 16777216 := by omega
  have l := Lib.bitLen_le8' (x / 65536 / 256) i0 (by omega)
  have t := Lib.len8_of (x / 65536 / 256) i0 (by omega)
  have hi : 0 ≤ x / 65536 / 256 ∧ x / 65536 / 256 < (Lib.len8tab.size : Int) := ⟨i0, by omega⟩
  have hi2 : x / 65536 / 256 < (Lib.len8tab.size : Int) := hi.2
  have t9 : Try.prog.underlying 9 = some .string := Try.underlying9
  have T := tab_at (x / 65536 / 256) i0 i1
  rw [e] at l
  have T2 : Lib.bitLen (x / 65536 / 256).toNat = Lib.bitLen (x.toNat / 16777216) := congrArg Lib.bitLen e
  have L := Lib.hid l; have S := Lib.hid s; have TT := Lib.hid T; have T3 := Lib.hid T2
  clear l s T e t hz i1 T2
  go_enter Try.func100, Try.ntmps100
  go_wp2
  go_ret
  refine ⟨congrArg Ending.returned (congrArg (Value.int IntKind.i64) ?_), rfl⟩
  have l := L.out; have s := S.out; have T := TT.out
  simp only [T, T3.out]
  simp only [wrap64]
  omega
theorem len64_5 (x : Int) (h0 : 0 ≤ x) (h1 : x ≤ 18446744073709551615) (c0 : ¬ 4294967296 ≤ x) (c1 : 65536 ≤ x) (c2 : ¬ 256 ≤ x / 65536) (w : World) : Calls Try.prog 100 #[.int .u64 x] w fun e w' => e = .returned (.int .i64 (Lib.bitLen x.toNat)) ∧ w = w' := by
  have hz := Lib.len8tab_size
  have i0 : 0 ≤ x / 65536 := by omega
  have i1 : x / 65536 < 256 := by omega
  have d0 : decide (4294967296 ≤ x) = false := decide_eq_false c0
  have d1 : decide (65536 ≤ x) = true := decide_eq_true c1
  have d2 : decide (256 ≤ x / 65536) = false := decide_eq_false c2
  have s := Lib.bitLen_shift16 x.toNat (by omega) (by omega)
  have e : (x / 65536).toNat = x.toNat / 65536 := by omega
  have l := Lib.bitLen_le8' (x / 65536) i0 (by omega)
  have t := Lib.len8_of (x / 65536) i0 (by omega)
  have hi : 0 ≤ x / 65536 ∧ x / 65536 < (Lib.len8tab.size : Int) := ⟨i0, by omega⟩
  have hi2 : x / 65536 < (Lib.len8tab.size : Int) := hi.2
  have t9 : Try.prog.underlying 9 = some .string := Try.underlying9
  have T := tab_at (x / 65536) i0 i1
  rw [e] at l
  have T2 : Lib.bitLen (x / 65536).toNat = Lib.bitLen (x.toNat / 65536) := congrArg Lib.bitLen e
  have L := Lib.hid l; have S := Lib.hid s; have TT := Lib.hid T; have T3 := Lib.hid T2
  clear l s T e t hz i1 T2
  go_enter Try.func100, Try.ntmps100
  go_wp2
  go_ret
  refine ⟨congrArg Ending.returned (congrArg (Value.int IntKind.i64) ?_), rfl⟩
  have l := L.out; have s := S.out; have T := TT.out
  simp only [T, T3.out]
  simp only [wrap64]
  omega
theorem len64_6 (x : Int) (h0 : 0 ≤ x) (h1 : x ≤ 18446744073709551615) (c0 : ¬ 4294967296 ≤ x) (c1 : ¬ 65536 ≤ x) (c2 : 256 ≤ x) (w : World) : Calls Try.prog 100 #[.int .u64 x] w fun e w' => e = .returned (.int .i64 (Lib.bitLen x.toNat)) ∧ w = w' := by
  have hz := Lib.len8tab_size
  have i0 : 0 ≤ x / 256 := by omega
  have i1 : x / 256 < 256 := by omega
  have d0 : decide (4294967296 ≤ x) = false := decide_eq_false c0
  have d1 : decide (65536 ≤ x) = false := decide_eq_false c1
  have d2 : decide (256 ≤ x) = true := decide_eq_true c2
  have s := Lib.bitLen_shift8 x.toNat (by omega) (by omega)
  have e : (x / 256).toNat = x.toNat / 256 := by omega
  have l := Lib.bitLen_le8' (x / 256) i0 (by omega)
  have t := Lib.len8_of (x / 256) i0 (by omega)
  have hi : 0 ≤ x / 256 ∧ x / 256 < (Lib.len8tab.size : Int) := ⟨i0, by omega⟩
  have hi2 : x / 256 < (Lib.len8tab.size : Int) := hi.2
  have t9 : Try.prog.underlying 9 = some .string := Try.underlying9
  have T := tab_at (x / 256) i0 i1
  rw [e] at l
  have T2 : Lib.bitLen (x / 256).toNat = Lib.bitLen (x.toNat / 256) := congrArg Lib.bitLen e
  have L := Lib.hid l; have S := Lib.hid s; have TT := Lib.hid T; have T3 := Lib.hid T2
  clear l s T e t hz i1 T2
  go_enter Try.func100, Try.ntmps100
  go_wp2
  go_ret
  refine ⟨congrArg Ending.returned (congrArg (Value.int IntKind.i64) ?_), rfl⟩
  have l := L.out; have s := S.out; have T := TT.out
  simp only [T, T3.out]
  simp only [wrap64]
  omega
theorem len64_7 (x : Int) (h0 : 0 ≤ x) (h1 : x ≤ 18446744073709551615) (c0 : ¬ 4294967296 ≤ x) (c1 : ¬ 65536 ≤ x) (c2 : ¬ 256 ≤ x) (w : World) : Calls Try.prog 100 #[.int .u64 x] w fun e w' => e = .returned (.int .i64 (Lib.bitLen x.toNat)) ∧ w = w' := by
  have hz := Lib.len8tab_size
  have i0 : 0 ≤ x := by omega
  have i1 : x < 256 := by omega
  have d0 : decide (4294967296 ≤ x) = false := decide_eq_false c0
  have d1 : decide (65536 ≤ x) = false := decide_eq_false c1
  have d2 : decide (256 ≤ x) = false := decide_eq_false c2
  have q : x.toNat = x.toNat / 1 := by omega
  have s : Lib.bitLen x.toNat = 0 + Lib.bitLen (x.toNat / 1) := by simp
  have e : (x).toNat = x.toNat / 1 := by omega
  have l := Lib.bitLen_le8' (x) i0 (by omega)
  have t := Lib.len8_of (x) i0 (by omega)
  have hi : 0 ≤ x ∧ x < (Lib.len8tab.size : Int) := ⟨i0, by omega⟩
  have hi2 : x < (Lib.len8tab.size : Int) := hi.2
  have t9 : Try.prog.underlying 9 = some .string := Try.underlying9
  have T := tab_at (x) i0 i1
  rw [e] at l
  have T2 : Lib.bitLen (x).toNat = Lib.bitLen (x.toNat / 1) := congrArg Lib.bitLen e
  have L := Lib.hid l; have S := Lib.hid s; have TT := Lib.hid T; have T3 := Lib.hid T2
  clear l s T e t hz i1 T2 q
  go_enter Try.func100, Try.ntmps100
  go_wp2
  go_ret
  refine ⟨congrArg Ending.returned (congrArg (Value.int IntKind.i64) ?_), rfl⟩
  have l := L.out; have s := S.out; have T := TT.out
  simp only [T, T3.out]
  simp only [wrap64]
  omega
theorem len64_calls (x : Int) (h0 : 0 ≤ x) (h1 : x ≤ 18446744073709551615) (w : World) : Calls Try.prog 100 #[.int .u64 x] w fun e w' => e = .returned (.int .i64 (Lib.bitLen x.toNat)) ∧ w = w' := by
  by_cases c0 : 4294967296 ≤ x
  · by_cases c1 : 65536 ≤ x / 4294967296
    · by_cases c2 : 256 ≤ x / 4294967296 / 65536
      · exact len64_0 x h0 h1 c0 c1 c2 w
      · exact len64_1 x h0 h1 c0 c1 c2 w
    · by_cases c2 : 256 ≤ x / 4294967296
      · exact len64_2 x h0 h1 c0 c1 c2 w
      · exact len64_3 x h0 h1 c0 c1 c2 w
  · by_cases c1 : 65536 ≤ x
    · by_cases c2 : 256 ≤ x / 65536
      · exact len64_4 x h0 h1 c0 c1 c2 w
      · exact len64_5 x h0 h1 c0 c1 c2 w
    · by_cases c2 : 256 ≤ x
      · exact len64_6 x h0 h1 c0 c1 c2 w
      · exact len64_7 x h0 h1 c0 c1 c2 w
theorem bitLen_log (x : Nat) (h0 : x ≠ 0) (h : x < 18446744073709551616) : Lib.bitLen x = x.log2 + 1 := by
  have h1 := Nat.log2_self_le h0
  have h2 := Nat.lt_log2_self (n := x)
  rw [Lib.bitLen_shift x.log2 x h1 h]
  have h3 : x / 2 ^ x.log2 = 1 := by
    apply Nat.div_eq_of_lt_le
    · omega
    · rw [Nat.pow_succ] at h2; omega
  rw [h3]; rfl
theorem lead64_calls (x : Nat) (h0 : x ≠ 0) (h1 : x < 18446744073709551616) (w : World) : Calls Try.prog 99 #[u64v x] w fun e w' => e = .returned (.int .i64 ((63 - x.log2 : Nat) : Int)) ∧ w = w' := by
  have HL := Lib.hid (fun U => len64_calls (x : Int) (by omega) (by omega) U)
  have hb := bitLen_log x h0 h1
  have hl : x.log2 < 64 := (Nat.log2_lt h0).2 (by simpa using h1)
  have e : 64 - ((Lib.bitLen x : Nat) : Int) = ((63 - x.log2 : Nat) : Int) := by omega
  have e2 : IntKind.i64.wrap ((63 - x.log2 : Nat) : Int) = ((63 - x.log2 : Nat) : Int) := by rw [IntKind.wrap_i64]; omega
  simp only [Int.toNat_natCast] at HL
  rw [hb] at HL e
  generalize x.log2 = s at *
  generalize 63 - s = t at *
  clear hb hl
  go_enter Try.func99, Try.ntmps99
  go_wp2_with (first | (go_at_call 100; (with_reducible refine (HL.out _).mono ?_); rintro _ _ ⟨rfl, rfl⟩) | fail)
  rw [show (64 : Int) - ((s : Int) + 1) = (t : Int) by omega]
  go_ret
  exact ⟨rfl, rfl⟩
theorem maskN (a : Nat) (ha : a < 18446744073709551616) : bits .and .u64 (a : Int) 4294967295 = ((a % 4294967296 : Nat) : Int) := by
  have h := bits_and_u64_nat a 4294967295 ha (by omega)
  have e : a &&& 4294967295 = a % 4294967296 := Nat.and_two_pow_sub_one_eq_mod a 32
  rw [e] at h
  exact h
theorem divN (a : Nat) : (a : Int) / 4294967296 = ((a / 4294967296 : Nat) : Int) := by omega
theorem mulN (a b : Nat) : (a : Int) * (b : Int) = ((a * b : Nat) : Int) := (Int.natCast_mul a b).symm
theorem addN (a b : Nat) : (a : Int) + (b : Int) = ((a + b : Nat) : Int) := (Int.natCast_add a b).symm
theorem wrapN (a : Nat) (ha : a < 18446744073709551616) : IntKind.u64.wrap (a : Int) = (a : Int) := by rw [IntKind.wrap_u64]; omega
theorem wrapM (a : Nat) : IntKind.u64.wrap (a : Int) = ((a % 18446744073709551616 : Nat) : Int) := by rw [IntKind.wrap_u64]; omega
set_option maxHeartbeats 1000000 in
theorem mul64_calls (x y : Nat) (hx : x < 18446744073709551616) (hy : y < 18446744073709551616) (w : World) :
    Calls Try.prog 93 #[u64v x, u64v y] w fun e w' => e = .returned (.tuple #[u64v (x * y / 18446744073709551616), u64v (x * y % 18446744073709551616)]) ∧ w = w' := by
  obtain ⟨bd, bt, bw, hhi⟩ := Lib.mul64_hi x y hx hy
  have ba := Lib.half_mul_le (a := x / 4294967296) (b := y / 4294967296) (by omega) (by omega)
  have bb := Lib.half_mul_le (a := x / 4294967296) (b := y % 4294967296) (by omega) (by omega)
  have bc := Lib.half_mul_le (a := x % 4294967296) (b := y / 4294967296) (by omega) (by omega)
  have ba' : x / 4294967296 * (y / 4294967296) < 18446744073709551616 := by omega
  have bb' : x / 4294967296 * (y % 4294967296) < 18446744073709551616 := by omega
  have bc' : x % 4294967296 * (y / 4294967296) < 18446744073709551616 := by omega
  have bh1 : x / 4294967296 * (y / 4294967296) + (x / 4294967296 * (y % 4294967296) + x % 4294967296 * (y % 4294967296) / 4294967296) / 4294967296 < 18446744073709551616 := by omega
  have bh : x / 4294967296 * (y / 4294967296) + (x / 4294967296 * (y % 4294967296) + x % 4294967296 * (y % 4294967296) / 4294967296) / 4294967296 + ((x / 4294967296 * (y % 4294967296) + x % 4294967296 * (y % 4294967296) / 4294967296) % 4294967296 + x % 4294967296 * (y / 4294967296)) / 4294967296 < 18446744073709551616 := by omega
  have HH := Lib.hid hhi
  clear hhi ba bb bc
  have B := Lib.hid (And.intro bd (And.intro bb' (And.intro bt (And.intro bc' (And.intro bw (And.intro ba' (And.intro bh1 bh)))))))
  clear bd bb' bt bc' bw ba' bh1 bh
  go_enter Try.func93, Try.ntmps93
  go_wp2
  obtain ⟨bd, bb', bt, bc', bw, ba', bh1, bh⟩ := B.out
  simp only [maskN x hx, maskN y hy, divN, mulN, addN, wrapN _ bd, wrapN _ bb', wrapN _ bt, maskN _ bt, wrapN _ bc', wrapN _ bw, wrapN _ ba', wrapN _ bh1, wrapN _ bh, wrapM (x * y)]
  rw [HH.out]
  go_ret2
  exact ⟨rfl, rfl⟩
theorem add64_run (x y c s k : Nat) (hc : c ≤ 1) (hs : s < 18446744073709551616) (h : s + 18446744073709551616 * k = x + y + c) (w : World) :
    (callFunc 94 #[u64v x, u64v y, u64v c]).run Try.prog w = .ok (.value (.tuple #[u64v s, u64v k])) w := by
  rw [run_callFunc_extern (e := add64Entry) Try.func94 (by kernel_rfl) (by kernel_rfl) (by kernel_rfl) (by kernel_rfl), run_add64 x y c (by omega) (by omega) (by omega) (by omega)]
  simp only [Result.andThen]
  have e1 : ((x : Int) + y + c) % 18446744073709551616 = (s : Int) := by omega
  have e2 : ((x : Int) + y + c) / 18446744073709551616 = (k : Int) := by omega
  rw [e1, e2]
def sub64E : Array Value → Sem Value := fun args => do
  let (x, y, b) ← Extern.MathBitsCarry.three "Sub64" args
  pure (Extern.MathBitsCarry.pair ((x + Extern.MathBitsCarry.m64 - y - b) % Extern.MathBitsCarry.m64) (if x < y + b then 1 else 0))
theorem run_sub64E {P : Program} (x y b : Nat) (hb : b ≤ 1) (w : World) :
    (sub64E #[u64v x, u64v y, u64v b]).run P w = .ok (.tuple #[u64v ((x + 18446744073709551616 - y - b) % 18446744073709551616), u64v (if x < y + b then 1 else 0)]) w := by
  have : b = 0 ∨ b = 1 := by omega
  rcases this with rfl | rfl <;> rfl
theorem sub64_run (x y b s k : Nat) (hb : b ≤ 1) (hy : y < 18446744073709551616) (hx : x < 18446744073709551616) (hs : s < 18446744073709551616) (h : s + y + b = x + 18446744073709551616 * k) (w : World) :
    (callFunc 95 #[u64v x, u64v y, u64v b]).run Try.prog w = .ok (.value (.tuple #[u64v s, u64v k])) w := by
  rw [run_callFunc_extern (e := sub64E) Try.func95 (by kernel_rfl) (by kernel_rfl) (by kernel_rfl) (by kernel_rfl), run_sub64E x y b hb]
  simp only [Result.andThen]
  have e1 : (x + 18446744073709551616 - y - b) % 18446744073709551616 = s := by omega
  have e2 : (if x < y + b then 1 else 0) = k := by split <;> omega
  rw [e1, e2]
end Go.Proofs.Ytjldogfpccbkeaa

/- Chapter 01: numbers of 128 bits: products, sums, differences, which is less. -/
set_option linter.unusedVariables false
set_option linter.unusedSimpArgs false
namespace Go.Proofs.Ytjldogfpccbkeaa
open Go.RowKit
attribute [local go_sem] Oper.semAt_some

abbrev wdc (h l : Nat) : Array Value := #[u64v h, u64v l]
abbrev wdv (n : Nat) : Value := .agg #[u64v (n / 18446744073709551616), u64v (n % 18446744073709551616)]
theorem heap_an {w : World} {k : Nat} (o : Obj) (h : w.heap.size = k) : (w.alloc o).heap[k]? = some o := h ▸ heap_alloc_new w o
theorem wtimes_calls (a b : Nat) (ha : a < 18446744073709551616) (hb : b < 18446744073709551616) (w : World) : Calls Try.prog 85 #[u64v a, u64v b] w fun e w' => e = .returned (wdv (a * b)) ∧ Fr0 w w' := by
  unfold wdv
  have HF := fun o => Lib.hid ((Fr.refl (fun _ => False) w).alloc o)
  have HM := Lib.hid (fun U => mul64_calls a b ha hb U)
  generalize a * b / 18446744073709551616 = h at *
  generalize a * b % 18446744073709551616 = l at *
  go_enter Try.func85, Try.ntmps85
  go_wp2_with (first | (go_at_call 93; (with_reducible refine (HM.out _).mono ?_); rintro _ _ ⟨rfl, rfl⟩) | fail)
  exact bodyPost_ret (results_cell_row rfl _ _ w.heap.size _ _ _ _ rfl (heap_alloc_new w (.cells _ 117)) Try.underlying117 rfl (by kernel_rfl)) rfl ⟨rfl, (HF _).out⟩
theorem wplus_calls (a b : Nat) (h : a + b < 340282366920938463463374607431768211456) (w : World) : Calls Try.prog 86 #[wdv a, wdv b] w fun e w' => e = .returned (wdv (a + b)) ∧ Fr0 w w' := by
  unfold wdv
  have HF := fun o1 o2 o3 => Lib.hid ((((Fr.refl (fun _ => False) w).alloc o1).alloc o2).alloc o3)
  obtain ⟨k, hk⟩ : ∃ k, k = (a % 18446744073709551616 + b % 18446744073709551616) / 18446744073709551616 := ⟨_, rfl⟩
  have H1 := fun U => add64_run (a % 18446744073709551616) (b % 18446744073709551616) 0 ((a + b) % 18446744073709551616) k (by omega) (by omega) (by omega) U
  have H2 := fun U => add64_run (a / 18446744073709551616) (b / 18446744073709551616) k ((a + b) / 18446744073709551616) 0 (by omega) (by omega) (by omega) U
  have H1' : ∀ U, (callFunc 94 #[u64v (a % 18446744073709551616), u64v (b % 18446744073709551616), .int .u64 0]).run Try.prog U = _ := H1
  have H2' : ∀ U, (callFunc 94 #[u64v (a / 18446744073709551616), u64v (b / 18446744073709551616), u64v k]).run Try.prog U = .ok (.value (.tuple #[u64v ((a + b) / 18446744073709551616), .int .u64 0])) U := H2
  have HB := fun o1 o2 o3 => Lib.hid (heap_an (w := (w.alloc o1).alloc o2) (k := w.heap.size + 1 + 1) o3 (by simp))
  clear hk h H1 H2
  generalize (a + b) % 18446744073709551616 = s at *
  generalize (a + b) / 18446744073709551616 = t at *
  generalize a % 18446744073709551616 = al at *
  generalize a / 18446744073709551616 = ah at *
  generalize b % 18446744073709551616 = bl at *
  generalize b / 18446744073709551616 = bh at *
  go_enter Try.func86, Try.ntmps86
  go_wp2_with (first | simp only [H1'] | simp only [H2'] | fail)
  exact bodyPost_ret (results_cell_row rfl _ _ (w.heap.size + 1 + 1) _ _ _ _ rfl (HB _ _ _).out Try.underlying117 rfl (by kernel_rfl)) rfl ⟨rfl, (HF _ _ _).out⟩
theorem wminus_calls (a b : Nat) (h : b ≤ a) (ha : a < 340282366920938463463374607431768211456) (w : World) : Calls Try.prog 88 #[wdv a, wdv b] w fun e w' => e = .returned (wdv (a - b)) ∧ Fr0 w w' := by
  unfold wdv
  have HF := fun o1 o2 o3 => Lib.hid ((((Fr.refl (fun _ => False) w).alloc o1).alloc o2).alloc o3)
  obtain ⟨k, hk⟩ : ∃ k, k = if a % 18446744073709551616 < b % 18446744073709551616 then 1 else 0 := ⟨_, rfl⟩
  have hk1 : k ≤ 1 ∧ (a - b) % 18446744073709551616 + b % 18446744073709551616 = a % 18446744073709551616 + 18446744073709551616 * k ∧ (a - b) / 18446744073709551616 + b / 18446744073709551616 + k = a / 18446744073709551616 := by
    split at hk <;> omega
  obtain ⟨k1, k2, k3⟩ := hk1
  have H1' : ∀ U, (callFunc 95 #[u64v (a % 18446744073709551616), u64v (b % 18446744073709551616), .int .u64 0]).run Try.prog U = .ok (.value (.tuple #[u64v ((a - b) % 18446744073709551616), u64v k])) U :=
    fun U => sub64_run (a % 18446744073709551616) (b % 18446744073709551616) 0 ((a - b) % 18446744073709551616) k (by omega) (by omega) (by omega) (by omega) (by omega) U
  have H2' : ∀ U, (callFunc 95 #[u64v (a / 18446744073709551616), u64v (b / 18446744073709551616), u64v k]).run Try.prog U = .ok (.value (.tuple #[u64v ((a - b) / 18446744073709551616), .int .u64 0])) U :=
    fun U => sub64_run (a / 18446744073709551616) (b / 18446744073709551616) k ((a - b) / 18446744073709551616) 0 (by omega) (by omega) (by omega) (by omega) (by omega) U
  have HB := fun o1 o2 o3 => Lib.hid (heap_an (w := (w.alloc o1).alloc o2) (k := w.heap.size + 1 + 1) o3 (by simp))
  clear hk h ha k1 k2 k3
  generalize (a - b) % 18446744073709551616 = s at *
  generalize (a - b) / 18446744073709551616 = t at *
  generalize a % 18446744073709551616 = al at *
  generalize a / 18446744073709551616 = ah at *
  generalize b % 18446744073709551616 = bl at *
  generalize b / 18446744073709551616 = bh at *
  go_enter Try.func88, Try.ntmps88
  go_wp2_with (first | simp only [H1'] | simp only [H2'] | fail)
  exact bodyPost_ret (results_cell_row rfl _ _ (w.heap.size + 1 + 1) _ _ _ _ rfl (HB _ _ _).out Try.underlying117 rfl (by kernel_rfl)) rfl ⟨rfl, (HF _ _ _).out⟩
theorem wless_calls (a b : Nat) (w : World) : Calls Try.prog 87 #[wdv a, wdv b] w fun e w' => e = .returned (.bool (decide (a < b))) ∧ Fr0 w w' := by
  unfold wdv
  have HF := fun o1 o2 => Lib.hid (((Fr.refl (fun _ => False) w).alloc o1).alloc o2)
  by_cases h1 : a / 18446744073709551616 < b / 18446744073709551616
  · rw [decide_eq_true (show a < b by omega)]
    have d1 : decide (((a / 18446744073709551616 : Nat) : Int) < ((b / 18446744073709551616 : Nat) : Int)) = true := decide_eq_true (by omega)
    have d1n : decide (a / 18446744073709551616 < b / 18446744073709551616) = true := decide_eq_true (by omega)
    clear h1
    generalize a % 18446744073709551616 = al at *
    generalize a / 18446744073709551616 = ah at *
    generalize b % 18446744073709551616 = bl at *
    generalize b / 18446744073709551616 = bh at *
    go_enter Try.func87, Try.ntmps87
    go_wp2_with fail
    go_ret
    exact ⟨rfl, (HF _ _).out⟩
  · have d1 : decide (((a / 18446744073709551616 : Nat) : Int) < ((b / 18446744073709551616 : Nat) : Int)) = false := decide_eq_false (by omega)
    have d1n : decide (a / 18446744073709551616 < b / 18446744073709551616) = false := decide_eq_false (by omega)
    by_cases h2 : a / 18446744073709551616 = b / 18446744073709551616
    · have d3 : decide (a % 18446744073709551616 < b % 18446744073709551616) = decide (a < b) := decide_eq_decide.2 (by omega)
      rw [← d3]
      rw [h2] at d1 d1n ⊢
      clear h1 h2 d3
      generalize a % 18446744073709551616 = al at *
      generalize b % 18446744073709551616 = bl at *
      generalize b / 18446744073709551616 = bh at *
      go_enter Try.func87, Try.ntmps87
      go_wp2_with fail
      go_ret
      exact ⟨rfl, (HF _ _).out⟩
    · rw [decide_eq_false (show ¬ a < b by omega)]
      have d2 : decide (((a / 18446744073709551616 : Nat) : Int) = ((b / 18446744073709551616 : Nat) : Int)) = false := decide_eq_false (by omega)
      have d2n : decide (a / 18446744073709551616 = b / 18446744073709551616) = false := decide_eq_false (by omega)
      have d2m : (a / 18446744073709551616 == b / 18446744073709551616) = false := by simpa using d2n
      have d2b : (((a / 18446744073709551616 : Nat) : Int) == ((b / 18446744073709551616 : Nat) : Int)) = false := by simpa using d2
      clear h1 h2
      generalize a % 18446744073709551616 = al at *
      generalize a / 18446744073709551616 = ah at *
      generalize b % 18446744073709551616 = bl at *
      generalize b / 18446744073709551616 = bh at *
      go_enter Try.func87, Try.ntmps87
      go_wp2_with fail
      go_ret
      exact ⟨rfl, (HF _ _).out⟩
end Go.Proofs.Ytjldogfpccbkeaa
