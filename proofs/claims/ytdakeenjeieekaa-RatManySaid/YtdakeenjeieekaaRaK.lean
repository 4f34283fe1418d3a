/- Plain: what the code cuts ahead is the fraction (core's Rat), or that it does not fit. -/
import Derived.Test.YtdakeenjeieekaaRaA
set_option linter.unusedVariables false
set_option linter.unusedSimpArgs false
namespace Go.Proofs.Ytdakeenjeieekaa

/-- A fraction's parts, or why there is none. -/
abbrev Ra := Except Int (Int × Int)
/-- The parts of a fraction, if they fit. -/
def rR (x : Rat) : Ra := if x.den ≤ 9223372036854775807 ∧ x.num.natAbs ≤ 9223372036854775807 then .ok (x.num, (x.den : Int)) else .error 110
/-- The fraction of two parts. -/
def rq (n d : Int) : Rat := mkRat n d.natAbs
def toldR (n : Nat) (below : Bool) (d : Nat) : Ra := if d ≤ 9223372036854775807 ∧ n ≤ 9223372036854775807 then .ok (if below then -(n : Int) else n, (d : Int)) else .error 110
/-- What is cut by the greatest common divisor. -/
def fracR (n : Nat) (below : Bool) (d : Nat) : Ra := toldR (n / Nat.gcd n d) below (d / Nat.gcd n d)
def sgn (n : Nat) (below : Bool) : Int := if below then -(n : Int) else n
theorem sgn_natAbs (n : Nat) (below : Bool) : (sgn n below).natAbs = n := by unfold sgn; split <;> simp
theorem sgn_div (n g : Nat) (below : Bool) (h : g ∣ n) : sgn n below / (g : Int) = sgn (n / g) below := by
  unfold sgn
  split
  · rw [Int.neg_ediv_of_dvd (Int.natCast_dvd_natCast.2 h)]; simp
  · simp
theorem fracR_eq (n : Nat) (below : Bool) (d : Nat) (hd : d ≠ 0) : fracR n below d = rR (mkRat (sgn n below) d) := by
  unfold fracR toldR rR
  rw [Rat.mkRat_def, dif_neg hd, Rat.normalize_eq hd]
  simp only [sgn_natAbs]
  rw [sgn_div n (Nat.gcd n d) below (Nat.gcd_dvd_left n d), sgn_natAbs]
  rfl
/-- Parts without a common divisor. -/
def RtP (n d : Int) : Prop := 1 ≤ d ∧ Nat.gcd n.natAbs d.natAbs = 1
theorem rq_parts {n d : Int} (h : RtP n d) : (rq n d).num = n ∧ (rq n d).den = d.natAbs := by
  have hd : d.natAbs ≠ 0 := by have := h.1; omega
  unfold rq
  rw [← Rat.mk_eq_mkRat n d.natAbs hd h.2]
  exact ⟨rfl, rfl⟩
theorem rR_rq {n d : Int} (h : RtP n d) (h1 : n.natAbs ≤ 9223372036854775807) (h2 : d ≤ 9223372036854775807) : rR (rq n d) = .ok (n, d) := by
  obtain ⟨e1, e2⟩ := rq_parts h
  have := h.1
  unfold rR
  rw [e1, e2, if_pos ⟨by omega, h1⟩]
  congr 2
  omega
theorem rR_ok {x : Rat} {n d : Int} (h : rR x = .ok (n, d)) : x = rq n d ∧ RtP n d ∧ n.natAbs ≤ 9223372036854775807 ∧ d ≤ 9223372036854775807 := by
  unfold rR at h
  split at h
  · rename_i hc
    cases h
    have hd := x.den_nz
    refine ⟨?_, ⟨by omega, ?_⟩, hc.2, by omega⟩
    · unfold rq; rw [Int.natAbs_natCast, Rat.mkRat_self]
    · rw [Int.natAbs_natCast]; exact x.reduced
  · cases h
theorem rR_inj {x y : Rat} {p : Int × Int} (h1 : rR x = .ok p) (h2 : rR y = .ok p) : x = y := by
  obtain ⟨n, d⟩ := p
  rw [(rR_ok h1).1, (rR_ok h2).1]
/-- A sum, cut ahead, as the code tells it: t is what the cut cross products sum to. -/
def codeAdd (t : Nat) (below : Bool) (h bot : Nat) : Ra :=
  if t / 18446744073709551616 < h then
    if bot / 18446744073709551616 = 0 ∨ t = 0 then
      if t = 0 then .ok (0, 1) else toldR (t / h) below (bot % 18446744073709551616)
    else .error 110
  else .error 110
theorem codeAdd_eq {aN aD bN bD g t : Nat} (below : Bool) (ha : Nat.Coprime aN aD) (hb : Nat.Coprime bN bD) (hg : g = Nat.gcd aD bD) (h1 : 0 < aD) (h2 : 0 < bD) (ht : SumOf t (aN * (bD / g)) (bN * (aD / g))) :
    codeAdd t below (Nat.gcd g (t % g)) (aD / g * (bD / Nat.gcd g (t % g))) = rR (mkRat (sgn (g * t) below) (aD * bD)) := by
  obtain ⟨_, e2, e3, e4, g0, hdb⟩ := sum_cut ha hb hg h1 h2 ht
  have hgt : Nat.gcd g (t % g) = Nat.gcd g t := by rw [Nat.gcd_comm g (t % g), ← Nat.gcd_rec]
  rw [← fracR_eq _ _ _ (Nat.mul_ne_zero (by omega) (by omega))]
  unfold fracR
  rw [hgt, e2, e3, e4]
  have h0 : 0 < Nat.gcd g t := Nat.gcd_pos_of_pos_left t g0
  generalize Nat.gcd g t = h at *
  unfold codeAdd
  have hbot : 0 < aD / g * (bD / h) := by
    have : 0 < g * h * (aD / g * (bD / h)) := by
      rw [← e4, Nat.mul_div_cancel']
      · exact Nat.mul_pos h1 h2
      · rw [← e2]; exact Nat.gcd_dvd_right _ _
    exact Nat.pos_of_mul_pos_left this
  generalize aD / g * (bD / h) = bot at *
  by_cases c0 : t = 0
  · subst c0
    rw [if_pos (by simpa using h0), if_pos (.inr rfl), if_pos rfl]
    have hb1 : bot = 1 := by
      rw [Nat.mul_zero, Nat.gcd_zero_left] at e2
      rw [← e4, e2, Nat.div_self (Nat.mul_pos g0 h0)]
    unfold toldR
    rw [hb1, Nat.zero_div, if_pos (by omega)]
    cases below <;> rfl
  · by_cases c1 : t / 18446744073709551616 < h
    · rw [if_pos c1]
      by_cases c2 : bot / 18446744073709551616 = 0
      · rw [if_pos (.inl c2), if_neg c0, Nat.mod_eq_of_lt (by omega)]
      · rw [if_neg (by rintro (h | h); exact c2 h; exact c0 h)]
        unfold toldR
        rw [if_neg (by omega)]
    · rw [if_neg c1]
      unfold toldR
      rw [if_neg]
      rintro ⟨_, hle⟩
      have : h * 18446744073709551616 ≤ t := by
        have := Nat.div_add_mod t 18446744073709551616
        have h3 : h ≤ t / 18446744073709551616 := by omega
        have := Nat.mul_le_mul_right 18446744073709551616 h3
        omega
      have h4 : 18446744073709551616 ≤ t / h := by rw [Nat.le_div_iff_mul_le h0, Nat.mul_comm]; exact this
      omega
/-- A product, cut ahead, as the code tells it. -/
def codeMul (n d : Nat) (below : Bool) : Ra :=
  if n / 18446744073709551616 = 0 ∧ d / 18446744073709551616 = 0 then toldR (n % 18446744073709551616) below (d % 18446744073709551616) else .error 110
theorem codeMul_eq {aN aD bN bD g h : Nat} (below : Bool) (ha : Nat.Coprime aN aD) (hb : Nat.Coprime bN bD) (hg : g = Nat.gcd aN bD) (hh : h = Nat.gcd bN aD) (h1 : 0 < aN) (h2 : 0 < bN) (h3 : 0 < aD) (h4 : 0 < bD) :
    codeMul (aN / g * (bN / h)) (aD / h * (bD / g)) below = rR (mkRat (sgn (aN * bN) below) (aD * bD)) := by
  obtain ⟨e1, e2, e3⟩ := mul_cut ha hb hg hh h1 h2
  rw [← fracR_eq _ _ _ (Nat.mul_ne_zero (by omega) (by omega))]
  unfold fracR
  rw [e1, e2, e3]
  generalize aN / g * (bN / h) = n at *
  generalize aD / h * (bD / g) = d at *
  unfold codeMul
  by_cases c : n / 18446744073709551616 = 0 ∧ d / 18446744073709551616 = 0
  · rw [if_pos c, Nat.mod_eq_of_lt (by omega), Nat.mod_eq_of_lt (by omega)]
  · rw [if_neg c]
    unfold toldR
    rw [if_neg (by omega)]
end Go.Proofs.Ytdakeenjeieekaa
