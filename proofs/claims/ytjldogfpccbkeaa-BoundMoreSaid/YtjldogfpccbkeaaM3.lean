/- Several texts in one: RaG RaH RaI RaJ RaL RaS. -/
import Derived.Test.YtjldogfpccbkeaaM2
import Derived.Laws.Shifts
import Derived.Deep.CutBlock
import Derived.Test.YtjldogfpccbkeaaM2
/- Chapter 01: a number of two words by a word. -/
set_option linter.unusedVariables false
set_option linter.unusedSimpArgs false
namespace Go.Proofs.Ytjldogfpccbkeaa
open Go.RowKit
attribute [local go_sem] Oper.semAt_some

/-- One digit to the base 2^32, guessed too high: q is no less than the digit, r what is left of it. -/
def Dg (U u Y a b q r : Nat) : Prop := U = q * a + r ∧ r < 4294967296 ∧ (U * 4294967296 + u) / Y ≤ q ∧ q < 18446744073709551616
theorem Dg.start {U u Y a b : Nat} (hY : Y = a * 4294967296 + b) (ha : 0 < a) (ha2 : a < 4294967296) (hu : u < 4294967296) (hU : U < 18446744073709551616) : Dg U u Y a b (U / a) (U % a) := by
  refine ⟨(Nat.div_add_mod' U a).symm, Nat.lt_trans (Nat.mod_lt _ ha) ha2, ?_, Nat.lt_of_le_of_lt (Nat.div_le_self _ _) hU⟩
  rw [Nat.le_div_iff_mul_le ha]
  have h1 : (U * 4294967296 + u) / Y * Y ≤ U * 4294967296 + u := Nat.div_mul_le_self _ _
  generalize (U * 4294967296 + u) / Y = q at *
  have h2 : q * Y = q * a * 4294967296 + q * b := by rw [hY, Nat.mul_add, Nat.mul_assoc]
  have h3 : 0 ≤ q * b := Nat.zero_le _
  generalize q * a = x at *
  generalize q * b = z at *
  omega
theorem mulY {q a b Y : Nat} (hY : Y = a * 4294967296 + b) : q * Y = q * a * 4294967296 + q * b := by rw [hY, Nat.mul_add, Nat.mul_assoc]
/-- The guess fits. -/
theorem Dg.done {U u Y a b q r : Nat} (h : Dg U u Y a b q r) (hY : Y = a * 4294967296 + b) (hY0 : 0 < Y) (hq : q * b ≤ 4294967296 * r + u) : q = (U * 4294967296 + u) / Y := by
  obtain ⟨h1, h2, h3, h4⟩ := h
  refine Nat.le_antisymm ?_ h3
  rw [Nat.le_div_iff_mul_le hY0, mulY hY]
  generalize q * a = x at *
  generalize q * b = z at *
  omega
/-- The guess is too high. -/
theorem Dg.less {U u Y a b q r : Nat} (h : Dg U u Y a b q r) (hY : Y = a * 4294967296 + b) (hb : b < 4294967296) (hu : u < 4294967296) (hUY : U < Y) (hq : 4294967296 ≤ q ∨ 4294967296 * r + u < q * b) :
    1 ≤ q ∧ U = (q - 1) * a + (r + a) ∧ (U * 4294967296 + u) / Y ≤ q - 1 := by
  obtain ⟨h1, h2, h3, h4⟩ := h
  have hd : (U * 4294967296 + u) / Y < 4294967296 := by rw [Nat.div_lt_iff_lt_mul (by omega)]; omega
  have hq2 : 4294967296 ≤ q ∨ (U * 4294967296 + u) / Y < q := by
    rcases hq with hq | hq
    · exact .inl hq
    · refine .inr ?_
      rw [Nat.div_lt_iff_lt_mul (by omega), mulY hY]
      generalize q * a = x at *
      generalize q * b = z at *
      omega
  generalize (U * 4294967296 + u) / Y = D at *
  refine ⟨by omega, ?_, by omega⟩
  obtain ⟨p, rfl⟩ : ∃ p, q = p + 1 := ⟨q - 1, by omega⟩
  rw [Nat.succ_mul] at h1
  simp only [Nat.add_sub_cancel]
  omega
/-- What is left is too great for a further step: the guess fits. -/
theorem Dg.out {U u Y a b q r : Nat} (h1 : U = q * a + r) (h3 : (U * 4294967296 + u) / Y ≤ q) (hY : Y = a * 4294967296 + b) (hb : b < 4294967296) (hUY : U < Y) (ha : 0 < a) (hr : 4294967296 ≤ r) : q = (U * 4294967296 + u) / Y := by
  have hq : q < 4294967296 := by
    apply Nat.lt_of_not_le
    intro hle
    have := Nat.mul_le_mul_right a hle
    rw [Nat.mul_comm 4294967296 a] at this
    generalize q * a = x at *
    omega
  refine Nat.le_antisymm ?_ h3
  rw [Nat.le_div_iff_mul_le (by omega), mulY hY]
  have hb' : q * b ≤ 4294967296 * 4294967296 := Nat.mul_le_mul (by omega) (by omega)
  have hr' : 4294967296 * 4294967296 ≤ 4294967296 * r := Nat.mul_le_mul_left _ hr
  generalize q * a = x at *
  generalize q * b = z at *
  omega
/-- The words of the shifted numbers. -/
theorem shifted {hi lo y s : Nat} (hh : hi < y) (hl : lo < 18446744073709551616) (hs : s ≤ 63) (hy1 : 9223372036854775808 ≤ y * 2 ^ s) (hy2 : y * 2 ^ s < 18446744073709551616) :
    ∃ U L : Nat, U < y * 2 ^ s ∧ L < 18446744073709551616 ∧ (hi * 18446744073709551616 + lo) * 2 ^ s = U * 18446744073709551616 + L ∧ U = hi * 2 ^ s + lo / 2 ^ (64 - s) ∧ L = lo * 2 ^ s % 18446744073709551616 ∧
      hi * 2 ^ s < 18446744073709551616 ∧ lo / 2 ^ (64 - s) < 2 ^ s := by
  have hp : (18446744073709551616 : Nat) = 2 ^ s * 2 ^ (64 - s) := by rw [← Nat.pow_add, show s + (64 - s) = 64 by omega]
  have h2 : lo / 2 ^ (64 - s) < 2 ^ s := by rw [Nat.div_lt_iff_lt_mul (Nat.pow_pos (by omega)), ← hp]; exact hl
  have h3 : lo * 2 ^ s / 18446744073709551616 = lo / 2 ^ (64 - s) := by
    rw [hp, Nat.mul_comm lo, Nat.mul_div_mul_left _ _ (Nat.pow_pos (by omega))]
  have h4 : (hi + 1) * 2 ^ s ≤ y * 2 ^ s := Nat.mul_le_mul_right _ hh
  rw [Nat.add_mul, Nat.one_mul] at h4
  refine ⟨hi * 2 ^ s + lo / 2 ^ (64 - s), lo * 2 ^ s % 18446744073709551616, by omega, Nat.mod_lt _ (by omega), ?_, rfl, rfl, by omega, h2⟩
  have h5 := Nat.div_add_mod (lo * 2 ^ s) 18446744073709551616
  rw [h3] at h5
  rw [Nat.add_mul, Nat.mul_right_comm]
  generalize hi * 2 ^ s = x at *
  generalize lo * 2 ^ s = z at *
  omega
theorem norm_y {y : Nat} (h0 : y ≠ 0) (h : y < 18446744073709551616) : 9223372036854775808 ≤ y * 2 ^ (63 - y.log2) ∧ y * 2 ^ (63 - y.log2) < 18446744073709551616 := by
  have h1 := Nat.log2_self_le h0
  have h2 := Nat.lt_log2_self (n := y)
  have hl : y.log2 < 64 := (Nat.log2_lt h0).2 (by simpa using h)
  have e1 : (9223372036854775808 : Nat) = 2 ^ y.log2 * 2 ^ (63 - y.log2) := by rw [← Nat.pow_add, show y.log2 + (63 - y.log2) = 63 by omega]
  have e2 : (18446744073709551616 : Nat) = 2 ^ (y.log2 + 1) * 2 ^ (63 - y.log2) := by rw [← Nat.pow_add, show y.log2 + 1 + (63 - y.log2) = 64 by omega]
  constructor
  · rw [e1]; exact Nat.mul_le_mul_right _ h1
  · rw [e2]; exact Nat.mul_lt_mul_of_pos_right h2 (Nat.pow_pos (by omega))
theorem two_digits0 {Y q1 q0 V W U u1 u0 N K : Nat} (hN : N = U * (K * K) + (u1 * K + u0)) (h1 : Y * q1 + V = U * K + u1) (h2 : Y * q0 + W = V * K + u0) : N = Y * (q1 * K + q0) + W := by
  rw [hN]
  calc U * (K * K) + (u1 * K + u0) = (U * K + u1) * K + u0 := by rw [Nat.add_mul, Nat.mul_assoc, Nat.add_assoc]
    _ = (Y * q1 + V) * K + u0 := by rw [h1]
    _ = Y * (q1 * K) + (V * K + u0) := by rw [Nat.add_mul, Nat.mul_assoc, Nat.add_assoc]
    _ = Y * (q1 * K + q0) + W := by rw [← h2, Nat.mul_add, Nat.add_assoc]
/-- The two digits are the quotient, what is left behind them, shifted back, the rest. -/
theorem two_digits1 {N y P Y Q W : Nat} (hP : 0 < P) (hY : Y = y * P) (h4 : N * P = Y * Q + W) (h3 : W < Y) : Q = N / y ∧ W / P = N % y := by
  have hY0 : 0 < Y := by omega
  have h5 : N * P / Y = Q := by
    rw [h4, Nat.mul_add_div hY0, Nat.div_eq_of_lt h3]; rfl
  have h6 : N * P % Y = W := by rw [h4, Nat.mul_add_mod, Nat.mod_eq_of_lt h3]
  rw [hY, Nat.mul_div_mul_right _ _ hP] at h5
  rw [hY, Nat.mul_mod_mul_right] at h6
  refine ⟨h5.symm, ?_⟩
  rw [← h6, Nat.mul_div_cancel _ hP]
theorem two_digits {N y P Y U u1 u0 q1 q0 V W : Nat} (hP : 0 < P) (hY : Y = y * P) (hN : N * P = U * 18446744073709551616 + (u1 * 4294967296 + u0))
    (h1 : Y * q1 + V = U * 4294967296 + u1) (h2 : Y * q0 + W = V * 4294967296 + u0) (h3 : W < Y) :
    q1 * 4294967296 + q0 = N / y ∧ W / P = N % y := two_digits1 hP hY (two_digits0 hN h1 h2) h3
end Go.Proofs.Ytjldogfpccbkeaa

/- Chapter 01: Div64, Rem64; a wide number by a word. -/
set_option linter.unusedVariables false
set_option linter.unusedSimpArgs false
namespace Go.Proofs.Ytjldogfpccbkeaa
open Go.RowKit
attribute [local go_sem] Oper.semAt_some

theorem or_sum {P hi G s : Nat} (hP : P = 2 ^ s) (hG : G < P) (hb : hi * P + G < 18446744073709551616) : bits .or .u64 ((hi * P : Nat) : Int) (G : Int) = ((hi * P + G : Nat) : Int) := by
  rw [bits_or_u64_nat _ _ (by omega) (by omega)]
  congr 1
  subst hP
  rw [Nat.mul_comm]
  exact (Nat.two_pow_add_eq_or_of_lt hG hi).symm
theorem quoN {U a Q : Nat} (h : Q = U / a) : (U : Int).tdiv (a : Int) = (Q : Int) := by
  rw [Int.tdiv_eq_ediv_of_nonneg (by omega), h]; simp
theorem remN {U a Q : Nat} (h : Q = U % a) : (U : Int).tmod (a : Int) = (Q : Int) := by
  rw [Int.tmod_eq_emod_of_nonneg (by omega), h]; simp
theorem div64_small (lo y : Nat) (hh : 0 < y) (hl : lo < 18446744073709551616) (hy : y < 18446744073709551616) (w : World) :
    Calls Try.prog 97 #[u64v 0, u64v lo, u64v y] w fun e w' => e = .returned (.tuple #[u64v (lo / y), u64v (lo % y)]) ∧ Fr0 w w' := by
  have hmx : Try.prog.follows .mixedOrders = true := by kernel_rfl
  have d1 : decide (y = 0) = false := decide_eq_false (by omega)
  have d1n : (((y : Nat) : Int) == 0) = false := by simp; omega
  have d1m : ¬ ((y : Int) = 0) := by omega
  have d2 : decide (y ≤ 0) = false := decide_eq_false (by omega)
  have d2n : decide ((y : Int) ≤ 0) = false := decide_eq_false (by omega)
  have q1 := quoN (U := lo) (a := y) rfl
  have q2 := remN (U := lo) (a := y) rfl
  have l1 := Nat.div_le_self lo y
  have l2 := Nat.mod_lt lo hh
  generalize lo / y = q at *
  generalize lo % y = r at *
  have q3 : IntKind.u64.wrap (q : Int) = (q : Int) := by rw [IntKind.wrap_u64]; omega
  have q4 : IntKind.u64.wrap (r : Int) = (r : Int) := by rw [IntKind.wrap_u64]; omega
  clear l1 l2 hh
  go_enter Try.func97, Try.ntmps97
  go_wp2_with fail
  refine wp_region_cg hmx (by kernel_rfl) ?_
  repeat (go_big_quiet_step (fail))
  refine wpQuiet_nil ?_
  intro w6 hf6
  go_wp2_with fail
  go_ret2
  exact ⟨rfl, hf6⟩
theorem hLu_eq {A U L u1 u0 : Nat} (h : A = U * 18446744073709551616 + L) (h2 : L = u1 * 4294967296 + u0) : A = U * 18446744073709551616 + (u1 * 4294967296 + u0) := by rw [h, h2]
theorem div64_great (N hi lo y : Nat) (hNe : N = hi * 18446744073709551616 + lo) (h0 : 0 < hi) (hh : hi < y) (hl : lo < 18446744073709551616) (hy : y < 18446744073709551616) (w : World) :
    Calls Try.prog 97 #[u64v hi, u64v lo, u64v y] w fun e w' => e = .returned (.tuple #[u64v (N / y), u64v (N % y)]) ∧ Fr0 w w' := by
  obtain ⟨n1, n2⟩ := norm_y (show y ≠ 0 by omega) hy
  have hs : 63 - y.log2 ≤ 63 := by omega
  have HL := Lib.hid (fun U => lead64_calls y (by omega) hy U)
  generalize 63 - y.log2 = s at *
  obtain ⟨U, L, hU, hL, hN, hUe, hLe, hH, hG⟩ := shifted hh hl hs n1 n2
  have hP0 : 0 < 2 ^ s := Nat.pow_pos (by omega)
  have f1 : ((2 : Int) ^ s) = ((2 ^ s : Nat) : Int) := by simp
  have f2 : ((2 : Int) ^ (64 - s)) = ((2 ^ (64 - s) : Nat) : Int) := by simp
  obtain ⟨G, hGe⟩ : ∃ G, G = lo / 2 ^ (64 - s) := ⟨_, rfl⟩
  rw [← hGe] at hUe hG
  rw [← hNe] at hN
  clear hNe
  have e5 : (lo : Int) / (2 : Int) ^ (64 - s) = (G : Int) := by rw [f2, hGe]; simp
  obtain ⟨P, hP⟩ : ∃ P, P = 2 ^ s := ⟨_, rfl⟩
  rw [← hP] at n1 n2 hU hN hUe hLe hH hG hP0 f1
  have e6 : bits .or .u64 ((hi * P : Nat) : Int) (G : Int) = (U : Int) := by rw [or_sum hP hG (by omega), ← hUe]
  have e4 : IntKind.u64.wrap ((hi : Int) * (2 : Int) ^ s) = ((hi * P : Nat) : Int) := by rw [f1, mulN, wrapN _ (by omega)]
  have e1 : IntKind.u64.wrap ((y : Int) * (2 : Int) ^ s) = ((y * P : Nat) : Int) := by rw [f1, mulN, wrapN _ (by omega)]
  have e7 : IntKind.u64.wrap ((lo : Int) * (2 : Int) ^ s) = (L : Int) := by rw [f1, mulN, wrapM, ← hLe]
  have e20 : ∀ W : Nat, (W : Int) / (2 : Int) ^ s = ((W / P : Nat) : Int) := fun W => by rw [f1]; simp
  generalize hHP : hi * P = H at *
  obtain ⟨Y, hY⟩ : ∃ Y, Y = y * P := ⟨_, rfl⟩
  rw [← hY] at n1 n2 hU e1
  have e3 := maskN Y (by omega)
  have e9 := maskN L hL
  have e2 := divN Y
  have e8 := divN L
  obtain ⟨a, ha⟩ : ∃ a, a = Y / 4294967296 := ⟨_, rfl⟩
  obtain ⟨b, hb⟩ : ∃ b, b = Y % 4294967296 := ⟨_, rfl⟩
  obtain ⟨u1, hu1⟩ : ∃ u, u = L / 4294967296 := ⟨_, rfl⟩
  obtain ⟨u0, hu0⟩ : ∃ u, u = L % 4294967296 := ⟨_, rfl⟩
  rw [← hb] at e3; rw [← ha] at e2; rw [← hu1] at e8; rw [← hu0] at e9
  have hYab : Y = a * 4294967296 + b := by omega
  have hLu : L = u1 * 4294967296 + u0 := by omega
  have b1 : b < 4294967296 := by omega
  have b2 : a < 4294967296 := by omega
  have b3 : 0 < a := by omega
  have b4 : u1 < 4294967296 := by omega
  have b5 : u0 < 4294967296 := by omega
  have d1 : decide (y = 0) = false := decide_eq_false (by omega)
  have d1n : (((y : Nat) : Int) == 0) = false := by simp; omega
  have d2 : decide (y ≤ hi) = false := decide_eq_false (by omega)
  have d2n : decide ((y : Int) ≤ (hi : Int)) = false := decide_eq_false (by omega)
  have d3 : decide (hi = 0) = false := decide_eq_false (by omega)
  have d3n : (((hi : Nat) : Int) == 0) = false := by simp; omega
  have d4 : ¬ ((a : Int) = 0) := by omega
  have d4n : ((a : Int) == 0) = false := by simp; omega
  have hsi : IntKind.u64.wrap (s : Int) = (s : Int) := by rw [IntKind.wrap_u64]; omega
  have hs64 : IntKind.u64.wrap (64 - (s : Int)) = ((64 - s : Nat) : Int) := by rw [IntKind.wrap_u64]; omega
  -- the first digit
  have D0 := Lib.hid (Dg.start (u := u1) hYab b3 b2 b4 (show U < 18446744073709551616 by omega))
  have g1 := quoN (U := U) (a := a) rfl
  obtain ⟨Q, hQ⟩ : ∃ Q, Q = U / a := ⟨_, rfl⟩
  have hQU : Q ≤ U := hQ ▸ Nat.div_le_self U a
  have hQa : Q * a ≤ U := hQ ▸ Nat.div_mul_le_self U a
  have hR : U - Q * a = U % a := by have := Nat.div_add_mod' U a; rw [← hQ] at this; omega
  rw [← hQ] at g1 D0
  have g2 := wrapN Q (by omega)
  have g3 : IntKind.u64.wrap ((Q : Int) * (a : Int)) = ((Q * a : Nat) : Int) := by rw [mulN, wrapN _ (by omega)]
  have g4 : IntKind.u64.wrap ((U : Int) - ((Q * a : Nat) : Int)) = ((U % a : Nat) : Int) := by rw [← hR, IntKind.wrap_u64]; omega
  generalize hRr : U % a = R at *
  generalize hQA : Q * a = QA at *
  have HN := Lib.hid hN
  have HY := Lib.hid hY
  have HUe := Lib.hid hUe
  have HHP := Lib.hid hHP
  have HQ := Lib.hid hQ
  have HYab := Lib.hid hYab
  have HLu := Lib.hid hLu
  clear hN hY hUe hHP hQ hYab hLu hLe hGe hP f1 f2 hR hRr ha hb hu1 hu0
  go_enter Try.func97, Try.ntmps97
  go_upto_block 0 with (first | (go_at_call 99; (with_reducible refine (HL.out _).mono ?_); rintro _ _ ⟨rfl, rfl⟩) | fail)
  go_cut [15, 16] from 67 to 85 (fun s15 s16 wx => ∃ q r : Nat, s15 = u64v q ∧ s16 = u64v r ∧ Hid (q = (U * 4294967296 + u1) / Y) ∧ wx = w)
  case first =>
    go_wp2_with fail
    go_loopw [15, 16] (fun s15 s16 wr => ∃ q r : Nat, s15 = u64v q ∧ s16 = u64v r ∧ Hid (Dg U u1 Y a b q r) ∧ wr = w) (fun s15 _ _ => (intOf s15).toNat)
    case atStart => exact ⟨_, _, rfl, rfl, D0, rfl⟩
    case round =>
      obtain ⟨q, r, rfl, rfl, HD, rfl⟩ := hrel
      have hD := HD.out
      obtain ⟨_, hr, _, hq⟩ := hD
      by_cases c1 : 4294967296 ≤ q
      · obtain ⟨k1, k2, k3⟩ := HD.out.less HYab.out b1 b4 hU (.inl c1)
        have c1d : decide (4294967296 ≤ q) = true := decide_eq_true c1
        have c1i : decide ((4294967296 : Int) ≤ (q : Int)) = true := decide_eq_true (by omega)
        have k4 : IntKind.u64.wrap ((q : Int) - 1) = ((q - 1 : Nat) : Int) := by rw [IntKind.wrap_u64]; omega
        have k5 : IntKind.u64.wrap ((r : Int) + (a : Int)) = ((r + a : Nat) : Int) := by rw [IntKind.wrap_u64]; omega
        have K := Lib.hid (And.intro k1 (And.intro k2 k3))
        clear k1 k2 k3
        generalize hr2 : r + a = r2 at *
        by_cases c2 : 4294967296 ≤ r2
        · have c2d : decide (4294967296 ≤ r2) = true := decide_eq_true c2
          have c2i : decide ((4294967296 : Int) ≤ (r2 : Int)) = true := decide_eq_true (by omega)
          have hout := Lib.hid (Dg.out K.out.2.1 K.out.2.2 HYab.out b1 hU b3 c2)
          generalize q - 1 = q2 at *
          clear c1 c2
          go_wp2_with fail
          go_meet
          exact ⟨_, _, rfl, rfl, hout, rfl⟩
        · have c2d : decide (4294967296 ≤ r2) = false := decide_eq_false c2
          have c2i : decide ((4294967296 : Int) ≤ (r2 : Int)) = false := decide_eq_false (by omega)
          have hgo := Lib.hid (show Dg U u1 Y a b (q - 1) r2 from ⟨K.out.2.1, by omega, K.out.2.2, by omega⟩)
          have hlt := Lib.hid (show q - 1 < q by omega)
          generalize q - 1 = q2 at *
          clear c1 c2
          go_wp2_with fail
          go_roundw
          case rel => exact ⟨_, _, rfl, rfl, hgo, trivial⟩
          case measure => have := hlt.out; simp [intOf]; omega
      · have c1d : decide (4294967296 ≤ q) = false := decide_eq_false c1
        have c1i : decide ((4294967296 : Int) ≤ (q : Int)) = false := decide_eq_false (by omega)
        have m0 : q * b ≤ 4294967295 * 4294967295 := Nat.mul_le_mul (by omega) (by omega)
        have m1 : IntKind.u64.wrap ((q : Int) * (b : Int)) = ((q * b : Nat) : Int) := by rw [mulN, wrapN _ (by omega)]
        have m2 : IntKind.u64.wrap ((4294967296 : Int) * (r : Int)) = ((4294967296 * r : Nat) : Int) := by rw [IntKind.wrap_u64]; omega
        have m3 : IntKind.u64.wrap (((4294967296 * r : Nat) : Int) + (u1 : Int)) = ((4294967296 * r + u1 : Nat) : Int) := by rw [IntKind.wrap_u64]; omega
        by_cases c3 : 4294967296 * r + u1 < q * b
        · obtain ⟨k1, k2, k3⟩ := HD.out.less HYab.out b1 b4 hU (.inr c3)
          have k4 : IntKind.u64.wrap ((q : Int) - 1) = ((q - 1 : Nat) : Int) := by rw [IntKind.wrap_u64]; omega
          have k5 : IntKind.u64.wrap ((r : Int) + (a : Int)) = ((r + a : Nat) : Int) := by rw [IntKind.wrap_u64]; omega
          have c3d : decide (4294967296 * r + u1 < q * b) = true := decide_eq_true c3
          have K := Lib.hid (And.intro k1 (And.intro k2 k3))
          clear k1 k2 k3 m0 c3
          generalize 4294967296 * r + u1 = Z at *
          generalize 4294967296 * r = Z0 at *
          generalize q * b = X at *
          generalize hr2 : r + a = r2 at *
          by_cases c2 : 4294967296 ≤ r2
          · have c2d : decide (4294967296 ≤ r2) = true := decide_eq_true c2
            have c2i : decide ((4294967296 : Int) ≤ (r2 : Int)) = true := decide_eq_true (by omega)
            have hout := Lib.hid (Dg.out K.out.2.1 K.out.2.2 HYab.out b1 hU b3 c2)
            generalize q - 1 = q2 at *
            clear c1 c2
            go_wp2_with fail
            go_meet
            exact ⟨_, _, rfl, rfl, hout, rfl⟩
          · have c2d : decide (4294967296 ≤ r2) = false := decide_eq_false c2
            have c2i : decide ((4294967296 : Int) ≤ (r2 : Int)) = false := decide_eq_false (by omega)
            have hgo := Lib.hid (show Dg U u1 Y a b (q - 1) r2 from ⟨K.out.2.1, by omega, K.out.2.2, by omega⟩)
            have hlt := Lib.hid (show q - 1 < q by have := K.out.1; omega)
            generalize q - 1 = q2 at *
            clear c1 c2
            go_wp2_with fail
            go_roundw
            case rel => exact ⟨_, _, rfl, rfl, hgo, trivial⟩
            case measure => have := hlt.out; simp [intOf]; omega
        · have c3d : decide (4294967296 * r + u1 < q * b) = false := decide_eq_false c3
          have hout := Lib.hid (Dg.done HD.out HYab.out (by omega) (Nat.le_of_not_lt c3))
          clear m0 c3
          generalize 4294967296 * r + u1 = Z at *
          generalize 4294967296 * r = Z0 at *
          generalize q * b = X at *
          clear c1
          go_wp2_with fail
          go_meet
          exact ⟨_, _, rfl, rfl, hout, rfl⟩
  case rest =>
    obtain ⟨q1, r1, rfl, rfl, Hq1, rfl⟩ := hcut
    have h1 := Hq1.out
    have hV := Nat.mod_lt (U * 4294967296 + u1) (show 0 < Y by omega)
    have h2 := Nat.div_add_mod (U * 4294967296 + u1) Y
    have hq1 : q1 < 4294967296 := by rw [h1, Nat.div_lt_iff_lt_mul (by omega)]; omega
    rw [← h1] at h2
    clear h1
    generalize (U * 4294967296 + u1) % Y = V at *
    have x1 : IntKind.u64.wrap ((U : Int) * 4294967296) = ((U * 4294967296 % 18446744073709551616 : Nat) : Int) := by rw [IntKind.wrap_u64]; omega
    have x2 : IntKind.u64.wrap (((U * 4294967296 % 18446744073709551616 : Nat) : Int) + (u1 : Int)) = ((U * 4294967296 % 18446744073709551616 + u1 : Nat) : Int) := by rw [IntKind.wrap_u64]; omega
    have x3 : IntKind.u64.wrap ((q1 : Int) * (Y : Int)) = ((Y * q1 % 18446744073709551616 : Nat) : Int) := by rw [mulN, wrapM, Nat.mul_comm]
    have x4 : IntKind.u64.wrap (((U * 4294967296 % 18446744073709551616 + u1 : Nat) : Int) - ((Y * q1 % 18446744073709551616 : Nat) : Int)) = (V : Int) := by rw [IntKind.wrap_u64]; omega
    have H2 := Lib.hid h2
    have E0 := Lib.hid (Dg.start (u := u0) HYab.out b3 b2 b5 (show V < 18446744073709551616 by omega))
    have g5 := quoN (U := V) (a := a) rfl
    obtain ⟨Q2, hQ2⟩ : ∃ Q, Q = V / a := ⟨_, rfl⟩
    have hQV : Q2 ≤ V := hQ2 ▸ Nat.div_le_self V a
    have hQa2 : Q2 * a ≤ V := hQ2 ▸ Nat.div_mul_le_self V a
    have hR2 : V - Q2 * a = V % a := by have := Nat.div_add_mod' V a; rw [← hQ2] at this; omega
    rw [← hQ2] at g5 E0
    have g6 := wrapN Q2 (by omega)
    have g7 : IntKind.u64.wrap ((Q2 : Int) * (a : Int)) = ((Q2 * a : Nat) : Int) := by rw [mulN, wrapN _ (by omega)]
    have g8 : IntKind.u64.wrap ((V : Int) - ((Q2 * a : Nat) : Int)) = ((V % a : Nat) : Int) := by rw [← hR2, IntKind.wrap_u64]; omega
    generalize V % a = R2 at *
    generalize Q2 * a = QA2 at *
    generalize Y * q1 % 18446744073709551616 = z2 at *
    generalize U * 4294967296 % 18446744073709551616 + u1 = z1 at *
    generalize U * 4294967296 % 18446744073709551616 = z0 at *
    clear h2 hQ2 hR2
    obtain ⟨w9, hw9⟩ : ∃ w9, w9 = wc := ⟨_, rfl⟩
    subst hw9
    go_upto_block 2 with fail
    go_cut [18, 16] from 102 to 120 (fun s18 s16 wx => ∃ q r : Nat, s18 = u64v q ∧ s16 = u64v r ∧ Hid (q = (V * 4294967296 + u0) / Y) ∧ wx = w9)
    case first =>
      go_wp2_with fail
      go_loopw [18, 16] (fun s18 s16 wr => ∃ q r : Nat, s18 = u64v q ∧ s16 = u64v r ∧ Hid (Dg V u0 Y a b q r) ∧ wr = w9) (fun s18 _ _ => (intOf s18).toNat)
      case atStart => exact ⟨_, _, rfl, rfl, E0, rfl⟩
      case round =>
        obtain ⟨q, r, rfl, rfl, HD, rfl⟩ := hrel
        have hD := HD.out
        obtain ⟨_, hr, _, hq⟩ := hD
        by_cases c1 : 4294967296 ≤ q
        · obtain ⟨k1, k2, k3⟩ := HD.out.less HYab.out b1 b5 hV (.inl c1)
          have c1d : decide (4294967296 ≤ q) = true := decide_eq_true c1
          have c1i : decide ((4294967296 : Int) ≤ (q : Int)) = true := decide_eq_true (by omega)
          have k4 : IntKind.u64.wrap ((q : Int) - 1) = ((q - 1 : Nat) : Int) := by rw [IntKind.wrap_u64]; omega
          have k5 : IntKind.u64.wrap ((r : Int) + (a : Int)) = ((r + a : Nat) : Int) := by rw [IntKind.wrap_u64]; omega
          have K := Lib.hid (And.intro k1 (And.intro k2 k3))
          clear k1 k2 k3
          generalize hr2 : r + a = r2 at *
          by_cases c2 : 4294967296 ≤ r2
          · have c2d : decide (4294967296 ≤ r2) = true := decide_eq_true c2
            have c2i : decide ((4294967296 : Int) ≤ (r2 : Int)) = true := decide_eq_true (by omega)
            have hout := Lib.hid (Dg.out K.out.2.1 K.out.2.2 HYab.out b1 hV b3 c2)
            generalize q - 1 = q2 at *
            clear c1 c2
            go_wp2_with fail
            go_meet
            exact ⟨_, _, rfl, rfl, hout, rfl⟩
          · have c2d : decide (4294967296 ≤ r2) = false := decide_eq_false c2
            have c2i : decide ((4294967296 : Int) ≤ (r2 : Int)) = false := decide_eq_false (by omega)
            have hgo := Lib.hid (show Dg V u0 Y a b (q - 1) r2 from ⟨K.out.2.1, by omega, K.out.2.2, by omega⟩)
            have hlt := Lib.hid (show q - 1 < q by omega)
            generalize q - 1 = q2 at *
            clear c1 c2
            go_wp2_with fail
            go_roundw
            case rel => exact ⟨_, _, rfl, rfl, hgo, trivial⟩
            case measure => have := hlt.out; simp [intOf]; omega
        · have c1d : decide (4294967296 ≤ q) = false := decide_eq_false c1
          have c1i : decide ((4294967296 : Int) ≤ (q : Int)) = false := decide_eq_false (by omega)
          have m0 : q * b ≤ 4294967295 * 4294967295 := Nat.mul_le_mul (by omega) (by omega)
          have m1 : IntKind.u64.wrap ((q : Int) * (b : Int)) = ((q * b : Nat) : Int) := by rw [mulN, wrapN _ (by omega)]
          have m2 : IntKind.u64.wrap ((4294967296 : Int) * (r : Int)) = ((4294967296 * r : Nat) : Int) := by rw [IntKind.wrap_u64]; omega
          have m3 : IntKind.u64.wrap (((4294967296 * r : Nat) : Int) + (u0 : Int)) = ((4294967296 * r + u0 : Nat) : Int) := by rw [IntKind.wrap_u64]; omega
          by_cases c3 : 4294967296 * r + u0 < q * b
          · obtain ⟨k1, k2, k3⟩ := HD.out.less HYab.out b1 b5 hV (.inr c3)
            have k4 : IntKind.u64.wrap ((q : Int) - 1) = ((q - 1 : Nat) : Int) := by rw [IntKind.wrap_u64]; omega
            have k5 : IntKind.u64.wrap ((r : Int) + (a : Int)) = ((r + a : Nat) : Int) := by rw [IntKind.wrap_u64]; omega
            have c3d : decide (4294967296 * r + u0 < q * b) = true := decide_eq_true c3
            have K := Lib.hid (And.intro k1 (And.intro k2 k3))
            clear k1 k2 k3 m0 c3
            generalize 4294967296 * r + u0 = Z at *
            generalize 4294967296 * r = Z0 at *
            generalize q * b = X at *
            generalize hr2 : r + a = r2 at *
            by_cases c2 : 4294967296 ≤ r2
            · have c2d : decide (4294967296 ≤ r2) = true := decide_eq_true c2
              have c2i : decide ((4294967296 : Int) ≤ (r2 : Int)) = true := decide_eq_true (by omega)
              have hout := Lib.hid (Dg.out K.out.2.1 K.out.2.2 HYab.out b1 hV b3 c2)
              generalize q - 1 = q2 at *
              clear c1 c2
              go_wp2_with fail
              go_meet
              exact ⟨_, _, rfl, rfl, hout, rfl⟩
            · have c2d : decide (4294967296 ≤ r2) = false := decide_eq_false c2
              have c2i : decide ((4294967296 : Int) ≤ (r2 : Int)) = false := decide_eq_false (by omega)
              have hgo := Lib.hid (show Dg V u0 Y a b (q - 1) r2 from ⟨K.out.2.1, by omega, K.out.2.2, by omega⟩)
              have hlt := Lib.hid (show q - 1 < q by have := K.out.1; omega)
              generalize q - 1 = q2 at *
              clear c1 c2
              go_wp2_with fail
              go_roundw
              case rel => exact ⟨_, _, rfl, rfl, hgo, trivial⟩
              case measure => have := hlt.out; simp [intOf]; omega
          · have c3d : decide (4294967296 * r + u0 < q * b) = false := decide_eq_false c3
            have hout := Lib.hid (Dg.done HD.out HYab.out (by omega) (Nat.le_of_not_lt c3))
            clear m0 c3
            generalize 4294967296 * r + u0 = Z at *
            generalize 4294967296 * r = Z0 at *
            generalize q * b = X at *
            clear c1
            go_wp2_with fail
            go_meet
            exact ⟨_, _, rfl, rfl, hout, rfl⟩
    case rest =>
      obtain ⟨q0, r0, rfl, rfl, Hq0, rfl⟩ := hcut
      have h3 := Hq0.out
      have hW := Nat.mod_lt (V * 4294967296 + u0) (show 0 < Y by omega)
      have h4 := Nat.div_add_mod (V * 4294967296 + u0) Y
      have hq0 : q0 < 4294967296 := by rw [h3, Nat.div_lt_iff_lt_mul (by omega)]; omega
      rw [← h3] at h4
      clear h3
      generalize (V * 4294967296 + u0) % Y = W at *
      have y3 : IntKind.u64.wrap ((V : Int) * 4294967296) = ((V * 4294967296 % 18446744073709551616 : Nat) : Int) := by rw [IntKind.wrap_u64]; omega
      have y4 : IntKind.u64.wrap (((V * 4294967296 % 18446744073709551616 : Nat) : Int) + (u0 : Int)) = ((V * 4294967296 % 18446744073709551616 + u0 : Nat) : Int) := by rw [IntKind.wrap_u64]; omega
      have y5 : IntKind.u64.wrap ((q0 : Int) * (Y : Int)) = ((Y * q0 % 18446744073709551616 : Nat) : Int) := by rw [mulN, wrapM, Nat.mul_comm]
      have y6 : IntKind.u64.wrap (((V * 4294967296 % 18446744073709551616 + u0 : Nat) : Int) - ((Y * q0 % 18446744073709551616 : Nat) : Int)) = (W : Int) := by rw [IntKind.wrap_u64]; omega
      obtain ⟨z6, hz6⟩ : ∃ z, z = q1 * 4294967296 := ⟨_, rfl⟩
      have y1 : IntKind.u64.wrap ((q1 : Int) * 4294967296) = (z6 : Int) := by rw [IntKind.wrap_u64]; omega
      obtain ⟨r1, r2⟩ := two_digits hP0 HY.out (hLu_eq HN.out HLu.out) H2.out h4 hW
      have y7 := e20 W
      rw [r2] at y7
      have y2 : IntKind.u64.wrap ((z6 : Int) + (q0 : Int)) = ((N / y : Nat) : Int) := by rw [← r1, IntKind.wrap_u64]; omega
      clear r1 r2 h4 e20 hz6
      generalize Y * q0 % 18446744073709551616 = z5 at *
      generalize V * 4294967296 % 18446744073709551616 + u0 = z4 at *
      generalize V * 4294967296 % 18446744073709551616 = z3 at *
      obtain ⟨res, hres⟩ : ∃ res, res = N / y := ⟨_, rfl⟩
      obtain ⟨rest, hrest⟩ : ∃ rest, rest = N % y := ⟨_, rfl⟩
      rw [← hres] at y2
      rw [← hrest] at y7
      have HRES := Lib.hid hres
      have HREST := Lib.hid hrest
      clear hres hrest
      go_wp2_with fail
      go_ret2
      refine ⟨?_, Fr.refl _ _⟩
      rw [← HRES.out, ← HREST.out]
      rfl
theorem div64_calls (N hi lo y : Nat) (hNe : N = hi * 18446744073709551616 + lo) (hh : hi < y) (hl : lo < 18446744073709551616) (hy : y < 18446744073709551616) (w : World) :
    Calls Try.prog 97 #[u64v hi, u64v lo, u64v y] w fun e w' => e = .returned (.tuple #[u64v (N / y), u64v (N % y)]) ∧ Fr0 w w' := by
  by_cases h0 : hi = 0
  · subst h0
    rw [show N = lo by omega]
    exact div64_small lo y hh hl hy w
  · exact div64_great N hi lo y hNe (by omega) hh hl hy w
theorem rem64_calls (N hi lo y : Nat) (hNe : N = hi * 18446744073709551616 + lo) (h0 : 0 < y) (hl : lo < 18446744073709551616) (hh : hi < 18446744073709551616) (hy : y < 18446744073709551616) (w : World) :
    Calls Try.prog 96 #[u64v hi, u64v lo, u64v y] w fun e w' => e = .returned (u64v (N % y)) ∧ Fr0 w w' := by
  have HD := Lib.hid (fun U => div64_calls (hi % y * 18446744073709551616 + lo) (hi % y) lo y rfl (Nat.mod_lt _ h0) hl hy U)
  have hm : (hi % y * 18446744073709551616 + lo) % y = N % y := by
    rw [hNe, Nat.add_mod, Nat.mul_mod, Nat.mod_mod, ← Nat.mul_mod, ← Nat.add_mod]
  rw [hm] at HD
  have g1 := remN (U := hi) (a := y) rfl
  have hlt := Nat.mod_lt hi h0
  generalize (hi % y * 18446744073709551616 + lo) / y = q at *
  generalize hi % y = r at *
  generalize N % y = rest at *
  have g2 := wrapN r (by omega)
  have d1n : (((y : Nat) : Int) == 0) = false := by simp; omega
  have d1m : ¬ ((y : Int) = 0) := by omega
  clear hm hNe h0 hlt
  go_enter Try.func96, Try.ntmps96
  go_wp2_with (first | (go_at_call 97; (with_reducible refine (HD.out _).mono ?_); rintro _ w2 ⟨rfl, hf2⟩) | fail)
  go_ret
  exact ⟨rfl, hf2⟩
theorem wleft_calls (a d : Nat) (h0 : 0 < d) (ha : a < 340282366920938463463374607431768211456) (hd : d < 18446744073709551616) (w : World) : Calls Try.prog 89 #[wdv a, u64v d] w fun e w' => e = .returned (u64v (a % d)) ∧ Fr0 w w' := by
  unfold wdv
  have HF := fun o1 => Lib.hid ((Fr.refl (fun _ => False) w).alloc o1)
  have HD := Lib.hid (fun U => rem64_calls a (a / 18446744073709551616) (a % 18446744073709551616) d (Nat.div_add_mod' a _).symm h0 (Nat.mod_lt _ (by omega)) (by omega) hd U)
  generalize a % 18446744073709551616 = al at *
  generalize a / 18446744073709551616 = ah at *
  generalize a % d = r at *
  go_enter Try.func89, Try.ntmps89
  go_wp2_with (first | (go_at_call 96; (with_reducible refine (HD.out _).mono ?_); rintro _ w2 ⟨rfl, hf2⟩) | fail)
  go_ret
  exact ⟨rfl, (HF _).out.trans hf2⟩
theorem wby_yes (a d : Nat) (h0 : a / 18446744073709551616 < d) (hd : d < 18446744073709551616) (w : World) : Calls Try.prog 90 #[wdv a, u64v d] w fun e w' => e = .returned (.tuple #[u64v (a / d), u64v (a % d)]) ∧ Fr0 w w' := by
  unfold wdv
  have HF := fun o1 => Lib.hid ((Fr.refl (fun _ => False) w).alloc o1)
  have HD := Lib.hid (fun U => div64_calls a (a / 18446744073709551616) (a % 18446744073709551616) d (Nat.div_add_mod' a _).symm h0 (Nat.mod_lt _ (by omega)) hd U)
  have HM := Lib.hid (fun U => rmust_yes 110 U)
  have c1 : decide (((a / 18446744073709551616 : Nat) : Int) < (d : Int)) = true := decide_eq_true (by omega)
  have c1n : decide (a / 18446744073709551616 < d) = true := decide_eq_true h0
  clear h0
  generalize a % 18446744073709551616 = al at *
  generalize a / 18446744073709551616 = ah at *
  generalize a % d = r at *
  generalize a / d = q at *
  go_enter Try.func90, Try.ntmps90
  go_wp2_with (first | (go_at_call 71; (with_reducible refine (HM.out _).mono ?_); rintro _ _ ⟨rfl, rfl⟩) | (go_at_call 97; (with_reducible refine (HD.out _).mono ?_); rintro _ w2 ⟨rfl, hf2⟩) | fail)
  go_ret2
  exact ⟨rfl, (HF _).out.trans hf2⟩
theorem wby_no (a d : Nat) (h0 : ¬ a / 18446744073709551616 < d) (w : World) : Calls Try.prog 90 #[wdv a, u64v d] w fun e w' => e = .panicked [stopE 110] ∧ Fr0 w w' := by
  unfold wdv
  have HF := fun o1 => Lib.hid ((Fr.refl (fun _ => False) w).alloc o1)
  have HM := Lib.hid (fun U => rmust_no 110 U)
  have c1 : decide (((a / 18446744073709551616 : Nat) : Int) < (d : Int)) = false := decide_eq_false (by omega)
  have c1n : decide (a / 18446744073709551616 < d) = false := decide_eq_false h0
  clear h0
  generalize a % 18446744073709551616 = al at *
  generalize a / 18446744073709551616 = ah at *
  go_enter Try.func90, Try.ntmps90
  go_wp2_with (first | (go_at_call 71; (with_reducible refine (HM.out _).mono ?_); rintro _ _ ⟨rfl, rfl⟩) | fail)
  exact ⟨rfl, rfl, (HF _).out⟩
end Go.Proofs.Ytjldogfpccbkeaa

/- Chapter 01: what gives up is an error: the deferred closure of try, and try. -/
set_option linter.unusedVariables false
set_option linter.unusedSimpArgs false
namespace Go.Proofs.Ytjldogfpccbkeaa
open Go.RowKit
attribute [local go_sem] Oper.semAt_some

theorem rtryc_idle (p q : Nat) (w : World) :
    CallsD Try.prog 92 #[.pointer (some ⟨p, 0, none⟩), .pointer (some ⟨q, 0, none⟩)] .returning w fun e u' w' => e = .returned (.tuple #[]) ∧ u' = .returning ∧ w = w' := by
  refine callsD_of_wpS Try.func92 rfl fun c₀ cs hu => ?_
  apply wpS_seq
  apply wpS_region
  simp [wpOpsS, go_sem, recoverD, hu, Try.ntmps92, Exit.thenS]
  refine wpS_of_wp ?_
  change Code.wp _ _ _ { tmps := #[.pointer (some ⟨p, 0, none⟩), .pointer (some ⟨q, 0, none⟩), undef, undef, undef, undef, .nilIface, undef, undef, undef, undef, undef, undef, undef, undef], defers := [] } _
  go_wp2_with fail
  cases c₀
  simp_all [bodyPostS, results, Try.results92]
set_option maxHeartbeats 2000000 in
theorem rtryc_stop (p q : Nat) (k : Int) (older : List PanicEntry) (w : World) (u v x : Value) (hpq : p ≠ q) (hp : w.heap[p]? = some (.cells #[u, v] 27 (0, 0))) (hq : w.heap[q]? = some (.cells #[x] 28 (0, 0))) :
    CallsD Try.prog 92 #[.pointer (some ⟨p, 0, none⟩), .pointer (some ⟨q, 0, none⟩)] (.panicking (stopE k :: older)) w fun e u' w' =>
      e = .returned (.tuple #[]) ∧ u' = .panicking ({ stopE k with recovered := true } :: older) ∧ w'.heap[p]? = some (.cells (rtc 0 0) 27 (0, 0)) ∧ w'.heap[q]? = some (.cells #[.int .i64 k] 28 (0, 0)) ∧ Fr (fun b => b = p ∨ b = q) w w' := by
  have hta : ∀ (v : Value) (w : World), (Instr.typeAssert (.iface 125 v) 20 125 true).run Try.prog w = .ok (.tuple #[v, .bool true]) w := fun _ _ => by kernel_rfl
  refine callsD_of_wpS Try.func92 rfl fun c₀ cs hu => ?_
  apply wpS_seq
  apply wpS_region
  simp [wpOpsS, go_sem, recoverD, hu, Try.ntmps92, Exit.thenS]
  refine wpS_of_wp ?_
  change Code.wp _ _ _ { tmps := #[.pointer (some ⟨p, 0, none⟩), .pointer (some ⟨q, 0, none⟩), undef, undef, undef, undef, (.iface 125 (.agg #[.int .i64 k])), undef, undef, undef, undef, undef, undef, undef, undef], defers := [] } _
  go_wp2_with fail
  have hlp : p < w.heap.size := lt_of_block hp
  have hlq : q < w.heap.size := lt_of_block hq
  have HF := Lib.hid (((Fr.refl (fun _ => False) w).alloc (.cells #[.int .i64 k] 125)).alloc (.cells (rtc 0 0) 27))
  have HA := Lib.hid (blk_alloc (heap_alloc_new w (.cells #[.int .i64 k] 125)) (.cells (rtc 0 0) 27))
  have HB := Lib.hid (heap_an (w := w.alloc (.cells #[.int .i64 k] 125)) (k := w.heap.size + 1) (.cells (rtc 0 0) 27) (by simp))
  have n1 : w.heap.size ≠ p := by omega
  have n2 : w.heap.size ≠ q := by omega
  have n3 : w.heap.size + 1 ≠ p := by omega
  have n4 : w.heap.size + 1 ≠ q := by omega
  have HLP := Lib.hid hlp
  have HLQ := Lib.hid hlq
  clear hlp hlq
  generalize w.heap.size = z at *
  generalize (w.alloc (.cells #[.int .i64 k] 125)).alloc (.cells (rtc 0 0) 27) = W at *
  have hp' := HF.out.blk hp (fun h => h)
  have hq' := HF.out.blk hq (fun h => h)
  obtain ⟨c0, c1, f0, f1⟩ := two_facts HB.out
  obtain ⟨p0, p1, p2, p3⟩ := two_facts hp'
  have a0 : W.cell? ⟨z, 0, none⟩ = some (.int .i64 k) := cell_of_blk HA.out 0
  have q0 : W.cell? ⟨q, 0, none⟩ = some x := cell_of_blk hq' 0
  have q1 : W.frozen? ⟨q, 0, none⟩ = false := free_of_blk hq' 0
  have hqp : q ≠ p := fun h => hpq h.symm
  have HP := Lib.hid hp'
  have HQ := Lib.hid hq'
  clear hp hq hp' hq'
  go_region
  have g1 : ((((W.setCell ⟨p, 0, none⟩ (.int .i64 0)).setCell ⟨p, 1, none⟩ (.int .i64 0)).setCell ⟨q, 0, none⟩ (.int .i64 k)).drew).heap[p]? = some (.cells (rtc 0 0) 27 (0, 0)) :=
    blk_setCell_other (two_set HP.out _ _) (p := ⟨q, 0, none⟩) hqp _
  have g2 : ((((W.setCell ⟨p, 0, none⟩ (.int .i64 0)).setCell ⟨p, 1, none⟩ (.int .i64 0)).setCell ⟨q, 0, none⟩ (.int .i64 k)).drew).heap[q]? = some (.cells #[.int .i64 k] 28 (0, 0)) :=
    blk_setCell (blk_setCell_other (blk_setCell_other HQ.out (p := ⟨p, 0, none⟩) hpq _) (p := ⟨p, 1, none⟩) hpq _) 0 _
  have g3 : Fr (fun b => b = p ∨ b = q) w ((((W.setCell ⟨p, 0, none⟩ (.int .i64 0)).setCell ⟨p, 1, none⟩ (.int .i64 0)).setCell ⟨q, 0, none⟩ (.int .i64 k)).drew) :=
    ((((Fr0.any HF.out).setCell (p := ⟨p, 0, none⟩) (fun _ => .inl rfl) _).setCell (p := ⟨p, 1, none⟩) (fun _ => .inl rfl) _).setCell (p := ⟨q, 0, none⟩) (fun _ => .inr rfl) _).drew
  generalize ((((W.setCell ⟨p, 0, none⟩ (.int .i64 0)).setCell ⟨p, 1, none⟩ (.int .i64 0)).setCell ⟨q, 0, none⟩ (.int .i64 k)).drew) = W2 at *
  clear c0 c1 f0 f1 p0 p1 p2 p3 a0 q0 q1 HF HA HB HP HQ hta n1 n2 n3 n4
  show bodyPostS Try.prog Try.f92 c₀ cs (fun e u' w' => e = .returned (.tuple #[]) ∧ u' = .panicking ({ stopE k with recovered := true } :: older) ∧ w'.heap[p]? = some (.cells (rtc 0 0) 27 (0, 0)) ∧ w'.heap[q]? = some (.cells #[.int .i64 k] 28 (0, 0)) ∧ Fr (fun b => b = p ∨ b = q) w w') Exit.normal _ ({ c₀ with mode := .panicking ({ stopE k with recovered := true } :: older) } :: cs) W2
  cases c₀
  simp_all [bodyPostS, results, Try.results92, Exit.inBlock]
end Go.Proofs.Ytjldogfpccbkeaa

/- Chapter 01: try. -/
set_option linter.unusedVariables false
set_option linter.unusedSimpArgs false
namespace Go.Proofs.Ytjldogfpccbkeaa
open Go.RowKit
attribute [local go_sem] Oper.semAt_some

/-- A function's value over what it captured. -/
abbrev clv (K : FuncId) (cap : Array Value) : Value := .func (.func K) #[] cap
theorem loadVar_cell {a : Addr} {k : Int} {w : World} (hc : w.cell? a = some (.int .i64 k)) : (loadVar 28 a).run Try.prog w = .ok (.int .i64 k) w := by
  simp [loadVar, run_underlying Try.underlying28, go_sem, hc]
theorem results_row_errno {P : Program} {fn : Func} {p q : Tmp} {ty tq : TypeId} (h : fn.results = #[.cell p ty, .cell q tq]) (tmps : Array Value) (w : World) (g g2 : Nat) (t : TypeId) (cs : Array Value) (fr : Nat × Nat) (d : TypeDesc) (v : Value)
    (hp : tmps.getD p undef = .pointer (some ⟨g, 0, none⟩)) (hq : tmps.getD q undef = .pointer (some ⟨g2, 0, none⟩)) (hg : w.heap[g]? = some (.cells cs t fr)) (h2 : (loadVar tq ⟨g2, 0, none⟩).run P w = .ok v w)
    (hu : P.underlying ty = some d) (hd : (match d with | .struct _ | .array _ _ => true | _ => false) = true) (hi : (P.info? ty).map (·.size) = some cs.size) :
    (results fn tmps).run P w = .ok (.tuple #[.agg cs, v]) w := by
  have h1 := run_loadVar_row (P := P) w g t ty cs fr d hg hu hd hi
  simp only [Array.getD_eq_getD_getElem?] at hp hq
  simp only [results, h]
  simp [Sem.run_bind, Result.andThen, hp, hq, asAddr, h1, h2]
set_option maxHeartbeats 2000000 in
/-- What the work hands back, and no error. -/
theorem rtry_yes (K : FuncId) (cap : Array Value) (n d : Int) (w : World) (HE : ∀ (args : Array Value) (U : World), (callFunc K args).run Try.prog U = .ok (.enter K args) U) (HW : ∀ U, Fr0 w U → Calls Try.prog K cap U fun e w' => e = .returned (rtv n d) ∧ Fr0 U w') :
    Calls Try.prog 69 #[clv K cap] w fun e w' => e = .returned (.tuple #[(rtv n d), .int .i64 0]) ∧ Fr0 w w' := by
  have hmf : ∀ (fn : Fn) (first cap : Array Value) (w : World), (Instr.makeFunc fn first cap).run Try.prog w = .ok (.func fn first cap) w := fun _ _ _ _ => rfl
  have HF := Lib.hid (((Fr.refl (fun _ => False) w).alloc (.cells (rtc 0 0) 27)).alloc (.cells #[.int .i64 0] 28))
  have HA := Lib.hid (blk_alloc (heap_alloc_new w (.cells (rtc 0 0) 27)) (.cells #[.int .i64 0] 28))
  have HB := Lib.hid (heap_an (w := w.alloc (.cells (rtc 0 0) 27)) (k := w.heap.size + 1) (.cells #[.int .i64 0] 28) (by simp))
  have HW' := Lib.hid HW
  clear HW
  go_enter_defers Try.func69, Try.ntmps69
  go_wp2_with (first | (go_at_fn K; (with_reducible refine (HW'.out _ HF.out).mono ?_); rintro _ w2 ⟨rfl, hf2⟩; have hb := hf2.blk HA.out (fun h => h); have hq := hf2.blk HB.out (fun h => h); have q0 : w2.cell? ⟨w.heap.size + 1, 0, none⟩ = some (.int .i64 0) := cell_of_blk hq 0; have q1 : w2.frozen? ⟨w.heap.size + 1, 0, none⟩ = false := free_of_blk hq 0; obtain ⟨c0, c1, f0, f1⟩ := two_facts hb) | fail)
  have hBQ : Hid ((((((w2.setCell ⟨w.heap.size, 0, none⟩ (.int .i64 n)).setCell ⟨w.heap.size, 1, none⟩ (.int .i64 d)).setCell ⟨w.heap.size + 1, 0, none⟩ (.int .i64 0)).heap[w.heap.size]? = some (.cells (rtc n d) 27 (0, 0))) ∧ (((w2.setCell ⟨w.heap.size, 0, none⟩ (.int .i64 n)).setCell ⟨w.heap.size, 1, none⟩ (.int .i64 d)).setCell ⟨w.heap.size + 1, 0, none⟩ (.int .i64 0)).cell? ⟨w.heap.size + 1, 0, none⟩ = some (.int .i64 0)) ∧ Fr0 w (((w2.setCell ⟨w.heap.size, 0, none⟩ (.int .i64 n)).setCell ⟨w.heap.size, 1, none⟩ (.int .i64 d)).setCell ⟨w.heap.size + 1, 0, none⟩ (.int .i64 0))) := ⟨⟨blk_setCell_other (two_set hb (.int .i64 n) (.int .i64 d)) (p := ⟨w.heap.size + 1, 0, none⟩) (by simp) _, cell_of_blk (blk_setCell (blk_setCell_other (blk_setCell_other hq (p := ⟨w.heap.size, 0, none⟩) (by simp) (.int .i64 n)) (p := ⟨w.heap.size, 1, none⟩) (by simp) (.int .i64 d)) 0 (.int .i64 0)) 0⟩,
    (two_fr ((HF.out).trans hf2) (by simp) (.int .i64 n) (.int .i64 d)).setCell (p := ⟨w.heap.size + 1, 0, none⟩) (fun h => absurd h (by simp)) (.int .i64 0)⟩
  generalize ((w2.setCell ⟨w.heap.size, 0, none⟩ (.int .i64 n)).setCell ⟨w.heap.size, 1, none⟩ (.int .i64 d)).setCell ⟨w.heap.size + 1, 0, none⟩ (.int .i64 0) = W3 at *
  refine leaves_cons (f := 92) (args := #[.pointer (some ⟨w.heap.size, 0, none⟩), .pointer (some ⟨w.heap.size + 1, 0, none⟩)]) (by simp) (by simp [go_sem]) ?_
  refine (rtryc_idle w.heap.size (w.heap.size + 1) _).mono ?_
  rintro e u' w'' ⟨rfl, rfl, rfl⟩
  exact ⟨_, results_row_errno rfl _ _ w.heap.size (w.heap.size + 1) _ _ _ _ _ rfl rfl hBQ.out.1.1 (loadVar_cell hBQ.out.1.2) Try.underlying27 rfl (by kernel_rfl), rfl, hBQ.out.2⟩
set_option maxHeartbeats 2000000 in
/-- Where the work gives up: nothing, and why. -/
theorem rtry_no (K : FuncId) (cap : Array Value) (k : Int) (w : World) (HE : ∀ (args : Array Value) (U : World), (callFunc K args).run Try.prog U = .ok (.enter K args) U) (HW : ∀ U, Fr0 w U → Calls Try.prog K cap U fun e w' => e = .panicked [stopE k] ∧ Fr0 U w') :
    Calls Try.prog 69 #[clv K cap] w fun e w' => e = .returned (.tuple #[(rtv 0 0), .int .i64 k]) ∧ Fr0 w w' := by
  have hmf : ∀ (fn : Fn) (first cap : Array Value) (w : World), (Instr.makeFunc fn first cap).run Try.prog w = .ok (.func fn first cap) w := fun _ _ _ _ => rfl
  have HF := Lib.hid (((Fr.refl (fun _ => False) w).alloc (.cells (rtc 0 0) 27)).alloc (.cells #[.int .i64 0] 28))
  have HA := Lib.hid (blk_alloc (heap_alloc_new w (.cells (rtc 0 0) 27)) (.cells #[.int .i64 0] 28))
  have HB := Lib.hid (heap_an (w := w.alloc (.cells (rtc 0 0) 27)) (k := w.heap.size + 1) (.cells #[.int .i64 0] 28) (by simp))
  have HW' := Lib.hid HW
  clear HW
  go_enter_defers Try.func69, Try.ntmps69
  go_wp2_with (first | (go_at_fn K; (with_reducible refine (HW'.out _ HF.out).mono ?_); rintro _ w2 ⟨rfl, hf2⟩; have hb := hf2.blk HA.out (fun h => h); have hq := hf2.blk HB.out (fun h => h)) | fail)
  refine leaves_cons (f := 92) (args := #[.pointer (some ⟨w.heap.size, 0, none⟩), .pointer (some ⟨w.heap.size + 1, 0, none⟩)]) (by simp) (by simp [go_sem]) ?_
  refine (rtryc_stop w.heap.size (w.heap.size + 1) k [] w2 _ _ _ (by simp) hb hq).mono ?_
  rintro e u' w'' ⟨rfl, rfl, hp3, hq3, hf3⟩
  exact ⟨_, results_row_errno rfl _ _ w.heap.size (w.heap.size + 1) _ _ _ _ _ rfl rfl hp3 (loadVar_cell (cell_of_blk hq3 0)) Try.underlying27 rfl (by kernel_rfl), rfl, Fr.then (HF.out.trans hf2) hf3 (fun i hi h => by rcases h with h | h <;> omega)⟩
end Go.Proofs.Ytjldogfpccbkeaa

/- Chapter 01: Make. -/
set_option linter.unusedVariables false
set_option linter.unusedSimpArgs false
namespace Go.Proofs.Ytjldogfpccbkeaa
open Go.RowKit
attribute [local go_sem] Oper.semAt_some

/-- How a function ends that hands back a fraction or gives up. -/
def endR : Ra → Ending
  | .ok p => .returned (rtv p.1 p.2)
  | .error k => .panicked [stopE k]
/-- What is answered: a fraction, an error. -/
def rN : Ra → Int
  | .ok p => p.1
  | .error _ => 0
def rD : Ra → Int
  | .ok p => p.2
  | .error _ => 0
def rE : Ra → Int
  | .ok _ => 0
  | .error k => k
abbrev tupR (r : Ra) : Value := .tuple #[rtv (rN r) (rD r), .int .i64 (rE r)]
theorem toldE_eq (n : Nat) (below : Bool) (d : Nat) : toldE n below d = endR (toldR n below d) := by
  unfold toldE toldR
  split <;> rfl
theorem madeE_eq (n : Nat) (below : Bool) (d : Nat) : madeE n below d = endR (fracR n below d) := toldE_eq _ _ _
theorem enters_of' {K : FuncId} {fn : Func} (h : Try.prog.funcs[K]? = some fn) (h1 : (fn.name == "runtime.NumGoroutine") = false) (h2 : fn.body.isNone = false) (args : Array Value) (U : World) : (callFunc K args).run Try.prog U = .ok (.enter K args) U := by
  have h3 : fn.name ≠ "runtime.NumGoroutine" := by simpa using h1
  have h4 : ¬ fn.body = none := fun hh => by rw [hh] at h2; cases h2
  simp [callFunc, h, h3, h4, Sem.run]
theorem rtry_calls (K : FuncId) (cap : Array Value) (r : Ra) (w : World) (HE : ∀ (args : Array Value) (U : World), (callFunc K args).run Try.prog U = .ok (.enter K args) U) (HW : ∀ U, Fr0 w U → Calls Try.prog K cap U fun e w' => e = endR r ∧ Fr0 U w') :
    Calls Try.prog 69 #[clv K cap] w fun e w' => e = .returned (tupR r) ∧ Fr0 w w' := by
  cases r with
  | ok p => exact rtry_yes K cap p.1 p.2 w HE HW
  | error k => exact rtry_no K cap k w HE HW
theorem u64_abs {d : Int} (h0 : 0 ≤ d) (h : d ≤ 9223372036854775807) : IntKind.u64.wrap d = ((d.natAbs : Nat) : Int) := by rw [IntKind.wrap_u64]; omega
/-- The fraction of any two numbers. -/
def makeR (n d : Int) : Ra := if d = 0 then .error 2 else rR (mkRat (if d < 0 then -n else n) d.natAbs)
theorem makeR_eq (n d : Int) (hd : d ≠ 0) : makeR n d = fracR n.natAbs ((decide (n < 0) != decide (d < 0)) && decide (n ≠ 0)) d.natAbs := by
  unfold makeR
  rw [if_neg hd, fracR_eq _ _ _ (by omega)]
  congr 2
  unfold sgn
  by_cases h1 : n < 0 <;> by_cases h2 : d < 0 <;> by_cases h3 : n = 0 <;> simp [h1, h2, h3] <;> omega
set_option maxRecDepth 20000 in
theorem rmake1_calls (n d : Int) (hn : I64r n) (hd : I64r d) (pn pd : Nat) (w : World) (h1 : w.cell? ⟨pn, 0, none⟩ = some (.int .i64 n)) (h2 : w.cell? ⟨pd, 0, none⟩ = some (.int .i64 d)) :
    Calls Try.prog 70 #[.pointer (some ⟨pd, 0, none⟩), .pointer (some ⟨pn, 0, none⟩)] w fun e w' => e = endR (makeR n d) ∧ Fr0 w w' := by
  have hmx : Try.prog.follows .mixedOrders = true := by kernel_rfl
  have HF := Lib.hid ((Fr.refl (fun _ => False) w).alloc (.cells (rtc 0 0) 27))
  have HB := Lib.hid (heap_alloc_new w (.cells (rtc 0 0) 27))
  have c1 := HF.out.cell h1 (fun h => h)
  have c2 := HF.out.cell h2 (fun h => h)
  by_cases h0 : d = 0
  · rw [show makeR n d = .error 2 from if_pos h0]
    subst h0
    have HM := Lib.hid (fun U => rmust_no 2 U)
    go_enter Try.func70, Try.ntmps70
    go_wp2_with (first | (go_at_call 71; (with_reducible refine (HM.out _).mono ?_); rintro _ _ ⟨rfl, rfl⟩) | fail)
    exact ⟨rfl, rfl, HF.out⟩
  · have HM := Lib.hid (fun U => rmust_yes 2 U)
    rw [makeR_eq n d h0, ← madeE_eq]
    have d1 : decide (d = 0) = false := decide_eq_false h0
    have d1b : (d == 0) = false := by simpa using h0
    have d1c : (d != 0) = true := by simpa using h0
    have HA := Lib.hid (fun U => rsize_calls n hn U)
    have HD := Lib.hid (fun U => rsize_calls d hd U)
    have HMD := Lib.hid (fun U => rmade_calls n.natAbs ((decide (n < 0) != decide (d < 0)) && decide (n ≠ 0)) d.natAbs (by have := hn.1; have := hn.2; omega) (by have := hd.1; have := hd.2; omega) (by omega) U)
    obtain ⟨bn, dn⟩ : ∃ b, decide (n < 0) = b := ⟨_, rfl⟩
    obtain ⟨bd, dd⟩ : ∃ b, decide (d < 0) = b := ⟨_, rfl⟩
    obtain ⟨b0, dz⟩ : ∃ b, decide (n = 0) = b := ⟨_, rfl⟩
    have dz2 : decide (n ≠ 0) = !b0 := by rw [← dz]; simp
    have dz3 : (n == 0) = b0 := by rw [← dz]; rfl
    have dz4 : (n != 0) = !b0 := by rw [bne, dz3]
    rw [dn, dd, dz2] at HMD ⊢
    rw [madeE_eq] at HMD ⊢
    generalize fracR n.natAbs ((bn != bd) && !b0) d.natAbs = r at *
    obtain ⟨er, her⟩ : ∃ er, er = endR r := ⟨_, rfl⟩
    have her2 : (∃ p1 p2, er = .returned (rtv p1 p2)) ∨ ∃ k, er = .panicked [stopE k] := by
      cases r with
      | ok p => exact .inl ⟨p.1, p.2, her⟩
      | error k => exact .inr ⟨k, her⟩
    rw [← her] at HMD ⊢
    clear her
    go_enter Try.func70, Try.ntmps70
    go_wp2_with (first | (go_at_call 71; (with_reducible refine (HM.out _).mono ?_); rintro _ _ ⟨rfl, rfl⟩) | fail)
    generalize w.alloc (.cells (rtc 0 0) 27) = W at *
    have r1 := cg_cell (W := W) c1
    have r2 := cg_cell (W := W) c2
    rcases her2 with ⟨p1, p2, rfl⟩ | ⟨k, rfl⟩ <;> cases b0 <;> cases bn <;> cases bd <;>
     (refine wp_region_class (fun U => ∃ x : Wx W, U = x.u) 13 hmx (by kernel_rfl) ⟨⟨W.drew, (Fr.refl _ W).drew⟩, rfl⟩ ?_
      simp only [List.take_succ_cons, List.take_zero, List.drop_succ_cons, List.drop_zero]
      repeat (first
        | go_big_quiet_step (fail)
        | go_big_quiet_step ((go_at_call 73; exact quiet_cg ((rsize_calls _ (by assumption) _).mono fun e w' h => ⟨h.1, h.2 ▸ Fr.refl _ _⟩))))
      refine wpQuiet_nil ?_
      rintro U ⟨y, rfl⟩
      go_wp2_with (first | (go_at_call 72; refine (HMD.out _).mono ?_; rintro _ w3 ⟨rfl, hf3⟩; have hb3 := (y.fr.trans hf3).blk HB.out (fun h => h); obtain ⟨c0, c1, f0, f1⟩ := two_facts hb3) | fail)
      first
        | exact ⟨rfl, rfl, (HF.out.trans y.fr).trans hf3⟩
        | exact bodyPost_ret (results_cell_row rfl _ _ w.heap.size _ _ _ _ rfl (two_set hb3 _ _) Try.underlying27 rfl (by kernel_rfl)) rfl ⟨rfl, two_fr ((HF.out.trans y.fr).trans hf3) (by simp) _ _⟩)
theorem results_row_tmp {P : Program} {fn : Func} {p u : Tmp} {ty : TypeId} (h : fn.results = #[.cell p ty, .tmp u]) (tmps : Array Value) (w : World) (g : Nat) (t : TypeId) (cs : Array Value) (fr : Nat × Nat) (d : TypeDesc)
    (hp : tmps.getD p undef = .pointer (some ⟨g, 0, none⟩)) (hg : w.heap[g]? = some (.cells cs t fr))
    (hu : P.underlying ty = some d) (hd : (match d with | .struct _ | .array _ _ => true | _ => false) = true) (hi : (P.info? ty).map (·.size) = some cs.size) :
    (results fn tmps).run P w = .ok (.tuple #[.agg cs, tmps.getD u undef]) w := by
  rw [results_cell_tmp h, hp]
  simp [asAddr, Result.andThen, run_loadVar_row w g t ty cs fr d hg hu hd hi]
theorem box_cell {w : World} {k : Nat} {u : Value} {t : TypeId} (h : w.heap.size = k) : (w.alloc (.cells #[u] t)).cell? ⟨k, 0, none⟩ = some u := cell_of_blk (heap_an (.cells #[u] t) h) 0
theorem rMake_calls (n d : Int) (hn : I64r n) (hd : I64r d) (w : World) : Calls Try.prog 57 #[.int .i64 n, .int .i64 d] w fun e w' => e = .returned (tupR (makeR n d)) ∧ Fr0 w w' := by
  have hmf : ∀ (fn : Fn) (first cap : Array Value) (w : World), (Instr.makeFunc fn first cap).run Try.prog w = .ok (.func fn first cap) w := fun _ _ _ _ => rfl
  have HF := Lib.hid ((((Fr.refl (fun _ => False) w).alloc (.cells #[.int .i64 n] 2)).alloc (.cells #[.int .i64 d] 2)).alloc (.cells (rtc 0 0) 27))
  have HB := Lib.hid (heap_an (w := (w.alloc (.cells #[.int .i64 n] 2)).alloc (.cells #[.int .i64 d] 2)) (k := w.heap.size + 1 + 1) (.cells (rtc 0 0) 27) (by simp))
  have c1 : (((w.alloc (.cells #[.int .i64 n] 2)).alloc (.cells #[.int .i64 d] 2)).alloc (.cells (rtc 0 0) 27)).cell? ⟨w.heap.size, 0, none⟩ = some (.int .i64 n) :=
    cell_of_blk (blk_alloc (blk_alloc (heap_alloc_new w (.cells #[.int .i64 n] 2)) _) _) 0
  have c2 : (((w.alloc (.cells #[.int .i64 n] 2)).alloc (.cells #[.int .i64 d] 2)).alloc (.cells (rtc 0 0) 27)).cell? ⟨w.heap.size + 1, 0, none⟩ = some (.int .i64 d) :=
    cell_of_blk (blk_alloc (heap_an (w := w.alloc (.cells #[.int .i64 n] 2)) (k := w.heap.size + 1) (.cells #[.int .i64 d] 2) (by simp)) _) 0
  have HT := Lib.hid (rtry_calls 70 #[.pointer (some ⟨w.heap.size + 1, 0, none⟩), .pointer (some ⟨w.heap.size, 0, none⟩)] (makeR n d)
    (((w.alloc (.cells #[.int .i64 n] 2)).alloc (.cells #[.int .i64 d] 2)).alloc (.cells (rtc 0 0) 27))
    (enters_of' Try.func70 (by kernel_rfl) rfl)
    (fun U hU => rmake1_calls n d hn hd w.heap.size (w.heap.size + 1) U (hU.cell c1 (fun h => h)) (hU.cell c2 (fun h => h))))
  clear c1 c2
  unfold tupR at HT ⊢
  generalize rN (makeR n d) = a at *
  generalize rD (makeR n d) = b at *
  generalize rE (makeR n d) = k at *
  go_enter Try.func57, Try.ntmps57
  go_wp2_with (first | (go_at_call 69; refine HT.out.mono ?_; rintro _ w3 ⟨rfl, hf3⟩; have hb3 := hf3.blk HB.out (fun h => h); obtain ⟨c0, c1, f0, f1⟩ := two_facts hb3) | fail)
  exact bodyPost_ret (results_row_tmp (p := 4) (u := 5) rfl _ _ (w.heap.size + 1 + 1) _ _ _ _ rfl (two_set hb3 _ _) Try.underlying27 rfl (by kernel_rfl)) rfl ⟨rfl, two_fr (HF.out.trans hf3) (by omega) _ _⟩
end Go.Proofs.Ytjldogfpccbkeaa

/- Chapter 01: fractions in a row; both. -/
set_option linter.unusedVariables false
set_option linter.unusedSimpArgs false
namespace Go.Proofs.Ytjldogfpccbkeaa
open Go.RowKit
attribute [local go_sem] Oper.semAt_some

/-- Fractions as cells. -/
def sends (l : List (Int × Int)) : List Value := l.flatMap fun p => [.int .i64 p.1, .int .i64 p.2]
theorem sends_length : ∀ l, (sends l).length = 2 * l.length
  | [] => rfl
  | p :: l => by have := sends_length l; simp [sends] at this ⊢; omega
theorem sends_at0 : ∀ (l : List (Int × Int)) (i : Nat) (h : i < l.length) (h' : i * 2 < (sends l).length), (sends l)[i * 2] = .int .i64 l[i].1
  | p :: l, 0, _, _ => rfl
  | p :: l, i + 1, h, h' => by
    have := sends_at0 l i (by simpa using h) (by rw [sends_length]; simp at h; omega)
    show (Value.int .i64 p.1 :: Value.int .i64 p.2 :: sends l)[(i + 1) * 2] = _
    simp only [show (i + 1) * 2 = i * 2 + 1 + 1 by omega, List.getElem_cons_succ]
    exact this
theorem sends_at1 : ∀ (l : List (Int × Int)) (i : Nat) (h : i < l.length) (h' : i * 2 + 1 < (sends l).length), (sends l)[i * 2 + 1] = .int .i64 l[i].2
  | p :: l, 0, _, _ => rfl
  | p :: l, i + 1, h, h' => by
    have := sends_at1 l i (by simpa using h) (by rw [sends_length]; simp at h; omega)
    show (Value.int .i64 p.1 :: Value.int .i64 p.2 :: sends l)[(i + 1) * 2 + 1] = _
    simp only [show (i + 1) * 2 + 1 = i * 2 + 1 + 1 + 1 by omega, List.getElem_cons_succ]
    exact this
def at_ (l : List (Int × Int)) (i : Nat) : Int := (l.getD i (0, 0)).1
def sz_ (l : List (Int × Int)) (i : Nat) : Int := (l.getD i (0, 0)).2
theorem at_eq (l : List (Int × Int)) (i : Nat) (h : i < l.length) : at_ l i = l[i].1 := by simp [at_, h]
theorem sz_eq (l : List (Int × Int)) (i : Nat) (h : i < l.length) : sz_ l i = l[i].2 := by simp [sz_, h]
theorem rdl_cells {S : Nat → Prop} {w : World} {b off : Nat} {l : List (Int × Int)} (h : Rd S w (some ⟨b, off, none⟩) (sends l)) (i : Nat) (hi : i < l.length) :
    w.cell? ⟨b, off + i * 2, none⟩ = some (.int .i64 (at_ l i)) ∧ w.cell? ⟨b, off + i * 2 + 1, none⟩ = some (.int .i64 (sz_ l i)) := by
  have c0 := h.at_ (i * 2) (by rw [sends_length]; omega)
  have c1 := h.at_ (i * 2 + 1) (by rw [sends_length]; omega)
  rw [sends_at0 l i hi, ← at_eq l i hi] at c0
  rw [sends_at1 l i hi, ← sz_eq l i hi, ← Nat.add_assoc] at c1
  exact ⟨c0, c1⟩

abbrev I64l (l : List (Int × Int)) : Prop := ∀ x ∈ l, I64r x.1 ∧ I64r x.2
/-- All are fractions. -/
def AllR (l : List (Int × Int)) : Prop := ∀ x ∈ l, RtOk x.1 x.2
instance (l : List (Int × Int)) : Decidable (AllR l) := by unfold AllR; infer_instance
def bothE (l : List (Int × Int)) : Ending := if AllR l then .returned (.tuple #[]) else .panicked [stopE 2]
theorem at_mem {l : List (Int × Int)} {i : Nat} (h : i < l.length) : (at_ l i, sz_ l i) ∈ l := by
  rw [at_eq l i h, sz_eq l i h]; exact List.getElem_mem h
theorem rboth_calls (A : Option Addr) (c : Nat) (l : List (Int × Int)) (w : World) (hR : Rd (fun _ => False) w A (sends l)) (hl : I64l l) (hlen : l.length ≤ 1000000000) :
    Calls Try.prog 84 #[.slice A l.length c] w fun e w' => e = bothE l ∧ Fr0 w w' := by
  have HR := Lib.hid hR
  have HL := Lib.hid hl
  have HY := Lib.hid (fun U => rmust_yes 2 U)
  have HN := Lib.hid (fun U => rmust_no 2 U)
  clear hR hl
  unfold bothE
  go_enter Try.func84, Try.ntmps84
  go_wp2_with fail
  go_loopw [6] (fun i wr => ∃ (k : Nat), k ≤ l.length ∧ i = .int .i64 (k : Int) ∧ Hid (AllR (l.take k)) ∧ Hid (Fr0 w wr)) (fun i _ => l.length - (intOf i).toNat)
  case atStart => exact ⟨0, by omega, rfl, (fun x hx => by simp at hx), Fr.refl _ _⟩
  case round =>
    obtain ⟨k, hk, rfl, HA, HF⟩ := hrel
    by_cases hlt : k < l.length
    · have hr := HR.out.kept HF.out
      obtain ⟨b, off, rfl⟩ := hr.some_ (by rw [sends_length]; omega)
      obtain ⟨d0, d1⟩ := rdl_cells hr k hlt
      have hi1 : (0 : Int) ≤ (k : Int) := by omega
      have hi2 : (k : Int) < (l.length : Int) := by omega
      have hm := at_mem hlt
      have hi64 := HL.out _ hm
      have HC := Lib.hid (fun U => rcheck_calls (at_ l k) (sz_ l k) hi64.1 hi64.2 U)
      have HF1 := Lib.hid (HF.out.alloc (.cells (rtc (at_ l k) (sz_ l k)) 27))
      have HT := Lib.hid (show l.take (k + 1) = l.take k ++ [(at_ l k, sz_ l k)] by rw [List.take_succ_eq_append_getElem hlt, at_eq l k hlt, sz_eq l k hlt])
      clear hr hi64
      by_cases hok : RtOk (at_ l k) (sz_ l k)
      · rw [if_pos hok] at HC
        have HOK := Lib.hid hok
        clear hok hm
        go_wp2_with (first | (go_at_call 58; refine (HC.out _).mono ?_; rintro e w5 ⟨rfl, hf5⟩) | (go_at_call 71; refine (HY.out _).mono ?_; rintro _ _ ⟨rfl, rfl⟩) | fail)
        go_roundw
        case rel =>
          refine ⟨k + 1, by omega, by go_num, ?_, HF1.out.trans hf5⟩
          intro x hx
          rw [HT.out] at hx
          rcases List.mem_append.1 hx with hx | hx
          · exact HA.out x hx
          · rw [List.mem_singleton.1 hx]; exact HOK.out
        case measure => simp [intOf]; omega
      · rw [if_neg hok] at HC
        have HNO := Lib.hid (show ¬ AllR l from fun h => hok (h _ hm))
        clear hok hm
        go_wp2_with (first | (go_at_call 58; refine (HC.out _).mono ?_; rintro e w5 ⟨rfl, hf5⟩) | (go_at_call 71; refine (HN.out _).mono ?_; rintro _ _ ⟨rfl, rfl⟩) | fail)
        exact ⟨rfl, by first | rfl | exact (if_neg HNO.out).symm, HF1.out.trans hf5⟩
    · have hkm : k = l.length := by omega
      subst hkm
      rw [List.take_length] at HA
      go_wp2_with fail
      go_end0
      exact ⟨by first | rfl | exact (if_pos HA.out).symm, HF.out⟩
end Go.Proofs.Ytjldogfpccbkeaa
