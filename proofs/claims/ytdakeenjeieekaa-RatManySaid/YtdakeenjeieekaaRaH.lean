/- Chapter 01: Div64, Rem64; a wide number by a word. -/
import Derived.Test.YtdakeenjeieekaaRaG
set_option linter.unusedVariables false
set_option linter.unusedSimpArgs false
namespace Go.Proofs.Ytdakeenjeieekaa
open Go.RowKit
attribute [local go_sem] Oper.semAt_some

theorem or_sum {P hi G s : Nat} (hP : P = 2 ^ s) (hG : G < P) (hb : hi * P + G < 18446744073709551616) : bits .or .u64 ((hi * P : Nat) : Int) (G : Int) = ((hi * P + G : Nat) : Int) := by
  rw [bits_or_u64_nat _ _ (by omega) (by omega)]
  congr 1
  subst hP
  rw [Nat.mul_comm]
  exact (Nat.two_pow_add_eq_or_of_lt hG hi).symm
theorem quoN {U a Q : Nat} (h : Q = U / a) : (U : Int).tdiv (a : Int) = (Q : Int) := by
  rw [Int.tdiv_eq_ediv_of_nonneg (by omega), h]; simp
theorem remN {U a Q : Nat} (h : Q = U % a) : (U : Int).tmod (a : Int) = (Q : Int) := by
  rw [Int.tmod_eq_emod_of_nonneg (by omega), h]; simp
theorem div64_small (lo y : Nat) (hh : 0 < y) (hl : lo < 18446744073709551616) (hy : y < 18446744073709551616) (w : World) :
    Calls Try.prog 81 #[u64v 0, u64v lo, u64v y] w fun e w' => e = .returned (.tuple #[u64v (lo / y), u64v (lo % y)]) ∧ Fr0 w w' := by
  have hmx : Try.prog.follows .mixedOrders = true := by kernel_rfl
  have d1 : decide (y = 0) = false := decide_eq_false (by omega)
  have d1n : (((y : Nat) : Int) == 0) = false := by simp; omega
  have d1m : ¬ ((y : Int) = 0) := by omega
  have d2 : decide (y ≤ 0) = false := decide_eq_false (by omega)
  have d2n : decide ((y : Int) ≤ 0) = false := decide_eq_false (by omega)
  have q1 := quoN (U := lo) (a := y) rfl
  have q2 := remN (U := lo) (a := y) rfl
  have l1 := Nat.div_le_self lo y
  have l2 := Nat.mod_lt lo hh
  generalize lo / y = q at *
  generalize lo % y = r at *
  have q3 : IntKind.u64.wrap (q : Int) = (q : Int) := by rw [IntKind.wrap_u64]; omega
  have q4 : IntKind.u64.wrap (r : Int) = (r : Int) := by rw [IntKind.wrap_u64]; omega
  clear l1 l2 hh
  go_enter Try.func81, Try.ntmps81
  go_wp2_with fail
  refine wp_region_cg hmx (by kernel_rfl) ?_
  repeat (go_big_quiet_step (fail))
  refine wpQuiet_nil ?_
  intro w6 hf6
  go_wp2_with fail
  go_ret2
  exact ⟨rfl, hf6⟩
theorem hLu_eq {A U L u1 u0 : Nat} (h : A = U * 18446744073709551616 + L) (h2 : L = u1 * 4294967296 + u0) : A = U * 18446744073709551616 + (u1 * 4294967296 + u0) := by rw [h, h2]
theorem div64_great (N hi lo y : Nat) (hNe : N = hi * 18446744073709551616 + lo) (h0 : 0 < hi) (hh : hi < y) (hl : lo < 18446744073709551616) (hy : y < 18446744073709551616) (w : World) :
    Calls Try.prog 81 #[u64v hi, u64v lo, u64v y] w fun e w' => e = .returned (.tuple #[u64v (N / y), u64v (N % y)]) ∧ Fr0 w w' := by
  obtain ⟨n1, n2⟩ := norm_y (show y ≠ 0 by omega) hy
  have hs : 63 - y.log2 ≤ 63 := by omega
  have HL := Lib.hid (fun U => lead64_calls y (by omega) hy U)
  generalize 63 - y.log2 = s at *
  obtain ⟨U, L, hU, hL, hN, hUe, hLe, hH, hG⟩ := shifted hh hl hs n1 n2
  have hP0 : 0 < 2 ^ s := Nat.pow_pos (by omega)
  have f1 : ((2 : Int) ^ s) = ((2 ^ s : Nat) : Int) := by simp
  have f2 : ((2 : Int) ^ (64 - s)) = ((2 ^ (64 - s) : Nat) : Int) := by simp
  obtain ⟨G, hGe⟩ : ∃ G, G = lo / 2 ^ (64 - s) := ⟨_, rfl⟩
  rw [← hGe] at hUe hG
  rw [← hNe] at hN
  clear hNe
  have e5 : (lo : Int) / (2 : Int) ^ (64 - s) = (G : Int) := by rw [f2, hGe]; simp
  obtain ⟨P, hP⟩ : ∃ P, P = 2 ^ s := ⟨_, rfl⟩
  rw [← hP] at n1 n2 hU hN hUe hLe hH hG hP0 f1
  have e6 : bits .or .u64 ((hi * P : Nat) : Int) (G : Int) = (U : Int) := by rw [or_sum hP hG (by omega), ← hUe]
  have e4 : IntKind.u64.wrap ((hi : Int) * (2 : Int) ^ s) = ((hi * P : Nat) : Int) := by rw [f1, mulN, wrapN _ (by omega)]
  have e1 : IntKind.u64.wrap ((y : Int) * (2 : Int) ^ s) = ((y * P : Nat) : Int) := by rw [f1, mulN, wrapN _ (by omega)]
  have e7 : IntKind.u64.wrap ((lo : Int) * (2 : Int) ^ s) = (L : Int) := by rw [f1, mulN, wrapM, ← hLe]
  have e20 : ∀ W : Nat, (W : Int) / (2 : Int) ^ s = ((W / P : Nat) : Int) := fun W => by rw [f1]; simp
  generalize hHP : hi * P = H at *
  obtain ⟨Y, hY⟩ : ∃ Y, Y = y * P := ⟨_, rfl⟩
  rw [← hY] at n1 n2 hU e1
  have e3 := maskN Y (by omega)
  have e9 := maskN L hL
  have e2 := divN Y
  have e8 := divN L
  obtain ⟨a, ha⟩ : ∃ a, a = Y / 4294967296 := ⟨_, rfl⟩
  obtain ⟨b, hb⟩ : ∃ b, b = Y % 4294967296 := ⟨_, rfl⟩
  obtain ⟨u1, hu1⟩ : ∃ u, u = L / 4294967296 := ⟨_, rfl⟩
  obtain ⟨u0, hu0⟩ : ∃ u, u = L % 4294967296 := ⟨_, rfl⟩
  rw [← hb] at e3; rw [← ha] at e2; rw [← hu1] at e8; rw [← hu0] at e9
  have hYab : Y = a * 4294967296 + b := by omega
  have hLu : L = u1 * 4294967296 + u0 := by omega
  have b1 : b < 4294967296 := by omega
  have b2 : a < 4294967296 := by omega
  have b3 : 0 < a := by omega
  have b4 : u1 < 4294967296 := by omega
  have b5 : u0 < 4294967296 := by omega
  have d1 : decide (y = 0) = false := decide_eq_false (by omega)
  have d1n : (((y : Nat) : Int) == 0) = false := by simp; omega
  have d2 : decide (y ≤ hi) = false := decide_eq_false (by omega)
  have d2n : decide ((y : Int) ≤ (hi : Int)) = false := decide_eq_false (by omega)
  have d3 : decide (hi = 0) = false := decide_eq_false (by omega)
  have d3n : (((hi : Nat) : Int) == 0) = false := by simp; omega
  have d4 : ¬ ((a : Int) = 0) := by omega
  have d4n : ((a : Int) == 0) = false := by simp; omega
  have hsi : IntKind.u64.wrap (s : Int) = (s : Int) := by rw [IntKind.wrap_u64]; omega
  have hs64 : IntKind.u64.wrap (64 - (s : Int)) = ((64 - s : Nat) : Int) := by rw [IntKind.wrap_u64]; omega
  -- the first digit
  have D0 := Lib.hid (Dg.start (u := u1) hYab b3 b2 b4 (show U < 18446744073709551616 by omega))
  have g1 := quoN (U := U) (a := a) rfl
  obtain ⟨Q, hQ⟩ : ∃ Q, Q = U / a := ⟨_, rfl⟩
  have hQU : Q ≤ U := hQ ▸ Nat.div_le_self U a
  have hQa : Q * a ≤ U := hQ ▸ Nat.div_mul_le_self U a
  have hR : U - Q * a = U % a := by have := Nat.div_add_mod' U a; rw [← hQ] at this; omega
  rw [← hQ] at g1 D0
  have g2 := wrapN Q (by omega)
  have g3 : IntKind.u64.wrap ((Q : Int) * (a : Int)) = ((Q * a : Nat) : Int) := by rw [mulN, wrapN _ (by omega)]
  have g4 : IntKind.u64.wrap ((U : Int) - ((Q * a : Nat) : Int)) = ((U % a : Nat) : Int) := by rw [← hR, IntKind.wrap_u64]; omega
  generalize hRr : U % a = R at *
  generalize hQA : Q * a = QA at *
  have HN := Lib.hid hN
  have HY := Lib.hid hY
  have HUe := Lib.hid hUe
  have HHP := Lib.hid hHP
  have HQ := Lib.hid hQ
  have HYab := Lib.hid hYab
  have HLu := Lib.hid hLu
  clear hN hY hUe hHP hQ hYab hLu hLe hGe hP f1 f2 hR hRr ha hb hu1 hu0
  go_enter Try.func81, Try.ntmps81
  go_upto_block 0 with (first | (go_at_call 82; (with_reducible refine (HL.out _).mono ?_); rintro _ _ ⟨rfl, rfl⟩) | fail)
  go_cut [15, 16] from 67 to 85 (fun s15 s16 wx => ∃ q r : Nat, s15 = u64v q ∧ s16 = u64v r ∧ Hid (q = (U * 4294967296 + u1) / Y) ∧ wx = w)
  case first =>
    go_wp2_with fail
    go_loopw [15, 16] (fun s15 s16 wr => ∃ q r : Nat, s15 = u64v q ∧ s16 = u64v r ∧ Hid (Dg U u1 Y a b q r) ∧ wr = w) (fun s15 _ _ => (intOf s15).toNat)
    case atStart => exact ⟨_, _, rfl, rfl, D0, rfl⟩
    case round =>
      obtain ⟨q, r, rfl, rfl, HD, rfl⟩ := hrel
      have hD := HD.out
      obtain ⟨_, hr, _, hq⟩ := hD
      by_cases c1 : 4294967296 ≤ q
      · obtain ⟨k1, k2, k3⟩ := HD.out.less HYab.out b1 b4 hU (.inl c1)
        have c1d : decide (4294967296 ≤ q) = true := decide_eq_true c1
        have c1i : decide ((4294967296 : Int) ≤ (q : Int)) = true := decide_eq_true (by omega)
        have k4 : IntKind.u64.wrap ((q : Int) - 1) = ((q - 1 : Nat) : Int) := by rw [IntKind.wrap_u64]; omega
        have k5 : IntKind.u64.wrap ((r : Int) + (a : Int)) = ((r + a : Nat) : Int) := by rw [IntKind.wrap_u64]; omega
        have K := Lib.hid (And.intro k1 (And.intro k2 k3))
        clear k1 k2 k3
        generalize hr2 : r + a = r2 at *
        by_cases c2 : 4294967296 ≤ r2
        · have c2d : decide (4294967296 ≤ r2) = true := decide_eq_true c2
          have c2i : decide ((4294967296 : Int) ≤ (r2 : Int)) = true := decide_eq_true (by omega)
          have hout := Lib.hid (Dg.out K.out.2.1 K.out.2.2 HYab.out b1 hU b3 c2)
          generalize q - 1 = q2 at *
          clear c1 c2
          go_wp2_with fail
          go_meet
          exact ⟨_, _, rfl, rfl, hout, rfl⟩
        · have c2d : decide (4294967296 ≤ r2) = false := decide_eq_false c2
          have c2i : decide ((4294967296 : Int) ≤ (r2 : Int)) = false := decide_eq_false (by omega)
          have hgo := Lib.hid (show Dg U u1 Y a b (q - 1) r2 from ⟨K.out.2.1, by omega, K.out.2.2, by omega⟩)
          have hlt := Lib.hid (show q - 1 < q by omega)
          generalize q - 1 = q2 at *
          clear c1 c2
          go_wp2_with fail
          go_roundw
          case rel => exact ⟨_, _, rfl, rfl, hgo, trivial⟩
          case measure => have := hlt.out; simp [intOf]; omega
      · have c1d : decide (4294967296 ≤ q) = false := decide_eq_false c1
        have c1i : decide ((4294967296 : Int) ≤ (q : Int)) = false := decide_eq_false (by omega)
        have m0 : q * b ≤ 4294967295 * 4294967295 := Nat.mul_le_mul (by omega) (by omega)
        have m1 : IntKind.u64.wrap ((q : Int) * (b : Int)) = ((q * b : Nat) : Int) := by rw [mulN, wrapN _ (by omega)]
        have m2 : IntKind.u64.wrap ((4294967296 : Int) * (r : Int)) = ((4294967296 * r : Nat) : Int) := by rw [IntKind.wrap_u64]; omega
        have m3 : IntKind.u64.wrap (((4294967296 * r : Nat) : Int) + (u1 : Int)) = ((4294967296 * r + u1 : Nat) : Int) := by rw [IntKind.wrap_u64]; omega
        by_cases c3 : 4294967296 * r + u1 < q * b
        · obtain ⟨k1, k2, k3⟩ := HD.out.less HYab.out b1 b4 hU (.inr c3)
          have k4 : IntKind.u64.wrap ((q : Int) - 1) = ((q - 1 : Nat) : Int) := by rw [IntKind.wrap_u64]; omega
          have k5 : IntKind.u64.wrap ((r : Int) + (a : Int)) = ((r + a : Nat) : Int) := by rw [IntKind.wrap_u64]; omega
          have c3d : decide (4294967296 * r + u1 < q * b) = true := decide_eq_true c3
          have K := Lib.hid (And.intro k1 (And.intro k2 k3))
          clear k1 k2 k3 m0 c3
          generalize 4294967296 * r + u1 = Z at *
          generalize 4294967296 * r = Z0 at *
          generalize q * b = X at *
          generalize hr2 : r + a = r2 at *
          by_cases c2 : 4294967296 ≤ r2
          · have c2d : decide (4294967296 ≤ r2) = true := decide_eq_true c2
            have c2i : decide ((4294967296 : Int) ≤ (r2 : Int)) = true := decide_eq_true (by omega)
            have hout := Lib.hid (Dg.out K.out.2.1 K.out.2.2 HYab.out b1 hU b3 c2)
            generalize q - 1 = q2 at *
            clear c1 c2
            go_wp2_with fail
            go_meet
            exact ⟨_, _, rfl, rfl, hout, rfl⟩
          · have c2d : decide (4294967296 ≤ r2) = false := decide_eq_false c2
            have c2i : decide ((4294967296 : Int) ≤ (r2 : Int)) = false := decide_eq_false (by omega)
            have hgo := Lib.hid (show Dg U u1 Y a b (q - 1) r2 from ⟨K.out.2.1, by omega, K.out.2.2, by omega⟩)
            have hlt := Lib.hid (show q - 1 < q by have := K.out.1; omega)
            generalize q - 1 = q2 at *
            clear c1 c2
            go_wp2_with fail
            go_roundw
            case rel => exact ⟨_, _, rfl, rfl, hgo, trivial⟩
            case measure => have := hlt.out; simp [intOf]; omega
        · have c3d : decide (4294967296 * r + u1 < q * b) = false := decide_eq_false c3
          have hout := Lib.hid (Dg.done HD.out HYab.out (by omega) (Nat.le_of_not_lt c3))
          clear m0 c3
          generalize 4294967296 * r + u1 = Z at *
          generalize 4294967296 * r = Z0 at *
          generalize q * b = X at *
          clear c1
          go_wp2_with fail
          go_meet
          exact ⟨_, _, rfl, rfl, hout, rfl⟩
  case rest =>
    obtain ⟨q1, r1, rfl, rfl, Hq1, rfl⟩ := hcut
    have h1 := Hq1.out
    have hV := Nat.mod_lt (U * 4294967296 + u1) (show 0 < Y by omega)
    have h2 := Nat.div_add_mod (U * 4294967296 + u1) Y
    have hq1 : q1 < 4294967296 := by rw [h1, Nat.div_lt_iff_lt_mul (by omega)]; omega
    rw [← h1] at h2
    clear h1
    generalize (U * 4294967296 + u1) % Y = V at *
    have x1 : IntKind.u64.wrap ((U : Int) * 4294967296) = ((U * 4294967296 % 18446744073709551616 : Nat) : Int) := by rw [IntKind.wrap_u64]; omega
    have x2 : IntKind.u64.wrap (((U * 4294967296 % 18446744073709551616 : Nat) : Int) + (u1 : Int)) = ((U * 4294967296 % 18446744073709551616 + u1 : Nat) : Int) := by rw [IntKind.wrap_u64]; omega
    have x3 : IntKind.u64.wrap ((q1 : Int) * (Y : Int)) = ((Y * q1 % 18446744073709551616 : Nat) : Int) := by rw [mulN, wrapM, Nat.mul_comm]
    have x4 : IntKind.u64.wrap (((U * 4294967296 % 18446744073709551616 + u1 : Nat) : Int) - ((Y * q1 % 18446744073709551616 : Nat) : Int)) = (V : Int) := by rw [IntKind.wrap_u64]; omega
    have H2 := Lib.hid h2
    have E0 := Lib.hid (Dg.start (u := u0) HYab.out b3 b2 b5 (show V < 18446744073709551616 by omega))
    have g5 := quoN (U := V) (a := a) rfl
    obtain ⟨Q2, hQ2⟩ : ∃ Q, Q = V / a := ⟨_, rfl⟩
    have hQV : Q2 ≤ V := hQ2 ▸ Nat.div_le_self V a
    have hQa2 : Q2 * a ≤ V := hQ2 ▸ Nat.div_mul_le_self V a
    have hR2 : V - Q2 * a = V % a := by have := Nat.div_add_mod' V a; rw [← hQ2] at this; omega
    rw [← hQ2] at g5 E0
    have g6 := wrapN Q2 (by omega)
    have g7 : IntKind.u64.wrap ((Q2 : Int) * (a : Int)) = ((Q2 * a : Nat) : Int) := by rw [mulN, wrapN _ (by omega)]
    have g8 : IntKind.u64.wrap ((V : Int) - ((Q2 * a : Nat) : Int)) = ((V % a : Nat) : Int) := by rw [← hR2, IntKind.wrap_u64]; omega
    generalize V % a = R2 at *
    generalize Q2 * a = QA2 at *
    generalize Y * q1 % 18446744073709551616 = z2 at *
    generalize U * 4294967296 % 18446744073709551616 + u1 = z1 at *
    generalize U * 4294967296 % 18446744073709551616 = z0 at *
    clear h2 hQ2 hR2
    obtain ⟨w9, hw9⟩ : ∃ w9, w9 = wc := ⟨_, rfl⟩
    subst hw9
    go_upto_block 2 with fail
    go_cut [18, 16] from 102 to 120 (fun s18 s16 wx => ∃ q r : Nat, s18 = u64v q ∧ s16 = u64v r ∧ Hid (q = (V * 4294967296 + u0) / Y) ∧ wx = w9)
    case first =>
      go_wp2_with fail
      go_loopw [18, 16] (fun s18 s16 wr => ∃ q r : Nat, s18 = u64v q ∧ s16 = u64v r ∧ Hid (Dg V u0 Y a b q r) ∧ wr = w9) (fun s18 _ _ => (intOf s18).toNat)
      case atStart => exact ⟨_, _, rfl, rfl, E0, rfl⟩
      case round =>
        obtain ⟨q, r, rfl, rfl, HD, rfl⟩ := hrel
        have hD := HD.out
        obtain ⟨_, hr, _, hq⟩ := hD
        by_cases c1 : 4294967296 ≤ q
        · obtain ⟨k1, k2, k3⟩ := HD.out.less HYab.out b1 b5 hV (.inl c1)
          have c1d : decide (4294967296 ≤ q) = true := decide_eq_true c1
          have c1i : decide ((4294967296 : Int) ≤ (q : Int)) = true := decide_eq_true (by omega)
          have k4 : IntKind.u64.wrap ((q : Int) - 1) = ((q - 1 : Nat) : Int) := by rw [IntKind.wrap_u64]; omega
          have k5 : IntKind.u64.wrap ((r : Int) + (a : Int)) = ((r + a : Nat) : Int) := by rw [IntKind.wrap_u64]; omega
          have K := Lib.hid (And.intro k1 (And.intro k2 k3))
          clear k1 k2 k3
          generalize hr2 : r + a = r2 at *
          by_cases c2 : 4294967296 ≤ r2
          · have c2d : decide (4294967296 ≤ r2) = true := decide_eq_true c2
            have c2i : decide ((4294967296 : Int) ≤ (r2 : Int)) = true := decide_eq_true (by omega)
            have hout := Lib.hid (Dg.out K.out.2.1 K.out.2.2 HYab.out b1 hV b3 c2)
            generalize q - 1 = q2 at *
            clear c1 c2
            go_wp2_with fail
            go_meet
            exact ⟨_, _, rfl, rfl, hout, rfl⟩
          · have c2d : decide (4294967296 ≤ r2) = false := decide_eq_false c2
            have c2i : decide ((4294967296 : Int) ≤ (r2 : Int)) = false := decide_eq_false (by omega)
            have hgo := Lib.hid (show Dg V u0 Y a b (q - 1) r2 from ⟨K.out.2.1, by omega, K.out.2.2, by omega⟩)
            have hlt := Lib.hid (show q - 1 < q by omega)
            generalize q - 1 = q2 at *
            clear c1 c2
            go_wp2_with fail
            go_roundw
            case rel => exact ⟨_, _, rfl, rfl, hgo, trivial⟩
            case measure => have := hlt.out; simp [intOf]; omega
        · have c1d : decide (4294967296 ≤ q) = false := decide_eq_false c1
          have c1i : decide ((4294967296 : Int) ≤ (q : Int)) = false := decide_eq_false (by omega)
          have m0 : q * b ≤ 4294967295 * 4294967295 := Nat.mul_le_mul (by omega) (by omega)
          have m1 : IntKind.u64.wrap ((q : Int) * (b : Int)) = ((q * b : Nat) : Int) := by rw [mulN, wrapN _ (by omega)]
          have m2 : IntKind.u64.wrap ((4294967296 : Int) * (r : Int)) = ((4294967296 * r : Nat) : Int) := by rw [IntKind.wrap_u64]; omega
          have m3 : IntKind.u64.wrap (((4294967296 * r : Nat) : Int) + (u0 : Int)) = ((4294967296 * r + u0 : Nat) : Int) := by rw [IntKind.wrap_u64]; omega
          by_cases c3 : 4294967296 * r + u0 < q * b
          · obtain ⟨k1, k2, k3⟩ := HD.out.less HYab.out b1 b5 hV (.inr c3)
            have k4 : IntKind.u64.wrap ((q : Int) - 1) = ((q - 1 : Nat) : Int) := by rw [IntKind.wrap_u64]; omega
            have k5 : IntKind.u64.wrap ((r : Int) + (a : Int)) = ((r + a : Nat) : Int) := by rw [IntKind.wrap_u64]; omega
            have c3d : decide (4294967296 * r + u0 < q * b) = true := decide_eq_true c3
            have K := Lib.hid (And.intro k1 (And.intro k2 k3))
            clear k1 k2 k3 m0 c3
            generalize 4294967296 * r + u0 = Z at *
            generalize 4294967296 * r = Z0 at *
            generalize q * b = X at *
            generalize hr2 : r + a = r2 at *
            by_cases c2 : 4294967296 ≤ r2
            · have c2d : decide (4294967296 ≤ r2) = true := decide_eq_true c2
              have c2i : decide ((4294967296 : Int) ≤ (r2 : Int)) = true := decide_eq_true (by omega)
              have hout := Lib.hid (Dg.out K.out.2.1 K.out.2.2 HYab.out b1 hV b3 c2)
              generalize q - 1 = q2 at *
              clear c1 c2
              go_wp2_with fail
              go_meet
              exact ⟨_, _, rfl, rfl, hout, rfl⟩
            · have c2d : decide (4294967296 ≤ r2) = false := decide_eq_false c2
              have c2i : decide ((4294967296 : Int) ≤ (r2 : Int)) = false := decide_eq_false (by omega)
              have hgo := Lib.hid (show Dg V u0 Y a b (q - 1) r2 from ⟨K.out.2.1, by omega, K.out.2.2, by omega⟩)
              have hlt := Lib.hid (show q - 1 < q by have := K.out.1; omega)
              generalize q - 1 = q2 at *
              clear c1 c2
              go_wp2_with fail
              go_roundw
              case rel => exact ⟨_, _, rfl, rfl, hgo, trivial⟩
              case measure => have := hlt.out; simp [intOf]; omega
          · have c3d : decide (4294967296 * r + u0 < q * b) = false := decide_eq_false c3
            have hout := Lib.hid (Dg.done HD.out HYab.out (by omega) (Nat.le_of_not_lt c3))
            clear m0 c3
            generalize 4294967296 * r + u0 = Z at *
            generalize 4294967296 * r = Z0 at *
            generalize q * b = X at *
            clear c1
            go_wp2_with fail
            go_meet
            exact ⟨_, _, rfl, rfl, hout, rfl⟩
    case rest =>
      obtain ⟨q0, r0, rfl, rfl, Hq0, rfl⟩ := hcut
      have h3 := Hq0.out
      have hW := Nat.mod_lt (V * 4294967296 + u0) (show 0 < Y by omega)
      have h4 := Nat.div_add_mod (V * 4294967296 + u0) Y
      have hq0 : q0 < 4294967296 := by rw [h3, Nat.div_lt_iff_lt_mul (by omega)]; omega
      rw [← h3] at h4
      clear h3
      generalize (V * 4294967296 + u0) % Y = W at *
      have y3 : IntKind.u64.wrap ((V : Int) * 4294967296) = ((V * 4294967296 % 18446744073709551616 : Nat) : Int) := by rw [IntKind.wrap_u64]; omega
      have y4 : IntKind.u64.wrap (((V * 4294967296 % 18446744073709551616 : Nat) : Int) + (u0 : Int)) = ((V * 4294967296 % 18446744073709551616 + u0 : Nat) : Int) := by rw [IntKind.wrap_u64]; omega
      have y5 : IntKind.u64.wrap ((q0 : Int) * (Y : Int)) = ((Y * q0 % 18446744073709551616 : Nat) : Int) := by rw [mulN, wrapM, Nat.mul_comm]
      have y6 : IntKind.u64.wrap (((V * 4294967296 % 18446744073709551616 + u0 : Nat) : Int) - ((Y * q0 % 18446744073709551616 : Nat) : Int)) = (W : Int) := by rw [IntKind.wrap_u64]; omega
      obtain ⟨z6, hz6⟩ : ∃ z, z = q1 * 4294967296 := ⟨_, rfl⟩
      have y1 : IntKind.u64.wrap ((q1 : Int) * 4294967296) = (z6 : Int) := by rw [IntKind.wrap_u64]; omega
      obtain ⟨r1, r2⟩ := two_digits hP0 HY.out (hLu_eq HN.out HLu.out) H2.out h4 hW
      have y7 := e20 W
      rw [r2] at y7
      have y2 : IntKind.u64.wrap ((z6 : Int) + (q0 : Int)) = ((N / y : Nat) : Int) := by rw [← r1, IntKind.wrap_u64]; omega
      clear r1 r2 h4 e20 hz6
      generalize Y * q0 % 18446744073709551616 = z5 at *
      generalize V * 4294967296 % 18446744073709551616 + u0 = z4 at *
      generalize V * 4294967296 % 18446744073709551616 = z3 at *
      obtain ⟨res, hres⟩ : ∃ res, res = N / y := ⟨_, rfl⟩
      obtain ⟨rest, hrest⟩ : ∃ rest, rest = N % y := ⟨_, rfl⟩
      rw [← hres] at y2
      rw [← hrest] at y7
      have HRES := Lib.hid hres
      have HREST := Lib.hid hrest
      clear hres hrest
      go_wp2_with fail
      go_ret2
      refine ⟨?_, Fr.refl _ _⟩
      rw [← HRES.out, ← HREST.out]
      rfl
theorem div64_calls (N hi lo y : Nat) (hNe : N = hi * 18446744073709551616 + lo) (hh : hi < y) (hl : lo < 18446744073709551616) (hy : y < 18446744073709551616) (w : World) :
    Calls Try.prog 81 #[u64v hi, u64v lo, u64v y] w fun e w' => e = .returned (.tuple #[u64v (N / y), u64v (N % y)]) ∧ Fr0 w w' := by
  by_cases h0 : hi = 0
  · subst h0
    rw [show N = lo by omega]
    exact div64_small lo y hh hl hy w
  · exact div64_great N hi lo y hNe (by omega) hh hl hy w
theorem rem64_calls (N hi lo y : Nat) (hNe : N = hi * 18446744073709551616 + lo) (h0 : 0 < y) (hl : lo < 18446744073709551616) (hh : hi < 18446744073709551616) (hy : y < 18446744073709551616) (w : World) :
    Calls Try.prog 80 #[u64v hi, u64v lo, u64v y] w fun e w' => e = .returned (u64v (N % y)) ∧ Fr0 w w' := by
  have HD := Lib.hid (fun U => div64_calls (hi % y * 18446744073709551616 + lo) (hi % y) lo y rfl (Nat.mod_lt _ h0) hl hy U)
  have hm : (hi % y * 18446744073709551616 + lo) % y = N % y := by
    rw [hNe, Nat.add_mod, Nat.mul_mod, Nat.mod_mod, ← Nat.mul_mod, ← Nat.add_mod]
  rw [hm] at HD
  have g1 := remN (U := hi) (a := y) rfl
  have hlt := Nat.mod_lt hi h0
  generalize (hi % y * 18446744073709551616 + lo) / y = q at *
  generalize hi % y = r at *
  generalize N % y = rest at *
  have g2 := wrapN r (by omega)
  have d1n : (((y : Nat) : Int) == 0) = false := by simp; omega
  have d1m : ¬ ((y : Int) = 0) := by omega
  clear hm hNe h0 hlt
  go_enter Try.func80, Try.ntmps80
  go_wp2_with (first | (go_at_call 81; (with_reducible refine (HD.out _).mono ?_); rintro _ w2 ⟨rfl, hf2⟩) | fail)
  go_ret
  exact ⟨rfl, hf2⟩
theorem wleft_calls (a d : Nat) (h0 : 0 < d) (ha : a < 340282366920938463463374607431768211456) (hd : d < 18446744073709551616) (w : World) : Calls Try.prog 71 #[wdv a, u64v d] w fun e w' => e = .returned (u64v (a % d)) ∧ Fr0 w w' := by
  unfold wdv
  have HF := fun o1 => Lib.hid ((Fr.refl (fun _ => False) w).alloc o1)
  have HD := Lib.hid (fun U => rem64_calls a (a / 18446744073709551616) (a % 18446744073709551616) d (Nat.div_add_mod' a _).symm h0 (Nat.mod_lt _ (by omega)) (by omega) hd U)
  generalize a % 18446744073709551616 = al at *
  generalize a / 18446744073709551616 = ah at *
  generalize a % d = r at *
  go_enter Try.func71, Try.ntmps71
  go_wp2_with (first | (go_at_call 80; (with_reducible refine (HD.out _).mono ?_); rintro _ w2 ⟨rfl, hf2⟩) | fail)
  go_ret
  exact ⟨rfl, (HF _).out.trans hf2⟩
theorem wby_yes (a d : Nat) (h0 : a / 18446744073709551616 < d) (hd : d < 18446744073709551616) (w : World) : Calls Try.prog 72 #[wdv a, u64v d] w fun e w' => e = .returned (.tuple #[u64v (a / d), u64v (a % d)]) ∧ Fr0 w w' := by
  unfold wdv
  have HF := fun o1 => Lib.hid ((Fr.refl (fun _ => False) w).alloc o1)
  have HD := Lib.hid (fun U => div64_calls a (a / 18446744073709551616) (a % 18446744073709551616) d (Nat.div_add_mod' a _).symm h0 (Nat.mod_lt _ (by omega)) hd U)
  have HM := Lib.hid (fun U => rmust_yes 110 U)
  have c1 : decide (((a / 18446744073709551616 : Nat) : Int) < (d : Int)) = true := decide_eq_true (by omega)
  have c1n : decide (a / 18446744073709551616 < d) = true := decide_eq_true h0
  clear h0
  generalize a % 18446744073709551616 = al at *
  generalize a / 18446744073709551616 = ah at *
  generalize a % d = r at *
  generalize a / d = q at *
  go_enter Try.func72, Try.ntmps72
  go_wp2_with (first | (go_at_call 36; (with_reducible refine (HM.out _).mono ?_); rintro _ _ ⟨rfl, rfl⟩) | (go_at_call 81; (with_reducible refine (HD.out _).mono ?_); rintro _ w2 ⟨rfl, hf2⟩) | fail)
  go_ret2
  exact ⟨rfl, (HF _).out.trans hf2⟩
theorem wby_no (a d : Nat) (h0 : ¬ a / 18446744073709551616 < d) (w : World) : Calls Try.prog 72 #[wdv a, u64v d] w fun e w' => e = .panicked [stopE 110] ∧ Fr0 w w' := by
  unfold wdv
  have HF := fun o1 => Lib.hid ((Fr.refl (fun _ => False) w).alloc o1)
  have HM := Lib.hid (fun U => rmust_no 110 U)
  have c1 : decide (((a / 18446744073709551616 : Nat) : Int) < (d : Int)) = false := decide_eq_false (by omega)
  have c1n : decide (a / 18446744073709551616 < d) = false := decide_eq_false h0
  clear h0
  generalize a % 18446744073709551616 = al at *
  generalize a / 18446744073709551616 = ah at *
  go_enter Try.func72, Try.ntmps72
  go_wp2_with (first | (go_at_call 36; (with_reducible refine (HM.out _).mono ?_); rintro _ _ ⟨rfl, rfl⟩) | fail)
  exact ⟨rfl, rfl, (HF _).out⟩
end Go.Proofs.Ytdakeenjeieekaa
