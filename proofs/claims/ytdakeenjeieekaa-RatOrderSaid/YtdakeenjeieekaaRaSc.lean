/- Chapter 01: what is multiplied above and below is the same fraction: RatScales walked. -/
import Derived.Test.YtdakeenjeieekaaRaY
set_option linter.unusedVariables false
set_option linter.unusedSimpArgs false
namespace Go.Proofs.Ytdakeenjeieekaa
open Go.RowKit
attribute [local go_sem] Oper.semAt_some

theorem makeR_div {n d : Int} (hd : d ≠ 0) : makeR n d = rR (Rat.divInt n d) := by
  unfold makeR
  rw [if_neg hd]
  congr 1
  by_cases h : d < 0
  · rw [if_pos h, ← Rat.divInt_ofNat, show ((d.natAbs : Nat) : Int) = -d by omega, Rat.neg_divInt_neg]
  · rw [if_neg h, ← Rat.divInt_ofNat, show ((d.natAbs : Nat) : Int) = d by omega]
theorem makeR_scale {n d k : Int} (hd : d ≠ 0) (hk : k ≠ 0) : makeR (n * k) (d * k) = makeR n d := by
  rw [makeR_div hd, makeR_div (Int.mul_ne_zero hd hk), Rat.divInt_mul_right hk]
theorem makeR_fits {n d : Int} (hd : d ≠ 0) (h1 : n.natAbs ≤ 9223372036854775807) (h2 : d.natAbs ≤ 9223372036854775807) : ∃ p, makeR n d = .ok p ∧ (n = 0 ↔ p.1 = 0) := by
  unfold makeR
  rw [if_neg hd]
  have hd' : d.natAbs ≠ 0 := by omega
  have hs : (if d < 0 then -n else n).natAbs = n.natAbs := by split <;> simp
  have hz : (if d < 0 then -n else n) = 0 ↔ n = 0 := by split <;> omega
  generalize (if d < 0 then -n else n) = s at *
  unfold rR
  have e1 : (mkRat s d.natAbs).den ≤ d.natAbs := by
    rw [Rat.mkRat_def, dif_neg hd', Rat.normalize_eq hd']
    exact Nat.div_le_self _ _
  have e2 : (mkRat s d.natAbs).num.natAbs ≤ s.natAbs := by
    rw [Rat.mkRat_def, dif_neg hd', Rat.normalize_eq hd']
    exact Int.natAbs_ediv_le_natAbs _ _
  rw [if_pos ⟨by omega, by omega⟩]
  refine ⟨_, rfl, ?_⟩
  rw [← hz]
  show s = 0 ↔ (mkRat s d.natAbs).num = 0
  rw [Rat.num_eq_zero, Rat.mkRat_eq_zero hd']
theorem rq_neg_add (n d : Int) : rq n d + rq (-n) d = 0 := by rw [rq_neg, Rat.add_neg_cancel]
theorem rq_div_self {n d : Int} (hn : n ≠ 0) (hd : 1 ≤ d) : rq n d / rq n d = 1 := by
  rw [Rat.div_def, Rat.mul_inv_cancel _ (rq_ne_zero hn hd)]
theorem rR_zero : rR 0 = .ok (0, 1) := rfl
theorem rR_one : rR 1 = .ok (1, 1) := rfl
set_option maxHeartbeats 2000000 in
theorem scales_walk (n d k : Int) (hn : I32r n) (hd : I32r d) (hk : I32r k) (w : World) : Calls Try.prog 5 #[.int .i32 n, .int .i32 d, .int .i32 k] w fun e w' => e = .returned (.bool true) ∧ Fr0 w w' := by
  have HKN := Lib.hid known_calls
  obtain ⟨n1, n2⟩ := hn
  obtain ⟨d1, d2⟩ := hd
  obtain ⟨k1, k2⟩ := hk
  have hnk : -4611686018427387904 ≤ n * k ∧ n * k ≤ 4611686018427387904 := by
    have h1 : (n * k).natAbs ≤ 2147483648 * 2147483648 := by rw [Int.natAbs_mul]; exact Nat.mul_le_mul (by omega) (by omega)
    omega
  have hdk : -4611686018427387904 ≤ d * k ∧ d * k ≤ 4611686018427387904 := by
    have h1 : (d * k).natAbs ≤ 2147483648 * 2147483648 := by rw [Int.natAbs_mul]; exact Nat.mul_le_mul (by omega) (by omega)
    omega
  have wn : wrap64 n = n := wrap64_id ⟨by omega, by omega⟩
  have wd' : wrap64 d = d := wrap64_id ⟨by omega, by omega⟩
  have wk : wrap64 k = k := wrap64_id ⟨by omega, by omega⟩
  have wnk : wrap64 (n * k) = n * k := wrap64_id ⟨by omega, by omega⟩
  have wdk : wrap64 (d * k) = d * k := wrap64_id ⟨by omega, by omega⟩
  have HX := Lib.hid (fun U => rMake_calls n d ⟨by omega, by omega⟩ ⟨by omega, by omega⟩ U)
  have HY := Lib.hid (fun U => rMake_calls (n * k) (d * k) ⟨by omega, by omega⟩ ⟨by omega, by omega⟩ U)
  by_cases h0 : d = 0
  · subst h0
    rw [show makeR n 0 = .error 2 from if_pos rfl] at HX
    rw [Int.zero_mul, show makeR (n * k) 0 = .error 2 from if_pos rfl] at HY
    simp only [Int.zero_mul] at wdk hdk
    change Hid (∀ U, Calls Try.prog _ _ U fun e w' => e = .returned (.tuple #[rtv 0 0, .int .i64 2]) ∧ Fr0 U w') at HX
    change Hid (∀ U, Calls Try.prog _ _ U fun e w' => e = .returned (.tuple #[rtv 0 0, .int .i64 2]) ∧ Fr0 U w') at HY
    clear hnk hdk n1 n2 d1 d2 k1 k2
    go_enter Try.func5, Try.ntmps5
    go_wp2_with (first
      | (go_at_call 11; (with_reducible refine (HX.out _).mono ?_); rintro _ w3 ⟨rfl, hf3⟩)
      | (go_at_call 11; (with_reducible refine (HY.out _).mono ?_); rintro _ w4 ⟨rfl, hf4⟩)
      | (go_at_call 15; (with_reducible refine (HKN.out _).mono ?_); rintro _ w8 ⟨rfl, hf8⟩)
      | fail)
    go_ret
    exact ⟨rfl, ((hf3.alloc _).trans (hf4.alloc _)).trans hf8⟩
  obtain ⟨⟨xn, xd⟩, hx, hx0⟩ := makeR_fits (n := n) h0 (by omega) (by omega)
  obtain ⟨gx, gxn, gxd⟩ : RtOk xn xd ∧ I64r xn ∧ I64r xd := by
    unfold makeR at hx
    rw [if_neg h0] at hx
    exact rR_good hx
  rw [hx] at HX
  change Hid (∀ U, Calls Try.prog _ _ U fun e w' => e = .returned (.tuple #[rtv xn xd, .int .i64 0]) ∧ Fr0 U w') at HX
  have hng := rtOk_neg gx gxn
  have wxn : wrap64 (-xn) = -xn := wrap64_id hng.2
  have HAD := Lib.hid (fun U => radd_calls (xn, xd) (-xn, xd) ⟨gxn, gxd⟩ ⟨hng.2, gxd⟩ U)
  rw [twoR_ok gx hng.1] at HAD
  simp only at HAD
  rw [rq_neg_add, rR_zero] at HAD
  change Hid (∀ U, Calls Try.prog _ _ U fun e w' => e = .returned (.tuple #[rtv 0 1, .int .i64 0]) ∧ Fr0 U w') at HAD
  have HDI := Lib.hid (fun U => rdiv_calls (xn, xd) (xn, xd) ⟨gxn, gxd⟩ ⟨gxn, gxd⟩ U)
  rw [twoR_ok gx gx] at HDI
  unfold divR at HDI
  simp only at HDI hx0
  have hb0 : decide (d = 0) = false := decide_eq_false h0
  have hb1 : (d == 0) = false := by simpa using h0
  have qz : ∀ U, (Op.equalIn 10000 23 (rtv 0 1) (rtv 0 1)).run Try.prog U = .ok true U := fun U => by rw [eq_rat]; rfl
  have qo : ∀ U, (Op.equalIn 10000 23 (rtv 1 1) (rtv 1 1)).run Try.prog U = .ok true U := fun U => by rw [eq_rat]; rfl
  have qx : ∀ U, (Op.equalIn 10000 23 (rtv xn xd) (rtv xn xd)).run Try.prog U = .ok true U := fun U => by rw [eq_rat]; simp
  have HDS := Lib.hid (fun h : xn ≠ 0 => rq_div_self h gx.1)
  -- y: the same, or none where k is nought
  obtain ⟨yn, yd, ye, HY', hy⟩ : ∃ yn yd ye : Int, Hid (∀ U, Calls Try.prog 11 #[.int .i64 (n * k), .int .i64 (d * k)] U fun e w' => e = .returned (.tuple #[rtv yn yd, .int .i64 ye]) ∧ Fr0 U w') ∧ (k = 0 ∨ (k ≠ 0 ∧ yn = xn ∧ yd = xd ∧ ye = 0)) := by
    by_cases hk0 : k = 0
    · exact ⟨_, _, _, HY, .inl hk0⟩
    · rw [makeR_scale h0 hk0, hx] at HY
      exact ⟨xn, xd, 0, HY, .inr ⟨hk0, rfl, rfl, rfl⟩⟩
  clear HY
  clear hnk hdk n1 n2 d1 d2 k1 k2 hx h0 gx gxn gxd hng
  by_cases hn0 : n = 0
  · have hxn : xn = 0 := hx0.1 hn0
    rw [if_pos hxn] at HDI
    change Hid (∀ U, Calls Try.prog _ _ U fun e w' => e = .returned (.tuple #[rtv 0 0, .int .i64 2]) ∧ Fr0 U w') at HDI
    have hn1 : decide (n = 0) = true := decide_eq_true hn0
    have hn2 : (n == 0) = true := by simpa using hn0
    clear hx0 hxn hn0
    rcases hy with hk0 | ⟨hk0, hyn, hyd, rfl⟩
    · have hk1 : decide (k = 0) = true := decide_eq_true hk0
      have hk2 : (k == 0) = true := by simpa using hk0
      have hk3 : (k != 0) = false := by simpa using hk0
      clear hk0
      go_enter Try.func5, Try.ntmps5
      go_wp2_with (first
        | (go_at_call 11; (with_reducible refine (HX.out _).mono ?_); rintro _ w3 ⟨rfl, hf3⟩; have hbx := heap_alloc_new w3 (.cells (rtc xn xd) 23))
        | (go_at_call 11; (with_reducible refine (HY'.out _).mono ?_); rintro _ w4 ⟨rfl, hf4⟩; have hby := heap_alloc_new w4 (.cells (rtc yn yd) 23); have hbx4 := blk_alloc (hf4.blk hbx (fun h => h)) (.cells (rtc yn yd) 23); obtain ⟨x0, x1, _, _⟩ := two_facts hbx4; obtain ⟨y0, y1, _, _⟩ := two_facts hby)
        | (go_at_call 18; (with_reducible refine (HAD.out _).mono ?_); rintro _ w5 ⟨rfl, hf5⟩; have hbz := heap_alloc_new w5 (.cells (rtc 0 1) 23); have hbx5 := blk_alloc (hf5.blk hbx4 (fun h => h)) (.cells (rtc 0 1) 23); obtain ⟨u0, u1, _, _⟩ := two_facts hbx5)
        | (go_at_call 19; (with_reducible refine (HDI.out _).mono ?_); rintro _ w6 ⟨rfl, hf6⟩; have hbz6 := hf6.blk hbz (fun h => h); have hbz7 := fun o => Lib.hid (blk_alloc hbz6 o); obtain ⟨v0, v1, _, _⟩ := two_facts (hbz7 (.cells (rtc 0 0) 23)).out; obtain ⟨s0, s1, _, _⟩ := two_facts (heap_alloc_new w6 (.cells (rtc 0 0) 23)))
        | (go_at_call 15; (with_reducible refine (HKN.out _).mono ?_); rintro _ w8 ⟨rfl, hf8⟩)
        | fail)
      go_ret
      exact ⟨rfl, ((((hf3.alloc _).trans (hf4.alloc _)).trans (hf5.alloc _)).trans (hf6.alloc _)).trans hf8⟩
    · rw [hyn, hyd] at HY'
      clear hyn hyd
      have hk1 : decide (k = 0) = false := decide_eq_false hk0
      have hk2 : (k == 0) = false := by simpa using hk0
      have hk3 : (k != 0) = true := by simpa using hk0
      clear hk0
      go_enter Try.func5, Try.ntmps5
      go_wp2_with (first
        | (go_at_call 11; (with_reducible refine (HX.out _).mono ?_); rintro _ w3 ⟨rfl, hf3⟩; have hbx := heap_alloc_new w3 (.cells (rtc xn xd) 23))
        | (go_at_call 11; (with_reducible refine (HY'.out _).mono ?_); rintro _ w4 ⟨rfl, hf4⟩; have hby := heap_alloc_new w4 (.cells (rtc xn xd) 23); have hbx4 := blk_alloc (hf4.blk hbx (fun h => h)) (.cells (rtc xn xd) 23); obtain ⟨x0, x1, _, _⟩ := two_facts hbx4; obtain ⟨y0, y1, _, _⟩ := two_facts hby)
        | (go_at_call 18; (with_reducible refine (HAD.out _).mono ?_); rintro _ w5 ⟨rfl, hf5⟩; have hbz := heap_alloc_new w5 (.cells (rtc 0 1) 23); have hbx5 := blk_alloc (hf5.blk hbx4 (fun h => h)) (.cells (rtc 0 1) 23); obtain ⟨u0, u1, _, _⟩ := two_facts hbx5)
        | (go_at_call 19; (with_reducible refine (HDI.out _).mono ?_); rintro _ w6 ⟨rfl, hf6⟩; have hbz6 := hf6.blk hbz (fun h => h); have hbz7 := fun o => Lib.hid (blk_alloc hbz6 o); obtain ⟨v0, v1, _, _⟩ := two_facts (hbz7 (.cells (rtc 0 0) 23)).out; obtain ⟨s0, s1, _, _⟩ := two_facts (heap_alloc_new w6 (.cells (rtc 0 0) 23)))
        | (go_at_call 15; (with_reducible refine (HKN.out _).mono ?_); rintro _ w8 ⟨rfl, hf8⟩)
        | fail)
      go_ret
      exact ⟨rfl, ((((hf3.alloc _).trans (hf4.alloc _)).trans (hf5.alloc _)).trans (hf6.alloc _)).trans hf8⟩
  · have hxn : xn ≠ 0 := fun h => hn0 (hx0.2 h)
    rw [if_neg hxn, HDS.out hxn, rR_one] at HDI
    change Hid (∀ U, Calls Try.prog _ _ U fun e w' => e = .returned (.tuple #[rtv 1 1, .int .i64 0]) ∧ Fr0 U w') at HDI
    have hn1 : decide (n = 0) = false := decide_eq_false hn0
    have hn2 : (n == 0) = false := by simpa using hn0
    clear hx0 hxn hn0
    rcases hy with hk0 | ⟨hk0, hyn, hyd, rfl⟩
    · have hk1 : decide (k = 0) = true := decide_eq_true hk0
      have hk2 : (k == 0) = true := by simpa using hk0
      have hk3 : (k != 0) = false := by simpa using hk0
      clear hk0
      go_enter Try.func5, Try.ntmps5
      go_wp2_with (first
        | (go_at_call 11; (with_reducible refine (HX.out _).mono ?_); rintro _ w3 ⟨rfl, hf3⟩; have hbx := heap_alloc_new w3 (.cells (rtc xn xd) 23))
        | (go_at_call 11; (with_reducible refine (HY'.out _).mono ?_); rintro _ w4 ⟨rfl, hf4⟩; have hby := heap_alloc_new w4 (.cells (rtc yn yd) 23); have hbx4 := blk_alloc (hf4.blk hbx (fun h => h)) (.cells (rtc yn yd) 23); obtain ⟨x0, x1, _, _⟩ := two_facts hbx4; obtain ⟨y0, y1, _, _⟩ := two_facts hby)
        | (go_at_call 18; (with_reducible refine (HAD.out _).mono ?_); rintro _ w5 ⟨rfl, hf5⟩; have hbz := heap_alloc_new w5 (.cells (rtc 0 1) 23); have hbx5 := blk_alloc (hf5.blk hbx4 (fun h => h)) (.cells (rtc 0 1) 23); obtain ⟨u0, u1, _, _⟩ := two_facts hbx5)
        | (go_at_call 19; (with_reducible refine (HDI.out _).mono ?_); rintro _ w6 ⟨rfl, hf6⟩; have hbz6 := hf6.blk hbz (fun h => h); have hbz7 := fun o => Lib.hid (blk_alloc hbz6 o); obtain ⟨v0, v1, _, _⟩ := two_facts (hbz7 (.cells (rtc 1 1) 23)).out; obtain ⟨s0, s1, _, _⟩ := two_facts (heap_alloc_new w6 (.cells (rtc 1 1) 23)))
        | (go_at_call 15; (with_reducible refine (HKN.out _).mono ?_); rintro _ w8 ⟨rfl, hf8⟩)
        | fail)
      go_ret
      exact ⟨rfl, ((((hf3.alloc _).trans (hf4.alloc _)).trans (hf5.alloc _)).trans (hf6.alloc _)).trans hf8⟩
    · rw [hyn, hyd] at HY'
      clear hyn hyd
      have hk1 : decide (k = 0) = false := decide_eq_false hk0
      have hk2 : (k == 0) = false := by simpa using hk0
      have hk3 : (k != 0) = true := by simpa using hk0
      clear hk0
      go_enter Try.func5, Try.ntmps5
      go_wp2_with (first
        | (go_at_call 11; (with_reducible refine (HX.out _).mono ?_); rintro _ w3 ⟨rfl, hf3⟩; have hbx := heap_alloc_new w3 (.cells (rtc xn xd) 23))
        | (go_at_call 11; (with_reducible refine (HY'.out _).mono ?_); rintro _ w4 ⟨rfl, hf4⟩; have hby := heap_alloc_new w4 (.cells (rtc xn xd) 23); have hbx4 := blk_alloc (hf4.blk hbx (fun h => h)) (.cells (rtc xn xd) 23); obtain ⟨x0, x1, _, _⟩ := two_facts hbx4; obtain ⟨y0, y1, _, _⟩ := two_facts hby)
        | (go_at_call 18; (with_reducible refine (HAD.out _).mono ?_); rintro _ w5 ⟨rfl, hf5⟩; have hbz := heap_alloc_new w5 (.cells (rtc 0 1) 23); have hbx5 := blk_alloc (hf5.blk hbx4 (fun h => h)) (.cells (rtc 0 1) 23); obtain ⟨u0, u1, _, _⟩ := two_facts hbx5)
        | (go_at_call 19; (with_reducible refine (HDI.out _).mono ?_); rintro _ w6 ⟨rfl, hf6⟩; have hbz6 := hf6.blk hbz (fun h => h); have hbz7 := fun o => Lib.hid (blk_alloc hbz6 o); obtain ⟨v0, v1, _, _⟩ := two_facts (hbz7 (.cells (rtc 1 1) 23)).out; obtain ⟨s0, s1, _, _⟩ := two_facts (heap_alloc_new w6 (.cells (rtc 1 1) 23)))
        | (go_at_call 15; (with_reducible refine (HKN.out _).mono ?_); rintro _ w8 ⟨rfl, hf8⟩)
        | fail)
      go_ret
      exact ⟨rfl, ((((hf3.alloc _).trans (hf4.alloc _)).trans (hf5.alloc _)).trans (hf6.alloc _)).trans hf8⟩
end Go.Proofs.Ytdakeenjeieekaa
