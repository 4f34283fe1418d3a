/- Chapter 01: whole numbers go through rounding: RatShifts walked. -/
import Derived.Test.YtdakeenjeieekaaRaX
set_option linter.unusedVariables false
set_option linter.unusedSimpArgs false
namespace Go.Proofs.Ytdakeenjeieekaa
open Go.RowKit
attribute [local go_sem] Oper.semAt_some

theorem rq_floor {n d : Int} (h : RtP n d) : (rq n d).floor = n / d := by
  obtain ⟨e1, e2⟩ := rq_parts h
  rw [Rat.floor_def, e1, e2]
  have := h.1
  congr 1
  omega
theorem rq_int (k : Int) : rq k 1 = (k : Rat) := by
  unfold rq
  rw [show (1 : Int).natAbs = 1 from rfl, Rat.mkRat_one]
theorem floor_add_int (q : Rat) (k : Int) : (q + (k : Rat)).floor = q.floor + k := by
  apply Int.le_antisymm
  · have h : (q + (k : Rat)).floor - k ≤ q.floor := by
      rw [Rat.le_floor_iff, Rat.intCast_sub]
      have := Rat.le_floor_iff.1 (Int.le_refl (q + (k : Rat)).floor)
      rw [← Rat.add_le_add_right (c := (k : Rat)), Rat.sub_add_cancel]
      exact this
    omega
  · rw [Rat.le_floor_iff, Rat.intCast_add, Rat.add_le_add_right]
    exact Rat.le_floor_iff.1 (Int.le_refl _)
theorem twoR_ok {a b : Int × Int} {r : Ra} (h1 : RtOk a.1 a.2) (h2 : RtOk b.1 b.2) : twoR a b r = r := if_pos ⟨h1, h2⟩
theorem RtOk.p {n d : Int} (h : RtOk n d) : RtP n d := ⟨h.1, h.2.2⟩
theorem rR_good {x : Rat} {n d : Int} (h : rR x = .ok (n, d)) : RtOk n d ∧ I64r n ∧ I64r d := by
  obtain ⟨_, ⟨h1, h2⟩, h3, h4⟩ := rR_ok h
  exact ⟨⟨h1, by omega, h2⟩, ⟨by omega, by omega⟩, ⟨by omega, by omega⟩⟩
theorem rR_err {x : Rat} {k : Int} (h : rR x = .error k) : k = 110 := by
  unfold rR at h
  split at h
  · cases h
  · cases h; rfl
theorem floor_range {n d : Int} (hd : 1 ≤ d) (hn : I64r n) : I64r (n / d) := by
  obtain ⟨h1, h2⟩ := hn
  have h3 := Int.ediv_mul_le n (show d ≠ 0 by omega)
  have h4 : n / d ≤ 9223372036854775807 := by
    have := Int.ediv_le_ediv (show 0 < d by omega) h2
    have h5 : (9223372036854775807 : Int) / d ≤ 9223372036854775807 := Int.ediv_le_self _ (by decide)
    omega
  refine ⟨?_, h4⟩
  rw [Int.le_ediv_iff_mul_le (by omega)]
  have : (-9223372036854775808 : Int) * d ≤ -9223372036854775808 * 1 := Int.mul_le_mul_of_nonpos_left (by omega) (by omega)
  omega
theorem shift_floor {n d k yn yd : Int} (h : RtOk n d) (hr : rR (rq n d + rq k 1) = .ok (yn, yd)) : yn / yd = n / d + k := by
  obtain ⟨e, hp, _, _⟩ := rR_ok hr
  rw [← rq_floor hp, ← e, rq_int, floor_add_int, rq_floor h.p]
abbrev I32r (k : Int) : Prop := -2147483648 ≤ k ∧ k ≤ 2147483647
set_option maxHeartbeats 1000000 in
theorem shifts_walk (n d k : Int) (hn : I64r n) (hd : I64r d) (hk : I32r k) (w : World) : Calls Try.prog 4 #[rtv n d, .int .i32 k] w fun e w' => e = .returned (.bool true) ∧ Fr0 w w' := by
  have HKN := Lib.hid known_calls
  have HFL := Lib.hid (fun U => rfloor_calls n d hn hd U)
  have HCE := Lib.hid (fun U => rceil_calls n d hn hd U)
  have HF := Lib.hid ((Fr.refl (fun _ => False) w).alloc (.cells (rtc n d) 23))
  have HB := Lib.hid (heap_alloc_new w (.cells (rtc n d) 23))
  obtain ⟨c0, c1, _, _⟩ := two_facts HB.out
  unfold floorN chk at HFL
  unfold ceilN chk at HCE
  by_cases hok : RtOk n d
  · rw [if_pos hok, if_pos hok] at HFL HCE
    have hng := rtOk_neg hok hn
    have HFN := Lib.hid (fun U => rfloor_calls (-n) d hng.2 hd U)
    unfold floorN chk at HFN
    rw [if_pos hng.1, if_pos hng.1] at HFN
    have hwn : wrap64 (-n) = -n := wrap64_id hng.2
    have hrc := floor_range hok.1 hng.2
    have hrf := floor_range hok.1 hn
    have hwc : wrap64 (-((-n) / d)) = -((-n) / d) := by
      refine wrap64_id ⟨by have := hrc.2; omega, ?_⟩
      have h1 : n / d ≤ 9223372036854775807 := hrf.2
      rw [tdiv_ceil hok.1]
      have h2 := tdiv_range hok.1 hn
      split
      · rename_i hp
        have h5 := Int.tmod_add_mul_tdiv n d
        by_cases hd1 : d = 1
        · subst hd1; rw [Int.tmod_one] at hp; omega
        · by_cases hq : n.tdiv d = 9223372036854775807
          · rw [hq] at h5; have := hok.1; have := hn.2; omega
          · have := h2.2; omega
      · exact h2.2
    have hkd : wrap64 k = k := wrap64_id ⟨by have := hk.1; omega, by have := hk.2; omega⟩
    have hkr : I64r k := ⟨by have := hk.1; omega, by have := hk.2; omega⟩
    have hkok : RtOk k 1 := ⟨by decide, by have := hk.1; omega, Nat.gcd_one_right _⟩
    have HAD := Lib.hid (fun U => radd_calls (n, d) (k, 1) ⟨hn, hd⟩ ⟨hkr, by unfold I64r; omega⟩ U)
    rw [twoR_ok hok hkok] at HAD
    simp only at HAD
    have HPL := Lib.hid (fun yn yd h => shift_floor (yn := yn) (yd := yd) (k := k) hok h)
    have HER := Lib.hid (fun ke h => rR_err (x := rq n d + rq k 1) (k := ke) h)
    have HGO := Lib.hid (fun yn yd h => rR_good (n := yn) (d := yd) (x := rq n d + rq k 1) h)
    generalize rR (rq n d + rq k 1) = r at *
    generalize hfn : (-n) / d = fn at *
    generalize hff : n / d = ff at *
    clear hok hng hrc hfn hff hkok
    cases r with
    | error ke =>
      have hke := HER.out ke rfl
      subst hke
      change Hid (∀ U, Calls Try.prog _ _ U fun e w' => e = .returned (.tuple #[rtv 0 0, .int .i64 110]) ∧ Fr0 U w') at HAD
      clear HPL HGO HER
      go_enter Try.func4, Try.ntmps4
      go_wp2_with (first
        | (go_at_call 16; (with_reducible refine (HFL.out _).mono ?_); rintro _ w3 ⟨rfl, hf3⟩; obtain ⟨x0, x1, _, _⟩ := two_facts (hf3.blk HB.out (fun h => h)))
        | (go_at_call 17; (with_reducible refine (HCE.out _).mono ?_); rintro _ w4 ⟨rfl, hf4⟩; obtain ⟨y0, y1, _, _⟩ := two_facts ((hf3.trans hf4).blk HB.out (fun h => h)))
        | (go_at_call 16; (with_reducible refine (HFN.out _).mono ?_); rintro _ w5 ⟨rfl, hf5⟩; obtain ⟨z0, z1, _, _⟩ := two_facts (((hf3.trans hf4).trans hf5).blk HB.out (fun h => h)))
        | (go_at_call 18; (with_reducible refine (HAD.out _).mono ?_); rintro _ w6 ⟨rfl, hf6⟩)
        | (go_at_call 15; (with_reducible refine (HKN.out _).mono ?_); rintro _ w8 ⟨rfl, hf8⟩)
        | fail)
      go_ret
      exact ⟨rfl, (((((HF.out.trans hf3).trans hf4).trans hf5).trans hf6).alloc _).trans hf8⟩
    | ok p =>
      obtain ⟨yn, yd⟩ := p
      have hp := HPL.out yn yd rfl
      obtain ⟨g1, g2, g3⟩ := HGO.out yn yd rfl
      have HFY := Lib.hid (fun U => rfloor_calls yn yd g2 g3 U)
      unfold floorN chk at HFY
      rw [if_pos g1, if_pos g1, hp] at HFY
      have hrs : wrap64 (ff + k) = ff + k := wrap64_id (hp ▸ floor_range g1.1 g2)
      change Hid (∀ U, Calls Try.prog _ _ U fun e w' => e = .returned (.tuple #[rtv yn yd, .int .i64 0]) ∧ Fr0 U w') at HAD
      clear hp g1 g2 g3 HPL HGO HER
      go_enter Try.func4, Try.ntmps4
      go_wp2_with (first
        | (go_at_call 16; (with_reducible refine (HFL.out _).mono ?_); rintro _ w3 ⟨rfl, hf3⟩; obtain ⟨x0, x1, _, _⟩ := two_facts (hf3.blk HB.out (fun h => h)))
        | (go_at_call 17; (with_reducible refine (HCE.out _).mono ?_); rintro _ w4 ⟨rfl, hf4⟩; obtain ⟨y0, y1, _, _⟩ := two_facts ((hf3.trans hf4).blk HB.out (fun h => h)))
        | (go_at_call 16; (with_reducible refine (HFN.out _).mono ?_); rintro _ w5 ⟨rfl, hf5⟩; obtain ⟨z0, z1, _, _⟩ := two_facts (((hf3.trans hf4).trans hf5).blk HB.out (fun h => h)))
        | (go_at_call 18; (with_reducible refine (HAD.out _).mono ?_); rintro _ w6 ⟨rfl, hf6⟩; obtain ⟨u0, u1, _, _⟩ := two_facts (heap_alloc_new w6 (.cells (rtc yn yd) 23)))
        | (go_at_call 16; (with_reducible refine (HFY.out _).mono ?_); rintro _ w7 ⟨rfl, hf7⟩)
        | (go_at_call 15; (with_reducible refine (HKN.out _).mono ?_); rintro _ w8 ⟨rfl, hf8⟩)
        | fail)
      go_ret
      exact ⟨rfl, ((((((HF.out.trans hf3).trans hf4).trans hf5).trans hf6).alloc _).trans hf7).trans hf8⟩
  · rw [if_neg hok, if_neg hok] at HFL HCE
    clear hok
    go_enter Try.func4, Try.ntmps4
    go_wp2_with (first
      | (go_at_call 16; (with_reducible refine (HFL.out _).mono ?_); rintro _ w3 ⟨rfl, hf3⟩; obtain ⟨x0, x1, _, _⟩ := two_facts (hf3.blk HB.out (fun h => h)))
      | (go_at_call 17; (with_reducible refine (HCE.out _).mono ?_); rintro _ w4 ⟨rfl, hf4⟩)
      | (go_at_call 15; (with_reducible refine (HKN.out _).mono ?_); rintro _ w8 ⟨rfl, hf8⟩)
      | fail)
    go_ret
    exact ⟨rfl, ((HF.out.trans hf3).trans hf4).trans hf8⟩
end Go.Proofs.Ytdakeenjeieekaa
