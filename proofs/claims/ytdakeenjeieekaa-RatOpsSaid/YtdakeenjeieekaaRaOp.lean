/- Chapter 01: RatOps walked (written by genRaOp.py). -/
import Derived.Test.YtdakeenjeieekaaRaX
import Derived.Test.YtdakeenjeieekaaRaY
import Derived.Test.YtdakeenjeieekaaRb8
import Derived.Test.YtdakeenjeieekaaRc3
set_option linter.unusedVariables false
set_option linter.unusedSimpArgs false
namespace Go.Proofs.Ytdakeenjeieekaa
open Go.RowKit
attribute [local go_sem] Oper.semAt_some

theorem told_same (x y k : Int) (w : World) : Calls Try.prog 22 #[rtv x y, .int .i64 k, rtv x y, .int .i64 k] w fun e w' => e = .returned (.bool true) ∧ Fr0 w w' := by
  have heq := fun (U : World) => eq_rat x y x y U
  simp only [and_self, decide_true] at heq
  have hb := blk_alloc (heap_alloc_new w (.cells (rtc x y) 23)) (.cells (rtc x y) 23)
  have hb2 := heap_an (w := w.alloc (.cells (rtc x y) 23)) (k := w.heap.size + 1) (.cells (rtc x y) 23) (by simp)
  have HF := Lib.hid (((Fr.refl (fun _ => False) w).alloc (.cells (rtc x y) 23)).alloc (.cells (rtc x y) 23))
  obtain ⟨a0, a1, _, _⟩ := two_facts hb
  obtain ⟨b0, b1, _, _⟩ := two_facts hb2
  clear hb hb2
  go_enter Try.func22, Try.ntmps22
  go_wp2_with fail
  go_ret
  exact ⟨rfl, HF.out⟩
set_option maxHeartbeats 4000000 in
theorem ops_yes (an ad bn be cn a1 b1 k1 a2 b2 k2 a3 b3 k3 a4 b4 k4 : Int) (HA : Hid (∀ U, Calls Try.prog 18 #[rtv an ad, rtv bn be] U fun e w' => e = .returned (.tuple #[rtv a1 b1, .int .i64 k1]) ∧ Fr0 U w'))
    (HS : Hid (∀ U, Calls Try.prog 20 #[rtv an ad, rtv bn be] U fun e w' => e = .returned (.tuple #[rtv a2 b2, .int .i64 k2]) ∧ Fr0 U w'))
    (HM : Hid (∀ U, Calls Try.prog 21 #[rtv an ad, rtv bn be] U fun e w' => e = .returned (.tuple #[rtv a3 b3, .int .i64 k3]) ∧ Fr0 U w'))
    (HD : Hid (∀ U, Calls Try.prog 19 #[rtv an ad, rtv bn be] U fun e w' => e = .returned (.tuple #[rtv a4 b4, .int .i64 k4]) ∧ Fr0 U w'))
    (HP : Hid (∀ U, Calls Try.prog 23 #[rtv an ad, rtv bn be] U fun e w' => e = .returned (.tuple #[rtv a1 b1, .int .i64 k1]) ∧ Fr0 U w'))
    (HN : Hid (∀ U, Calls Try.prog 24 #[rtv bn be] U fun e w' => e = .returned (rtv cn be) ∧ Fr0 U w'))
    (HP2 : Hid (∀ U, Calls Try.prog 23 #[rtv an ad, rtv cn be] U fun e w' => e = .returned (.tuple #[rtv a2 b2, .int .i64 k2]) ∧ Fr0 U w'))
    (HT : Hid (∀ U, Calls Try.prog 25 #[rtv an ad, rtv bn be] U fun e w' => e = .returned (.tuple #[rtv a3 b3, .int .i64 k3]) ∧ Fr0 U w'))
    (HY : Hid (∀ U, Calls Try.prog 26 #[rtv an ad, rtv bn be] U fun e w' => e = .returned (.tuple #[rtv a4 b4, .int .i64 k4]) ∧ Fr0 U w'))
    (HRa : Hid (∀ U, Calls Try.prog 14 #[rtv an ad] U fun e w' => e = .returned (.bool true) ∧ Fr0 U w'))
    (HRb : Hid (∀ U, Calls Try.prog 14 #[rtv bn be] U fun e w' => e = .returned (.bool true) ∧ Fr0 U w'))
    (w : World) : Calls Try.prog 6 #[rtv an ad, rtv bn be] w fun e w' => e = .returned (.bool true) ∧ Fr0 w w' := by
  have hmx : Try.prog.follows .mixedOrders = true := by kernel_rfl
  have HK := Lib.hid known_calls
  have KA0 := Lib.hid (blk_alloc (heap_alloc_new w (.cells (rtc an ad) 23)) (.cells (rtc bn be) 23))
  have KB0 := Lib.hid (heap_an (w := w.alloc (.cells (rtc an ad) 23)) (k := w.heap.size + 1) (.cells (rtc bn be) 23) (by simp))
  have KF0 := Lib.hid (((Fr.refl (fun _ => False) w).alloc (.cells (rtc an ad) 23)).alloc (.cells (rtc bn be) 23))
  obtain ⟨ca0, ca1, _, _⟩ := two_facts KA0.out
  obtain ⟨cb0, cb1, _, _⟩ := two_facts KB0.out
  go_enter Try.func6, Try.ntmps6
  go_upto_region 9 with (first
    | (go_at_call 18; (with_reducible refine (HA.out _).mono ?_); rintro _ v1 ⟨rfl, hf1⟩; have KA1 := Lib.hid (blk_alloc (hf1.blk KA0.out (fun h => h)) (.cells (rtc a1 b1) 23)); have KB1 := Lib.hid (blk_alloc (hf1.blk KB0.out (fun h => h)) (.cells (rtc a1 b1) 23)); have K11 := Lib.hid (heap_alloc_new v1 (.cells (rtc a1 b1) 23)); have KF1 := Lib.hid ((KF0.out.trans hf1).alloc (.cells (rtc a1 b1) 23)); clear KA0 KB0 KF0 hf1; obtain ⟨_, _, _, _⟩ := two_facts KA1.out; obtain ⟨_, _, _, _⟩ := two_facts KB1.out)
    | (go_at_call 20; (with_reducible refine (HS.out _).mono ?_); rintro _ v2 ⟨rfl, hf2⟩; have KA2 := Lib.hid (blk_alloc (hf2.blk KA1.out (fun h => h)) (.cells (rtc a2 b2) 23)); have KB2 := Lib.hid (blk_alloc (hf2.blk KB1.out (fun h => h)) (.cells (rtc a2 b2) 23)); have K12 := Lib.hid (blk_alloc (hf2.blk K11.out (fun h => h)) (.cells (rtc a2 b2) 23)); have K22 := Lib.hid (heap_alloc_new v2 (.cells (rtc a2 b2) 23)); have KF2 := Lib.hid ((KF1.out.trans hf2).alloc (.cells (rtc a2 b2) 23)); clear KA1 KB1 K11 KF1 hf2; obtain ⟨_, _, _, _⟩ := two_facts KA2.out; obtain ⟨_, _, _, _⟩ := two_facts KB2.out)
    | (go_at_call 21; (with_reducible refine (HM.out _).mono ?_); rintro _ v3 ⟨rfl, hf3⟩; have KA3 := Lib.hid (blk_alloc (hf3.blk KA2.out (fun h => h)) (.cells (rtc a3 b3) 23)); have KB3 := Lib.hid (blk_alloc (hf3.blk KB2.out (fun h => h)) (.cells (rtc a3 b3) 23)); have K13 := Lib.hid (blk_alloc (hf3.blk K12.out (fun h => h)) (.cells (rtc a3 b3) 23)); have K23 := Lib.hid (blk_alloc (hf3.blk K22.out (fun h => h)) (.cells (rtc a3 b3) 23)); have K33 := Lib.hid (heap_alloc_new v3 (.cells (rtc a3 b3) 23)); have KF3 := Lib.hid ((KF2.out.trans hf3).alloc (.cells (rtc a3 b3) 23)); clear KA2 KB2 K12 K22 KF2 hf3; obtain ⟨_, _, _, _⟩ := two_facts KA3.out; obtain ⟨_, _, _, _⟩ := two_facts KB3.out)
    | (go_at_call 19; (with_reducible refine (HD.out _).mono ?_); rintro _ v4 ⟨rfl, hf4⟩; have KA4 := Lib.hid (blk_alloc (hf4.blk KA3.out (fun h => h)) (.cells (rtc a4 b4) 23)); have KB4 := Lib.hid (blk_alloc (hf4.blk KB3.out (fun h => h)) (.cells (rtc a4 b4) 23)); have K14 := Lib.hid (blk_alloc (hf4.blk K13.out (fun h => h)) (.cells (rtc a4 b4) 23)); have K24 := Lib.hid (blk_alloc (hf4.blk K23.out (fun h => h)) (.cells (rtc a4 b4) 23)); have K34 := Lib.hid (blk_alloc (hf4.blk K33.out (fun h => h)) (.cells (rtc a4 b4) 23)); have K44 := Lib.hid (heap_alloc_new v4 (.cells (rtc a4 b4) 23)); have KF4 := Lib.hid ((KF3.out.trans hf4).alloc (.cells (rtc a4 b4) 23)); clear KA3 KB3 K13 K23 K33 KF3 hf4; obtain ⟨_, _, _, _⟩ := two_facts KA4.out; obtain ⟨_, _, _, _⟩ := two_facts KB4.out)
    | (go_at_call 14; (with_reducible refine (HRa.out _).mono ?_); rintro _ v5 ⟨rfl, hf5⟩; have KA5 := Lib.hid (hf5.blk KA4.out (fun h => h)); have KB5 := Lib.hid (hf5.blk KB4.out (fun h => h)); have K15 := Lib.hid (hf5.blk K14.out (fun h => h)); have K25 := Lib.hid (hf5.blk K24.out (fun h => h)); have K35 := Lib.hid (hf5.blk K34.out (fun h => h)); have K45 := Lib.hid (hf5.blk K44.out (fun h => h)); have KF5 := Lib.hid (KF4.out.trans hf5); clear KA4 KB4 K14 K24 K34 K44 KF4 hf5; obtain ⟨_, _, _, _⟩ := two_facts KA5.out; obtain ⟨_, _, _, _⟩ := two_facts KB5.out)
    | (go_at_call 14; (with_reducible refine (HRb.out _).mono ?_); rintro _ v6 ⟨rfl, hf6⟩; have KA6 := Lib.hid (hf6.blk KA5.out (fun h => h)); have KB6 := Lib.hid (hf6.blk KB5.out (fun h => h)); have K16 := Lib.hid (hf6.blk K15.out (fun h => h)); have K26 := Lib.hid (hf6.blk K25.out (fun h => h)); have K36 := Lib.hid (hf6.blk K35.out (fun h => h)); have K46 := Lib.hid (hf6.blk K45.out (fun h => h)); have KF6 := Lib.hid (KF5.out.trans hf6); clear KA5 KB5 K15 K25 K35 K45 KF5 hf6; obtain ⟨_, _, _, _⟩ := two_facts KA6.out; obtain ⟨_, _, _, _⟩ := two_facts KB6.out)
    | (go_at_call 23; (with_reducible refine (HP.out _).mono ?_); rintro _ v7 ⟨rfl, hf7⟩; have KA7 := Lib.hid (blk_alloc (hf7.blk KA6.out (fun h => h)) (.cells (rtc a1 b1) 23)); have KB7 := Lib.hid (blk_alloc (hf7.blk KB6.out (fun h => h)) (.cells (rtc a1 b1) 23)); have K17 := Lib.hid (blk_alloc (hf7.blk K16.out (fun h => h)) (.cells (rtc a1 b1) 23)); have K27 := Lib.hid (blk_alloc (hf7.blk K26.out (fun h => h)) (.cells (rtc a1 b1) 23)); have K37 := Lib.hid (blk_alloc (hf7.blk K36.out (fun h => h)) (.cells (rtc a1 b1) 23)); have K47 := Lib.hid (blk_alloc (hf7.blk K46.out (fun h => h)) (.cells (rtc a1 b1) 23)); have K57 := Lib.hid (heap_alloc_new v7 (.cells (rtc a1 b1) 23)); have KF7 := Lib.hid ((KF6.out.trans hf7).alloc (.cells (rtc a1 b1) 23)); clear KA6 KB6 K16 K26 K36 K46 KF6 hf7; obtain ⟨_, _, _, _⟩ := two_facts KA7.out; obtain ⟨_, _, _, _⟩ := two_facts KB7.out)
    | fail)
  generalize v7.alloc (.cells (rtc a1 b1) 23) = W7 at *
  have hblkA := KA7.out
  have hblkB := KB7.out
  have hblk1 := K17.out
  have hblk2 := K27.out
  have hblk3 := K37.out
  have hblk4 := K47.out
  have hblk5 := K57.out
  go_cut [16, 17] from 86 to 92 (fun s16 s17 wx => ∃ p, s16 = .pointer (some ⟨p, 0, none⟩) ∧ s17 = .int .i64 k2 ∧ Hid (wx.heap[p]? = some (.cells (rtc a2 b2) 23 (0, 0))) ∧ Hid (Fr0 W7 wx))
  case first =>
    refine wp_region_noPanic ?_
    refine takesL_ex [0, 1, 2, 3, 4, 5, 6] (fun U => Fr0 W7 U) (fun _ _ h k => h.trans k) (Fr.refl _ _) hmx (fun _ _ _ _ _ h => h) (by kernel_rfl) (by kernel_rfl) ?_
    apply Exists.intro
    refine ⟨fun W' hW' => ?_, ?_⟩
    · obtain ⟨y0, y1, _, _⟩ := two_facts (hW'.blk KA7.out (fun h => h))
      obtain ⟨z0, z1, _, _⟩ := two_facts (hW'.blk KB7.out (fun h => h))
      have r0 := cg_cell (W := W') y0
      have r1 := cg_cell (W := W') y1
      have r2 := cg_cell (W := W') z0
      have r3 := cg_cell (W := W') z1
      clear y0 y1 z0 z1
      simp only [pickL, List.getElem?_cons_zero, List.getElem?_cons_succ]
      repeat (first
        | go_big_quiet_step (fail)
        | go_big_quiet_step (first
          | ((go_at_call 24; with_reducible exact quiet_cg (HN.out _)))
          | ((go_at_call 23; with_reducible exact quiet_cg (HP2.out _)))))
      exact wpQuiet_nil rfl
    · refine wpAnyG_ready (f := 2) (rs := [7]) (by kernel_rfl) (by simp) ?_
      refine allG_make (some 16) (.cells (rtc 0 0) 23) rfl rfl (by kernel_rfl) (fun U => run_alloc rfl U) (fun U hU => ⟨hU.alloc _, ?_⟩) AllG.nil
      refine wpAnyG_ready (f := 1) (rs := [8]) (by kernel_rfl) (by simp) ?_
      have hsz := hU.size
      have hB0 := heap_alloc_new U (.cells (rtc 0 0) 23)
      have hF0 := hU.alloc (.cells (rtc 0 0) 23)
      refine allG_turn (ratAt U.heap.size a2 b2) rfl (by kernel_rfl) rfl (fun V hV => run_store (v1 := .pointer (some ⟨U.heap.size, 0, none⟩)) (v2 := rtv a2 b2) rfl (by kernel_rfl) rfl (by kernel_rfl) rfl (hV.blk hB0 (fun h => h))) (fun V hV => ⟨two_fr (hF0.trans hV) (by omega) _ _, ?_⟩) AllG.nil
      have hB1 := two_set (hV.blk hB0 (fun h => h)) (.int .i64 a2) (.int .i64 b2)
      have hF1 := two_fr (b := U.heap.size) (hF0.trans hV) (by omega) (.int .i64 a2) (.int .i64 b2)
      refine wpAnyG_ready (f := 0) (rs := [9]) (by kernel_rfl) (by simp) ?_
      refine allG_value (some 17) (.int .i64 k2) rfl rfl (by kernel_rfl) (fun _ => by kernel_rfl) (fun V2 hV2 => ⟨hF1.trans hV2, ?_⟩) AllG.nil
      refine wpAnyG_done (by kernel_rfl) (fun V3 hV3 => ?_)
      refine NoPanic.normal ?_
      have HBV := Lib.hid (hV3.blk (hV2.blk hB1 (fun h => h)) (fun h => h))
      have HFV := Lib.hid ((hF1.trans hV2).trans hV3)
      clear hsz hB0 hF0 hV hB1 hF1 hV2 hV3 hU
      simp only [Act.put, List.setIfInBounds_toArray, List.set_cons_zero, List.set_cons_succ]
      generalize U.heap.size = p7 at *
      go_wp2_with fail
      go_meet
      exact ⟨p7, rfl, rfl, HBV, HFV⟩
  case rest =>
    obtain ⟨p6, rfl, rfl, HB6, HF6⟩ := hcut
    have KCA := Lib.hid (HF6.out.blk KA7.out (fun h => h))
    have KCB := Lib.hid (HF6.out.blk KB7.out (fun h => h))
    have KC1 := Lib.hid (HF6.out.blk K17.out (fun h => h))
    have KC2 := Lib.hid (HF6.out.blk K27.out (fun h => h))
    have KC3 := Lib.hid (HF6.out.blk K37.out (fun h => h))
    have KC4 := Lib.hid (HF6.out.blk K47.out (fun h => h))
    have KC5 := Lib.hid (HF6.out.blk K57.out (fun h => h))
    have KCF := Lib.hid (KF7.out.trans HF6.out)
    clear hblkA hblkB hblk1 hblk2 hblk3 hblk4 hblk5 KA7 KB7 K17 K27 K37 K47 K57 KF7 HF6
    obtain ⟨_, _, _, _⟩ := two_facts KCA.out
    obtain ⟨_, _, _, _⟩ := two_facts KCB.out
    go_wp2_with (first
      | (go_at_call 25; (with_reducible refine (HT.out _).mono ?_); rintro _ v8 ⟨rfl, hf8⟩; have KA8 := Lib.hid (blk_alloc (hf8.blk KCA.out (fun h => h)) (.cells (rtc a3 b3) 23)); have KB8 := Lib.hid (blk_alloc (hf8.blk KCB.out (fun h => h)) (.cells (rtc a3 b3) 23)); have K18 := Lib.hid (blk_alloc (hf8.blk KC1.out (fun h => h)) (.cells (rtc a3 b3) 23)); have K28 := Lib.hid (blk_alloc (hf8.blk KC2.out (fun h => h)) (.cells (rtc a3 b3) 23)); have K38 := Lib.hid (blk_alloc (hf8.blk KC3.out (fun h => h)) (.cells (rtc a3 b3) 23)); have K48 := Lib.hid (blk_alloc (hf8.blk KC4.out (fun h => h)) (.cells (rtc a3 b3) 23)); have K58 := Lib.hid (blk_alloc (hf8.blk KC5.out (fun h => h)) (.cells (rtc a3 b3) 23)); have K68 := Lib.hid (blk_alloc (hf8.blk HB6.out (fun h => h)) (.cells (rtc a3 b3) 23)); have K78 := Lib.hid (heap_alloc_new v8 (.cells (rtc a3 b3) 23)); have KF8 := Lib.hid ((KCF.out.trans hf8).alloc (.cells (rtc a3 b3) 23)); clear KCA KCB KC1 KC2 KC3 KC4 KC5 HB6 KCF hf8; obtain ⟨_, _, _, _⟩ := two_facts KA8.out; obtain ⟨_, _, _, _⟩ := two_facts KB8.out)
      | (go_at_call 26; (with_reducible refine (HY.out _).mono ?_); rintro _ v9 ⟨rfl, hf9⟩; have KA9 := Lib.hid (blk_alloc (hf9.blk KA8.out (fun h => h)) (.cells (rtc a4 b4) 23)); have KB9 := Lib.hid (blk_alloc (hf9.blk KB8.out (fun h => h)) (.cells (rtc a4 b4) 23)); have K19 := Lib.hid (blk_alloc (hf9.blk K18.out (fun h => h)) (.cells (rtc a4 b4) 23)); have K29 := Lib.hid (blk_alloc (hf9.blk K28.out (fun h => h)) (.cells (rtc a4 b4) 23)); have K39 := Lib.hid (blk_alloc (hf9.blk K38.out (fun h => h)) (.cells (rtc a4 b4) 23)); have K49 := Lib.hid (blk_alloc (hf9.blk K48.out (fun h => h)) (.cells (rtc a4 b4) 23)); have K59 := Lib.hid (blk_alloc (hf9.blk K58.out (fun h => h)) (.cells (rtc a4 b4) 23)); have K69 := Lib.hid (blk_alloc (hf9.blk K68.out (fun h => h)) (.cells (rtc a4 b4) 23)); have K79 := Lib.hid (blk_alloc (hf9.blk K78.out (fun h => h)) (.cells (rtc a4 b4) 23)); have K89 := Lib.hid (heap_alloc_new v9 (.cells (rtc a4 b4) 23)); have KF9 := Lib.hid ((KF8.out.trans hf9).alloc (.cells (rtc a4 b4) 23)); clear KA8 KB8 K18 K28 K38 K48 K58 K68 K78 KF8 hf9; obtain ⟨_, _, _, _⟩ := two_facts K19.out; obtain ⟨_, _, _, _⟩ := two_facts K59.out)
      | (go_at_call 22; (with_reducible refine (told_same a1 b1 k1 _).mono ?_); rintro _ v10 ⟨rfl, hf10⟩; have KA10 := Lib.hid (hf10.blk KA9.out (fun h => h)); have KB10 := Lib.hid (hf10.blk KB9.out (fun h => h)); have K110 := Lib.hid (hf10.blk K19.out (fun h => h)); have K210 := Lib.hid (hf10.blk K29.out (fun h => h)); have K310 := Lib.hid (hf10.blk K39.out (fun h => h)); have K410 := Lib.hid (hf10.blk K49.out (fun h => h)); have K510 := Lib.hid (hf10.blk K59.out (fun h => h)); have K610 := Lib.hid (hf10.blk K69.out (fun h => h)); have K710 := Lib.hid (hf10.blk K79.out (fun h => h)); have K810 := Lib.hid (hf10.blk K89.out (fun h => h)); have KF10 := Lib.hid (KF9.out.trans hf10); clear KA9 KB9 K19 K29 K39 K49 K59 K69 K79 K89 KF9 hf10; obtain ⟨_, _, _, _⟩ := two_facts K210.out; obtain ⟨_, _, _, _⟩ := two_facts K610.out)
      | (go_at_call 22; (with_reducible refine (told_same a2 b2 k2 _).mono ?_); rintro _ v11 ⟨rfl, hf11⟩; have KA11 := Lib.hid (hf11.blk KA10.out (fun h => h)); have KB11 := Lib.hid (hf11.blk KB10.out (fun h => h)); have K111 := Lib.hid (hf11.blk K110.out (fun h => h)); have K211 := Lib.hid (hf11.blk K210.out (fun h => h)); have K311 := Lib.hid (hf11.blk K310.out (fun h => h)); have K411 := Lib.hid (hf11.blk K410.out (fun h => h)); have K511 := Lib.hid (hf11.blk K510.out (fun h => h)); have K611 := Lib.hid (hf11.blk K610.out (fun h => h)); have K711 := Lib.hid (hf11.blk K710.out (fun h => h)); have K811 := Lib.hid (hf11.blk K810.out (fun h => h)); have KF11 := Lib.hid (KF10.out.trans hf11); clear KA10 KB10 K110 K210 K310 K410 K510 K610 K710 K810 KF10 hf11; obtain ⟨_, _, _, _⟩ := two_facts K311.out; obtain ⟨_, _, _, _⟩ := two_facts K711.out)
      | (go_at_call 22; (with_reducible refine (told_same a3 b3 k3 _).mono ?_); rintro _ v12 ⟨rfl, hf12⟩; have KA12 := Lib.hid (hf12.blk KA11.out (fun h => h)); have KB12 := Lib.hid (hf12.blk KB11.out (fun h => h)); have K112 := Lib.hid (hf12.blk K111.out (fun h => h)); have K212 := Lib.hid (hf12.blk K211.out (fun h => h)); have K312 := Lib.hid (hf12.blk K311.out (fun h => h)); have K412 := Lib.hid (hf12.blk K411.out (fun h => h)); have K512 := Lib.hid (hf12.blk K511.out (fun h => h)); have K612 := Lib.hid (hf12.blk K611.out (fun h => h)); have K712 := Lib.hid (hf12.blk K711.out (fun h => h)); have K812 := Lib.hid (hf12.blk K811.out (fun h => h)); have KF12 := Lib.hid (KF11.out.trans hf12); clear KA11 KB11 K111 K211 K311 K411 K511 K611 K711 K811 KF11 hf12; obtain ⟨_, _, _, _⟩ := two_facts K412.out; obtain ⟨_, _, _, _⟩ := two_facts K812.out)
      | (go_at_call 22; (with_reducible refine (told_same a4 b4 k4 _).mono ?_); rintro _ v13 ⟨rfl, hf13⟩; have KA13 := Lib.hid (hf13.blk KA12.out (fun h => h)); have KB13 := Lib.hid (hf13.blk KB12.out (fun h => h)); have K113 := Lib.hid (hf13.blk K112.out (fun h => h)); have K213 := Lib.hid (hf13.blk K212.out (fun h => h)); have K313 := Lib.hid (hf13.blk K312.out (fun h => h)); have K413 := Lib.hid (hf13.blk K412.out (fun h => h)); have K513 := Lib.hid (hf13.blk K512.out (fun h => h)); have K613 := Lib.hid (hf13.blk K612.out (fun h => h)); have K713 := Lib.hid (hf13.blk K712.out (fun h => h)); have K813 := Lib.hid (hf13.blk K812.out (fun h => h)); have KF13 := Lib.hid (KF12.out.trans hf13); clear KA12 KB12 K112 K212 K312 K412 K512 K612 K712 K812 KF12 hf13)
      | (go_at_call 15; (with_reducible refine (HK.out _).mono ?_); rintro _ v14 ⟨rfl, hf14⟩; have KA14 := Lib.hid (hf14.blk KA13.out (fun h => h)); have KB14 := Lib.hid (hf14.blk KB13.out (fun h => h)); have K114 := Lib.hid (hf14.blk K113.out (fun h => h)); have K214 := Lib.hid (hf14.blk K213.out (fun h => h)); have K314 := Lib.hid (hf14.blk K313.out (fun h => h)); have K414 := Lib.hid (hf14.blk K413.out (fun h => h)); have K514 := Lib.hid (hf14.blk K513.out (fun h => h)); have K614 := Lib.hid (hf14.blk K613.out (fun h => h)); have K714 := Lib.hid (hf14.blk K713.out (fun h => h)); have K814 := Lib.hid (hf14.blk K813.out (fun h => h)); have KF14 := Lib.hid (KF13.out.trans hf14); clear KA13 KB13 K113 K213 K313 K413 K513 K613 K713 K813 KF13 hf14)
      | fail)
    go_ret
    exact ⟨rfl, KF14.out⟩
set_option maxHeartbeats 4000000 in
theorem ops_no1 (an ad bn be : Int) (HA : Hid (∀ U, Calls Try.prog 18 #[rtv an ad, rtv bn be] U fun e w' => e = .returned (.tuple #[rtv 0 0, .int .i64 2]) ∧ Fr0 U w'))
    (HS : Hid (∀ U, Calls Try.prog 20 #[rtv an ad, rtv bn be] U fun e w' => e = .returned (.tuple #[rtv 0 0, .int .i64 2]) ∧ Fr0 U w'))
    (HM : Hid (∀ U, Calls Try.prog 21 #[rtv an ad, rtv bn be] U fun e w' => e = .returned (.tuple #[rtv 0 0, .int .i64 2]) ∧ Fr0 U w'))
    (HD : Hid (∀ U, Calls Try.prog 19 #[rtv an ad, rtv bn be] U fun e w' => e = .returned (.tuple #[rtv 0 0, .int .i64 2]) ∧ Fr0 U w'))
    (HRa : Hid (∀ U, Calls Try.prog 14 #[rtv an ad] U fun e w' => e = .returned (.bool false) ∧ Fr0 U w'))
    (w : World) : Calls Try.prog 6 #[rtv an ad, rtv bn be] w fun e w' => e = .returned (.bool true) ∧ Fr0 w w' := by
  have HK := Lib.hid known_calls
  have KA0 := Lib.hid (blk_alloc (heap_alloc_new w (.cells (rtc an ad) 23)) (.cells (rtc bn be) 23))
  have KB0 := Lib.hid (heap_an (w := w.alloc (.cells (rtc an ad) 23)) (k := w.heap.size + 1) (.cells (rtc bn be) 23) (by simp))
  have KF0 := Lib.hid (((Fr.refl (fun _ => False) w).alloc (.cells (rtc an ad) 23)).alloc (.cells (rtc bn be) 23))
  obtain ⟨ca0, ca1, _, _⟩ := two_facts KA0.out
  obtain ⟨cb0, cb1, _, _⟩ := two_facts KB0.out
  go_enter Try.func6, Try.ntmps6
  go_wp2_with (first
    | (go_at_call 18; (with_reducible refine (HA.out _).mono ?_); rintro _ v1 ⟨rfl, hf1⟩; have KA1 := Lib.hid (blk_alloc (hf1.blk KA0.out (fun h => h)) (.cells (rtc 0 0) 23)); have KB1 := Lib.hid (blk_alloc (hf1.blk KB0.out (fun h => h)) (.cells (rtc 0 0) 23)); have K11 := Lib.hid (heap_alloc_new v1 (.cells (rtc 0 0) 23)); have KF1 := Lib.hid ((KF0.out.trans hf1).alloc (.cells (rtc 0 0) 23)); clear KA0 KB0 KF0 hf1; obtain ⟨_, _, _, _⟩ := two_facts KA1.out; obtain ⟨_, _, _, _⟩ := two_facts KB1.out)
    | (go_at_call 20; (with_reducible refine (HS.out _).mono ?_); rintro _ v2 ⟨rfl, hf2⟩; have KA2 := Lib.hid (blk_alloc (hf2.blk KA1.out (fun h => h)) (.cells (rtc 0 0) 23)); have KB2 := Lib.hid (blk_alloc (hf2.blk KB1.out (fun h => h)) (.cells (rtc 0 0) 23)); have K12 := Lib.hid (blk_alloc (hf2.blk K11.out (fun h => h)) (.cells (rtc 0 0) 23)); have K22 := Lib.hid (heap_alloc_new v2 (.cells (rtc 0 0) 23)); have KF2 := Lib.hid ((KF1.out.trans hf2).alloc (.cells (rtc 0 0) 23)); clear KA1 KB1 K11 KF1 hf2; obtain ⟨_, _, _, _⟩ := two_facts KA2.out; obtain ⟨_, _, _, _⟩ := two_facts KB2.out)
    | (go_at_call 21; (with_reducible refine (HM.out _).mono ?_); rintro _ v3 ⟨rfl, hf3⟩; have KA3 := Lib.hid (blk_alloc (hf3.blk KA2.out (fun h => h)) (.cells (rtc 0 0) 23)); have KB3 := Lib.hid (blk_alloc (hf3.blk KB2.out (fun h => h)) (.cells (rtc 0 0) 23)); have K13 := Lib.hid (blk_alloc (hf3.blk K12.out (fun h => h)) (.cells (rtc 0 0) 23)); have K23 := Lib.hid (blk_alloc (hf3.blk K22.out (fun h => h)) (.cells (rtc 0 0) 23)); have K33 := Lib.hid (heap_alloc_new v3 (.cells (rtc 0 0) 23)); have KF3 := Lib.hid ((KF2.out.trans hf3).alloc (.cells (rtc 0 0) 23)); clear KA2 KB2 K12 K22 KF2 hf3; obtain ⟨_, _, _, _⟩ := two_facts KA3.out; obtain ⟨_, _, _, _⟩ := two_facts KB3.out)
    | (go_at_call 19; (with_reducible refine (HD.out _).mono ?_); rintro _ v4 ⟨rfl, hf4⟩; have KA4 := Lib.hid (blk_alloc (hf4.blk KA3.out (fun h => h)) (.cells (rtc 0 0) 23)); have KB4 := Lib.hid (blk_alloc (hf4.blk KB3.out (fun h => h)) (.cells (rtc 0 0) 23)); have K14 := Lib.hid (blk_alloc (hf4.blk K13.out (fun h => h)) (.cells (rtc 0 0) 23)); have K24 := Lib.hid (blk_alloc (hf4.blk K23.out (fun h => h)) (.cells (rtc 0 0) 23)); have K34 := Lib.hid (blk_alloc (hf4.blk K33.out (fun h => h)) (.cells (rtc 0 0) 23)); have K44 := Lib.hid (heap_alloc_new v4 (.cells (rtc 0 0) 23)); have KF4 := Lib.hid ((KF3.out.trans hf4).alloc (.cells (rtc 0 0) 23)); clear KA3 KB3 K13 K23 K33 KF3 hf4; obtain ⟨_, _, _, _⟩ := two_facts KA4.out; obtain ⟨_, _, _, _⟩ := two_facts KB4.out)
    | (go_at_call 14; (with_reducible refine (HRa.out _).mono ?_); rintro _ v5 ⟨rfl, hf5⟩; have KA5 := Lib.hid (blk_alloc (hf5.blk KA4.out (fun h => h)) (.cells (rtc 0 0) 23)); have KB5 := Lib.hid (blk_alloc (hf5.blk KB4.out (fun h => h)) (.cells (rtc 0 0) 23)); have K15 := Lib.hid (blk_alloc (hf5.blk K14.out (fun h => h)) (.cells (rtc 0 0) 23)); have K25 := Lib.hid (blk_alloc (hf5.blk K24.out (fun h => h)) (.cells (rtc 0 0) 23)); have K35 := Lib.hid (blk_alloc (hf5.blk K34.out (fun h => h)) (.cells (rtc 0 0) 23)); have K45 := Lib.hid (blk_alloc (hf5.blk K44.out (fun h => h)) (.cells (rtc 0 0) 23)); have KN5 := Lib.hid (heap_alloc_new v5 (.cells (rtc 0 0) 23)); have KF5 := Lib.hid ((KF4.out.trans hf5).alloc (.cells (rtc 0 0) 23)); clear KA4 KB4 K14 K24 K34 K44 KF4 hf5; obtain ⟨_, _, _, _⟩ := two_facts K15.out; obtain ⟨_, _, _, _⟩ := two_facts KN5.out)
    | (go_at_call 22; (with_reducible refine (told_same 0 0 2 _).mono ?_); rintro _ v9 ⟨rfl, hf9⟩; have KA9 := Lib.hid (hf9.blk KA8.out (fun h => h)); have KB9 := Lib.hid (hf9.blk KB8.out (fun h => h)); have K19 := Lib.hid (hf9.blk K18.out (fun h => h)); have K29 := Lib.hid (hf9.blk K28.out (fun h => h)); have K39 := Lib.hid (hf9.blk K38.out (fun h => h)); have K49 := Lib.hid (hf9.blk K48.out (fun h => h)); have KN9 := Lib.hid (hf9.blk KN8.out (fun h => h)); have KF9 := Lib.hid (KF8.out.trans hf9); clear KA8 KB8 K18 K28 K38 K48 KN8 KF8 hf9)
    | (go_at_call 22; (with_reducible refine (told_same 0 0 2 _).mono ?_); rintro _ v8 ⟨rfl, hf8⟩; have KA8 := Lib.hid (hf8.blk KA7.out (fun h => h)); have KB8 := Lib.hid (hf8.blk KB7.out (fun h => h)); have K18 := Lib.hid (hf8.blk K17.out (fun h => h)); have K28 := Lib.hid (hf8.blk K27.out (fun h => h)); have K38 := Lib.hid (hf8.blk K37.out (fun h => h)); have K48 := Lib.hid (hf8.blk K47.out (fun h => h)); have KN8 := Lib.hid (hf8.blk KN7.out (fun h => h)); have KF8 := Lib.hid (KF7.out.trans hf8); clear KA7 KB7 K17 K27 K37 K47 KN7 KF7 hf8; obtain ⟨_, _, _, _⟩ := two_facts K48.out; obtain ⟨_, _, _, _⟩ := two_facts KN8.out)
    | (go_at_call 22; (with_reducible refine (told_same 0 0 2 _).mono ?_); rintro _ v7 ⟨rfl, hf7⟩; have KA7 := Lib.hid (hf7.blk KA6.out (fun h => h)); have KB7 := Lib.hid (hf7.blk KB6.out (fun h => h)); have K17 := Lib.hid (hf7.blk K16.out (fun h => h)); have K27 := Lib.hid (hf7.blk K26.out (fun h => h)); have K37 := Lib.hid (hf7.blk K36.out (fun h => h)); have K47 := Lib.hid (hf7.blk K46.out (fun h => h)); have KN7 := Lib.hid (hf7.blk KN6.out (fun h => h)); have KF7 := Lib.hid (KF6.out.trans hf7); clear KA6 KB6 K16 K26 K36 K46 KN6 KF6 hf7; obtain ⟨_, _, _, _⟩ := two_facts K37.out; obtain ⟨_, _, _, _⟩ := two_facts KN7.out)
    | (go_at_call 22; (with_reducible refine (told_same 0 0 2 _).mono ?_); rintro _ v6 ⟨rfl, hf6⟩; have KA6 := Lib.hid (hf6.blk KA5.out (fun h => h)); have KB6 := Lib.hid (hf6.blk KB5.out (fun h => h)); have K16 := Lib.hid (hf6.blk K15.out (fun h => h)); have K26 := Lib.hid (hf6.blk K25.out (fun h => h)); have K36 := Lib.hid (hf6.blk K35.out (fun h => h)); have K46 := Lib.hid (hf6.blk K45.out (fun h => h)); have KN6 := Lib.hid (hf6.blk KN5.out (fun h => h)); have KF6 := Lib.hid (KF5.out.trans hf6); clear KA5 KB5 K15 K25 K35 K45 KN5 KF5 hf6; obtain ⟨_, _, _, _⟩ := two_facts K26.out; obtain ⟨_, _, _, _⟩ := two_facts KN6.out)
    | (go_at_call 15; (with_reducible refine (HK.out _).mono ?_); rintro _ v10 ⟨rfl, hf10⟩; have KA10 := Lib.hid (hf10.blk KA9.out (fun h => h)); have KB10 := Lib.hid (hf10.blk KB9.out (fun h => h)); have K110 := Lib.hid (hf10.blk K19.out (fun h => h)); have K210 := Lib.hid (hf10.blk K29.out (fun h => h)); have K310 := Lib.hid (hf10.blk K39.out (fun h => h)); have K410 := Lib.hid (hf10.blk K49.out (fun h => h)); have KN10 := Lib.hid (hf10.blk KN9.out (fun h => h)); have KF10 := Lib.hid (KF9.out.trans hf10); clear KA9 KB9 K19 K29 K39 K49 KN9 KF9 hf10)
    | fail)
  go_ret
  exact ⟨rfl, KF10.out⟩
set_option maxHeartbeats 4000000 in
theorem ops_no2 (an ad bn be : Int) (HA : Hid (∀ U, Calls Try.prog 18 #[rtv an ad, rtv bn be] U fun e w' => e = .returned (.tuple #[rtv 0 0, .int .i64 2]) ∧ Fr0 U w'))
    (HS : Hid (∀ U, Calls Try.prog 20 #[rtv an ad, rtv bn be] U fun e w' => e = .returned (.tuple #[rtv 0 0, .int .i64 2]) ∧ Fr0 U w'))
    (HM : Hid (∀ U, Calls Try.prog 21 #[rtv an ad, rtv bn be] U fun e w' => e = .returned (.tuple #[rtv 0 0, .int .i64 2]) ∧ Fr0 U w'))
    (HD : Hid (∀ U, Calls Try.prog 19 #[rtv an ad, rtv bn be] U fun e w' => e = .returned (.tuple #[rtv 0 0, .int .i64 2]) ∧ Fr0 U w'))
    (HRa : Hid (∀ U, Calls Try.prog 14 #[rtv an ad] U fun e w' => e = .returned (.bool true) ∧ Fr0 U w'))
    (HRb : Hid (∀ U, Calls Try.prog 14 #[rtv bn be] U fun e w' => e = .returned (.bool false) ∧ Fr0 U w'))
    (w : World) : Calls Try.prog 6 #[rtv an ad, rtv bn be] w fun e w' => e = .returned (.bool true) ∧ Fr0 w w' := by
  have HK := Lib.hid known_calls
  have KA0 := Lib.hid (blk_alloc (heap_alloc_new w (.cells (rtc an ad) 23)) (.cells (rtc bn be) 23))
  have KB0 := Lib.hid (heap_an (w := w.alloc (.cells (rtc an ad) 23)) (k := w.heap.size + 1) (.cells (rtc bn be) 23) (by simp))
  have KF0 := Lib.hid (((Fr.refl (fun _ => False) w).alloc (.cells (rtc an ad) 23)).alloc (.cells (rtc bn be) 23))
  obtain ⟨ca0, ca1, _, _⟩ := two_facts KA0.out
  obtain ⟨cb0, cb1, _, _⟩ := two_facts KB0.out
  go_enter Try.func6, Try.ntmps6
  go_wp2_with (first
    | (go_at_call 18; (with_reducible refine (HA.out _).mono ?_); rintro _ v1 ⟨rfl, hf1⟩; have KA1 := Lib.hid (blk_alloc (hf1.blk KA0.out (fun h => h)) (.cells (rtc 0 0) 23)); have KB1 := Lib.hid (blk_alloc (hf1.blk KB0.out (fun h => h)) (.cells (rtc 0 0) 23)); have K11 := Lib.hid (heap_alloc_new v1 (.cells (rtc 0 0) 23)); have KF1 := Lib.hid ((KF0.out.trans hf1).alloc (.cells (rtc 0 0) 23)); clear KA0 KB0 KF0 hf1; obtain ⟨_, _, _, _⟩ := two_facts KA1.out; obtain ⟨_, _, _, _⟩ := two_facts KB1.out)
    | (go_at_call 20; (with_reducible refine (HS.out _).mono ?_); rintro _ v2 ⟨rfl, hf2⟩; have KA2 := Lib.hid (blk_alloc (hf2.blk KA1.out (fun h => h)) (.cells (rtc 0 0) 23)); have KB2 := Lib.hid (blk_alloc (hf2.blk KB1.out (fun h => h)) (.cells (rtc 0 0) 23)); have K12 := Lib.hid (blk_alloc (hf2.blk K11.out (fun h => h)) (.cells (rtc 0 0) 23)); have K22 := Lib.hid (heap_alloc_new v2 (.cells (rtc 0 0) 23)); have KF2 := Lib.hid ((KF1.out.trans hf2).alloc (.cells (rtc 0 0) 23)); clear KA1 KB1 K11 KF1 hf2; obtain ⟨_, _, _, _⟩ := two_facts KA2.out; obtain ⟨_, _, _, _⟩ := two_facts KB2.out)
    | (go_at_call 21; (with_reducible refine (HM.out _).mono ?_); rintro _ v3 ⟨rfl, hf3⟩; have KA3 := Lib.hid (blk_alloc (hf3.blk KA2.out (fun h => h)) (.cells (rtc 0 0) 23)); have KB3 := Lib.hid (blk_alloc (hf3.blk KB2.out (fun h => h)) (.cells (rtc 0 0) 23)); have K13 := Lib.hid (blk_alloc (hf3.blk K12.out (fun h => h)) (.cells (rtc 0 0) 23)); have K23 := Lib.hid (blk_alloc (hf3.blk K22.out (fun h => h)) (.cells (rtc 0 0) 23)); have K33 := Lib.hid (heap_alloc_new v3 (.cells (rtc 0 0) 23)); have KF3 := Lib.hid ((KF2.out.trans hf3).alloc (.cells (rtc 0 0) 23)); clear KA2 KB2 K12 K22 KF2 hf3; obtain ⟨_, _, _, _⟩ := two_facts KA3.out; obtain ⟨_, _, _, _⟩ := two_facts KB3.out)
    | (go_at_call 19; (with_reducible refine (HD.out _).mono ?_); rintro _ v4 ⟨rfl, hf4⟩; have KA4 := Lib.hid (blk_alloc (hf4.blk KA3.out (fun h => h)) (.cells (rtc 0 0) 23)); have KB4 := Lib.hid (blk_alloc (hf4.blk KB3.out (fun h => h)) (.cells (rtc 0 0) 23)); have K14 := Lib.hid (blk_alloc (hf4.blk K13.out (fun h => h)) (.cells (rtc 0 0) 23)); have K24 := Lib.hid (blk_alloc (hf4.blk K23.out (fun h => h)) (.cells (rtc 0 0) 23)); have K34 := Lib.hid (blk_alloc (hf4.blk K33.out (fun h => h)) (.cells (rtc 0 0) 23)); have K44 := Lib.hid (heap_alloc_new v4 (.cells (rtc 0 0) 23)); have KF4 := Lib.hid ((KF3.out.trans hf4).alloc (.cells (rtc 0 0) 23)); clear KA3 KB3 K13 K23 K33 KF3 hf4; obtain ⟨_, _, _, _⟩ := two_facts KA4.out; obtain ⟨_, _, _, _⟩ := two_facts KB4.out)
    | (go_at_call 14; (with_reducible refine (HRa.out _).mono ?_); rintro _ v5 ⟨rfl, hf5⟩; have KA5 := Lib.hid (hf5.blk KA4.out (fun h => h)); have KB5 := Lib.hid (hf5.blk KB4.out (fun h => h)); have K15 := Lib.hid (hf5.blk K14.out (fun h => h)); have K25 := Lib.hid (hf5.blk K24.out (fun h => h)); have K35 := Lib.hid (hf5.blk K34.out (fun h => h)); have K45 := Lib.hid (hf5.blk K44.out (fun h => h)); have KF5 := Lib.hid (KF4.out.trans hf5); clear KA4 KB4 K14 K24 K34 K44 KF4 hf5; obtain ⟨_, _, _, _⟩ := two_facts KA5.out; obtain ⟨_, _, _, _⟩ := two_facts KB5.out)
    | (go_at_call 14; (with_reducible refine (HRb.out _).mono ?_); rintro _ v6 ⟨rfl, hf6⟩; have KA6 := Lib.hid (blk_alloc (hf6.blk KA5.out (fun h => h)) (.cells (rtc 0 0) 23)); have KB6 := Lib.hid (blk_alloc (hf6.blk KB5.out (fun h => h)) (.cells (rtc 0 0) 23)); have K16 := Lib.hid (blk_alloc (hf6.blk K15.out (fun h => h)) (.cells (rtc 0 0) 23)); have K26 := Lib.hid (blk_alloc (hf6.blk K25.out (fun h => h)) (.cells (rtc 0 0) 23)); have K36 := Lib.hid (blk_alloc (hf6.blk K35.out (fun h => h)) (.cells (rtc 0 0) 23)); have K46 := Lib.hid (blk_alloc (hf6.blk K45.out (fun h => h)) (.cells (rtc 0 0) 23)); have KN6 := Lib.hid (heap_alloc_new v6 (.cells (rtc 0 0) 23)); have KF6 := Lib.hid ((KF5.out.trans hf6).alloc (.cells (rtc 0 0) 23)); clear KA5 KB5 K15 K25 K35 K45 KF5 hf6; obtain ⟨_, _, _, _⟩ := two_facts K16.out; obtain ⟨_, _, _, _⟩ := two_facts KN6.out)
    | (go_at_call 22; (with_reducible refine (told_same 0 0 2 _).mono ?_); rintro _ v10 ⟨rfl, hf10⟩; have KA10 := Lib.hid (hf10.blk KA9.out (fun h => h)); have KB10 := Lib.hid (hf10.blk KB9.out (fun h => h)); have K110 := Lib.hid (hf10.blk K19.out (fun h => h)); have K210 := Lib.hid (hf10.blk K29.out (fun h => h)); have K310 := Lib.hid (hf10.blk K39.out (fun h => h)); have K410 := Lib.hid (hf10.blk K49.out (fun h => h)); have KN10 := Lib.hid (hf10.blk KN9.out (fun h => h)); have KF10 := Lib.hid (KF9.out.trans hf10); clear KA9 KB9 K19 K29 K39 K49 KN9 KF9 hf10)
    | (go_at_call 22; (with_reducible refine (told_same 0 0 2 _).mono ?_); rintro _ v9 ⟨rfl, hf9⟩; have KA9 := Lib.hid (hf9.blk KA8.out (fun h => h)); have KB9 := Lib.hid (hf9.blk KB8.out (fun h => h)); have K19 := Lib.hid (hf9.blk K18.out (fun h => h)); have K29 := Lib.hid (hf9.blk K28.out (fun h => h)); have K39 := Lib.hid (hf9.blk K38.out (fun h => h)); have K49 := Lib.hid (hf9.blk K48.out (fun h => h)); have KN9 := Lib.hid (hf9.blk KN8.out (fun h => h)); have KF9 := Lib.hid (KF8.out.trans hf9); clear KA8 KB8 K18 K28 K38 K48 KN8 KF8 hf9; obtain ⟨_, _, _, _⟩ := two_facts K49.out; obtain ⟨_, _, _, _⟩ := two_facts KN9.out)
    | (go_at_call 22; (with_reducible refine (told_same 0 0 2 _).mono ?_); rintro _ v8 ⟨rfl, hf8⟩; have KA8 := Lib.hid (hf8.blk KA7.out (fun h => h)); have KB8 := Lib.hid (hf8.blk KB7.out (fun h => h)); have K18 := Lib.hid (hf8.blk K17.out (fun h => h)); have K28 := Lib.hid (hf8.blk K27.out (fun h => h)); have K38 := Lib.hid (hf8.blk K37.out (fun h => h)); have K48 := Lib.hid (hf8.blk K47.out (fun h => h)); have KN8 := Lib.hid (hf8.blk KN7.out (fun h => h)); have KF8 := Lib.hid (KF7.out.trans hf8); clear KA7 KB7 K17 K27 K37 K47 KN7 KF7 hf8; obtain ⟨_, _, _, _⟩ := two_facts K38.out; obtain ⟨_, _, _, _⟩ := two_facts KN8.out)
    | (go_at_call 22; (with_reducible refine (told_same 0 0 2 _).mono ?_); rintro _ v7 ⟨rfl, hf7⟩; have KA7 := Lib.hid (hf7.blk KA6.out (fun h => h)); have KB7 := Lib.hid (hf7.blk KB6.out (fun h => h)); have K17 := Lib.hid (hf7.blk K16.out (fun h => h)); have K27 := Lib.hid (hf7.blk K26.out (fun h => h)); have K37 := Lib.hid (hf7.blk K36.out (fun h => h)); have K47 := Lib.hid (hf7.blk K46.out (fun h => h)); have KN7 := Lib.hid (hf7.blk KN6.out (fun h => h)); have KF7 := Lib.hid (KF6.out.trans hf7); clear KA6 KB6 K16 K26 K36 K46 KN6 KF6 hf7; obtain ⟨_, _, _, _⟩ := two_facts K27.out; obtain ⟨_, _, _, _⟩ := two_facts KN7.out)
    | (go_at_call 15; (with_reducible refine (HK.out _).mono ?_); rintro _ v11 ⟨rfl, hf11⟩; have KA11 := Lib.hid (hf11.blk KA10.out (fun h => h)); have KB11 := Lib.hid (hf11.blk KB10.out (fun h => h)); have K111 := Lib.hid (hf11.blk K110.out (fun h => h)); have K211 := Lib.hid (hf11.blk K210.out (fun h => h)); have K311 := Lib.hid (hf11.blk K310.out (fun h => h)); have K411 := Lib.hid (hf11.blk K410.out (fun h => h)); have KN11 := Lib.hid (hf11.blk KN10.out (fun h => h)); have KF11 := Lib.hid (KF10.out.trans hf11); clear KA10 KB10 K110 K210 K310 K410 KN10 KF10 hf11)
    | fail)
  go_ret
  exact ⟨rfl, KF11.out⟩
theorem tupR_ok (x y : Int) : tupR (.ok (x, y)) = .tuple #[rtv x y, .int .i64 0] := rfl
theorem twoR_no {a b : Int × Int} {r : Ra} (h : ¬ (RtOk a.1 a.2 ∧ RtOk b.1 b.2)) : twoR a b r = .error 2 := if_neg h
theorem ops_walk (an ad bn be : Int) (ia : I64r an ∧ I64r ad) (ib : I64r bn ∧ I64r be) (w : World) : Calls Try.prog 6 #[rtv an ad, rtv bn be] w fun e w' => e = .returned (.bool true) ∧ Fr0 w w' := by
  have HA := Lib.hid (fun U => radd_calls (an, ad) (bn, be) ia ib U)
  have HS := Lib.hid (fun U => rsub_calls (an, ad) (bn, be) ia ib U)
  have HM := Lib.hid (fun U => rmul_calls (an, ad) (bn, be) ia ib U)
  have HD := Lib.hid (fun U => rdiv_calls (an, ad) (bn, be) ia ib U)
  have HRa := Lib.hid (fun U => right_calls an ad ia.1 ia.2 U)
  have HRb := Lib.hid (fun U => right_calls bn be ib.1 ib.2 U)
  by_cases ha : RtOk an ad
  · rw [decide_eq_true ha] at HRa
    by_cases hb : RtOk bn be
    · rw [decide_eq_true hb] at HRb
      rw [twoR_ok (a := (an, ad)) (b := (bn, be)) ha hb] at HA HS HM HD
      obtain ⟨hnb, inb⟩ := rtOk_neg hb ib.1
      have HP := Lib.hid (fun U => plus_calls an ad bn be ha hb ia ib U)
      have HN := Lib.hid (fun U => minus_calls bn be ib.1 hb.2.1 U)
      have HP2 := Lib.hid (fun U => plus_calls an ad (-bn) be ha hnb ia ⟨inb, ib.2⟩ U)
      rw [rq_neg, ← Rat.sub_eq_add_neg] at HP2
      have HT := Lib.hid (fun U => times_calls an ad bn be ha hb ia ib U)
      refine ops_yes an ad bn be (-bn) _ _ _ _ _ _ _ _ _ _ _ _ HA HS HM HD HP HN HP2 HT ?_ HRa HRb w
      by_cases hz : bn = 0
      · subst hz
        have e : divR (an, ad) (0, be) = .error 2 := by unfold divR; simp
        rw [e]
        exact Lib.hid (fun U => by_zero an ad be U)
      · have e : divR (an, ad) (bn, be) = rR (rq an ad / rq bn be) := by unfold divR; simp [hz]
        rw [e]
        exact Lib.hid (fun U => by_calls an ad bn be ha hb hz ia ib U)
    · rw [decide_eq_false hb] at HRb
      rw [twoR_no (a := (an, ad)) (b := (bn, be)) (fun h => hb h.2)] at HA HS HM HD
      exact ops_no2 an ad bn be HA HS HM HD HRa HRb w
  · rw [decide_eq_false ha] at HRa
    rw [twoR_no (a := (an, ad)) (b := (bn, be)) (fun h => ha h.1)] at HA HS HM HD
    exact ops_no1 an ad bn be HA HS HM HD HRa w
end Go.Proofs.Ytdakeenjeieekaa
