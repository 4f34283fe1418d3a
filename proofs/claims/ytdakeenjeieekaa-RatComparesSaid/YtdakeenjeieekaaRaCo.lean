/- Chapter 01: RatCompares walked (written by genRaCo.py). -/
import Derived.Test.YtdakeenjeieekaaRaX
import Derived.Test.YtdakeenjeieekaaRaCi
import Derived.Test.YtdakeenjeieekaaRb8
import Derived.Test.YtdakeenjeieekaaRc4
set_option linter.unusedVariables false
set_option linter.unusedSimpArgs false
namespace Go.Proofs.Ytdakeenjeieekaa
open Go.RowKit
attribute [local go_sem] Oper.semAt_some

set_option maxHeartbeats 4000000 in
theorem compares_no1 (an ad bn be : Int)
    (HC : Hid (∀ U, Calls Try.prog 27 #[rtv an ad, rtv bn be] U fun e w' => e = .returned (.tuple #[.int .i64 0, .int .i64 2]) ∧ Fr0 U w'))
    (HF : Hid (∀ U, Calls Try.prog 16 #[rtv an ad] U fun e w' => e = .returned (.tuple #[.int .i64 0, .int .i64 2]) ∧ Fr0 U w'))
    (HE : Hid (∀ U, Calls Try.prog 17 #[rtv an ad] U fun e w' => e = .returned (.tuple #[.int .i64 0, .int .i64 2]) ∧ Fr0 U w'))
    (HRa : Hid (∀ U, Calls Try.prog 14 #[rtv an ad] U fun e w' => e = .returned (.bool false) ∧ Fr0 U w'))
    (w : World) : Calls Try.prog 8 #[rtv an ad, rtv bn be] w fun e w' => e = .returned (.bool true) ∧ Fr0 w w' := by
  have HK := Lib.hid known_calls
  have KA0 := Lib.hid (blk_alloc (heap_alloc_new w (.cells (rtc an ad) 23)) (.cells (rtc bn be) 23))
  have KB0 := Lib.hid (heap_an (w := w.alloc (.cells (rtc an ad) 23)) (k := w.heap.size + 1) (.cells (rtc bn be) 23) (by simp))
  have KF0 := Lib.hid (((Fr.refl (fun _ => False) w).alloc (.cells (rtc an ad) 23)).alloc (.cells (rtc bn be) 23))
  obtain ⟨ca0, ca1, _, _⟩ := two_facts KA0.out
  obtain ⟨cb0, cb1, _, _⟩ := two_facts KB0.out
  go_enter Try.func8, Try.ntmps8
  go_wp2_with (first
    | (go_at_call 27; (with_reducible refine (HC.out _).mono ?_); rintro _ v1 ⟨rfl, hf1⟩; have KA1 := Lib.hid (hf1.blk KA0.out (fun h => h)); have KB1 := Lib.hid (hf1.blk KB0.out (fun h => h)); have KF1 := Lib.hid (KF0.out.trans hf1); clear KA0 KB0 KF0 hf1; obtain ⟨_, _, _, _⟩ := two_facts KA1.out; obtain ⟨_, _, _, _⟩ := two_facts KB1.out)
    | (go_at_call 16; (with_reducible refine (HF.out _).mono ?_); rintro _ v2 ⟨rfl, hf2⟩; have KA2 := Lib.hid (hf2.blk KA1.out (fun h => h)); have KB2 := Lib.hid (hf2.blk KB1.out (fun h => h)); have KF2 := Lib.hid (KF1.out.trans hf2); clear KA1 KB1 KF1 hf2; obtain ⟨_, _, _, _⟩ := two_facts KA2.out; obtain ⟨_, _, _, _⟩ := two_facts KB2.out)
    | (go_at_call 17; (with_reducible refine (HE.out _).mono ?_); rintro _ v3 ⟨rfl, hf3⟩; have KA3 := Lib.hid (hf3.blk KA2.out (fun h => h)); have KB3 := Lib.hid (hf3.blk KB2.out (fun h => h)); have KF3 := Lib.hid (KF2.out.trans hf3); clear KA2 KB2 KF2 hf3; obtain ⟨_, _, _, _⟩ := two_facts KA3.out; obtain ⟨_, _, _, _⟩ := two_facts KB3.out)
    | (go_at_call 14; (with_reducible refine (HRa.out _).mono ?_); rintro _ v4 ⟨rfl, hf4⟩; have KA4 := Lib.hid (hf4.blk KA3.out (fun h => h)); have KB4 := Lib.hid (hf4.blk KB3.out (fun h => h)); have KF4 := Lib.hid (KF3.out.trans hf4); clear KA3 KB3 KF3 hf4; obtain ⟨_, _, _, _⟩ := two_facts KA4.out; obtain ⟨_, _, _, _⟩ := two_facts KB4.out)
    | (go_at_call 15; (with_reducible refine (HK.out _).mono ?_); rintro _ v5 ⟨rfl, hf5⟩; have KA5 := Lib.hid (hf5.blk KA4.out (fun h => h)); have KB5 := Lib.hid (hf5.blk KB4.out (fun h => h)); have KF5 := Lib.hid (KF4.out.trans hf5); clear KA4 KB4 KF4 hf5; obtain ⟨_, _, _, _⟩ := two_facts KA5.out; obtain ⟨_, _, _, _⟩ := two_facts KB5.out)
    | fail)
  go_ret
  exact ⟨rfl, KF5.out⟩
set_option maxHeartbeats 4000000 in
theorem compares_no2 (an ad bn be fl ce : Int)
    (HC : Hid (∀ U, Calls Try.prog 27 #[rtv an ad, rtv bn be] U fun e w' => e = .returned (.tuple #[.int .i64 0, .int .i64 2]) ∧ Fr0 U w'))
    (HF : Hid (∀ U, Calls Try.prog 16 #[rtv an ad] U fun e w' => e = .returned (.tuple #[.int .i64 fl, .int .i64 0]) ∧ Fr0 U w'))
    (HE : Hid (∀ U, Calls Try.prog 17 #[rtv an ad] U fun e w' => e = .returned (.tuple #[.int .i64 ce, .int .i64 0]) ∧ Fr0 U w'))
    (HRa : Hid (∀ U, Calls Try.prog 14 #[rtv an ad] U fun e w' => e = .returned (.bool true) ∧ Fr0 U w'))
    (HDF : Hid (∀ U, Calls Try.prog 28 #[rtv an ad] U fun e w' => e = .returned (.int .i64 fl) ∧ Fr0 U w'))
    (HDE : Hid (∀ U, Calls Try.prog 29 #[rtv an ad] U fun e w' => e = .returned (.int .i64 ce) ∧ Fr0 U w'))
    (HRb : Hid (∀ U, Calls Try.prog 14 #[rtv bn be] U fun e w' => e = .returned (.bool false) ∧ Fr0 U w'))
    (w : World) : Calls Try.prog 8 #[rtv an ad, rtv bn be] w fun e w' => e = .returned (.bool true) ∧ Fr0 w w' := by
  have HK := Lib.hid known_calls
  have KA0 := Lib.hid (blk_alloc (heap_alloc_new w (.cells (rtc an ad) 23)) (.cells (rtc bn be) 23))
  have KB0 := Lib.hid (heap_an (w := w.alloc (.cells (rtc an ad) 23)) (k := w.heap.size + 1) (.cells (rtc bn be) 23) (by simp))
  have KF0 := Lib.hid (((Fr.refl (fun _ => False) w).alloc (.cells (rtc an ad) 23)).alloc (.cells (rtc bn be) 23))
  obtain ⟨ca0, ca1, _, _⟩ := two_facts KA0.out
  obtain ⟨cb0, cb1, _, _⟩ := two_facts KB0.out
  go_enter Try.func8, Try.ntmps8
  go_wp2_with (first
    | (go_at_call 27; (with_reducible refine (HC.out _).mono ?_); rintro _ v1 ⟨rfl, hf1⟩; have KA1 := Lib.hid (hf1.blk KA0.out (fun h => h)); have KB1 := Lib.hid (hf1.blk KB0.out (fun h => h)); have KF1 := Lib.hid (KF0.out.trans hf1); clear KA0 KB0 KF0 hf1; obtain ⟨_, _, _, _⟩ := two_facts KA1.out; obtain ⟨_, _, _, _⟩ := two_facts KB1.out)
    | (go_at_call 16; (with_reducible refine (HF.out _).mono ?_); rintro _ v2 ⟨rfl, hf2⟩; have KA2 := Lib.hid (hf2.blk KA1.out (fun h => h)); have KB2 := Lib.hid (hf2.blk KB1.out (fun h => h)); have KF2 := Lib.hid (KF1.out.trans hf2); clear KA1 KB1 KF1 hf2; obtain ⟨_, _, _, _⟩ := two_facts KA2.out; obtain ⟨_, _, _, _⟩ := two_facts KB2.out)
    | (go_at_call 17; (with_reducible refine (HE.out _).mono ?_); rintro _ v3 ⟨rfl, hf3⟩; have KA3 := Lib.hid (hf3.blk KA2.out (fun h => h)); have KB3 := Lib.hid (hf3.blk KB2.out (fun h => h)); have KF3 := Lib.hid (KF2.out.trans hf3); clear KA2 KB2 KF2 hf3; obtain ⟨_, _, _, _⟩ := two_facts KA3.out; obtain ⟨_, _, _, _⟩ := two_facts KB3.out)
    | (go_at_call 14; (with_reducible refine (HRa.out _).mono ?_); rintro _ v4 ⟨rfl, hf4⟩; have KA4 := Lib.hid (hf4.blk KA3.out (fun h => h)); have KB4 := Lib.hid (hf4.blk KB3.out (fun h => h)); have KF4 := Lib.hid (KF3.out.trans hf4); clear KA3 KB3 KF3 hf4; obtain ⟨_, _, _, _⟩ := two_facts KA4.out; obtain ⟨_, _, _, _⟩ := two_facts KB4.out)
    | (go_at_call 28; (with_reducible refine (HDF.out _).mono ?_); rintro _ v5 ⟨rfl, hf5⟩; have KA5 := Lib.hid (hf5.blk KA4.out (fun h => h)); have KB5 := Lib.hid (hf5.blk KB4.out (fun h => h)); have KF5 := Lib.hid (KF4.out.trans hf5); clear KA4 KB4 KF4 hf5; obtain ⟨_, _, _, _⟩ := two_facts KA5.out; obtain ⟨_, _, _, _⟩ := two_facts KB5.out)
    | (go_at_call 29; (with_reducible refine (HDE.out _).mono ?_); rintro _ v6 ⟨rfl, hf6⟩; have KA6 := Lib.hid (hf6.blk KA5.out (fun h => h)); have KB6 := Lib.hid (hf6.blk KB5.out (fun h => h)); have KF6 := Lib.hid (KF5.out.trans hf6); clear KA5 KB5 KF5 hf6; obtain ⟨_, _, _, _⟩ := two_facts KA6.out; obtain ⟨_, _, _, _⟩ := two_facts KB6.out)
    | (go_at_call 14; (with_reducible refine (HRb.out _).mono ?_); rintro _ v7 ⟨rfl, hf7⟩; have KA7 := Lib.hid (hf7.blk KA6.out (fun h => h)); have KB7 := Lib.hid (hf7.blk KB6.out (fun h => h)); have KF7 := Lib.hid (KF6.out.trans hf7); clear KA6 KB6 KF6 hf7; obtain ⟨_, _, _, _⟩ := two_facts KA7.out; obtain ⟨_, _, _, _⟩ := two_facts KB7.out)
    | (go_at_call 15; (with_reducible refine (HK.out _).mono ?_); rintro _ v8 ⟨rfl, hf8⟩; have KA8 := Lib.hid (hf8.blk KA7.out (fun h => h)); have KB8 := Lib.hid (hf8.blk KB7.out (fun h => h)); have KF8 := Lib.hid (KF7.out.trans hf8); clear KA7 KB7 KF7 hf8; obtain ⟨_, _, _, _⟩ := two_facts KA8.out; obtain ⟨_, _, _, _⟩ := two_facts KB8.out)
    | fail)
  go_ret
  exact ⟨rfl, KF8.out⟩
set_option maxHeartbeats 4000000 in
theorem compares_yes (an ad bn be fl ce ns : Int)
    (HC : Hid (∀ U, Calls Try.prog 27 #[rtv an ad, rtv bn be] U fun e w' => e = .returned (.tuple #[.int .i64 ns, .int .i64 0]) ∧ Fr0 U w'))
    (HF : Hid (∀ U, Calls Try.prog 16 #[rtv an ad] U fun e w' => e = .returned (.tuple #[.int .i64 fl, .int .i64 0]) ∧ Fr0 U w'))
    (HE : Hid (∀ U, Calls Try.prog 17 #[rtv an ad] U fun e w' => e = .returned (.tuple #[.int .i64 ce, .int .i64 0]) ∧ Fr0 U w'))
    (HRa : Hid (∀ U, Calls Try.prog 14 #[rtv an ad] U fun e w' => e = .returned (.bool true) ∧ Fr0 U w'))
    (HDF : Hid (∀ U, Calls Try.prog 28 #[rtv an ad] U fun e w' => e = .returned (.int .i64 fl) ∧ Fr0 U w'))
    (HDE : Hid (∀ U, Calls Try.prog 29 #[rtv an ad] U fun e w' => e = .returned (.int .i64 ce) ∧ Fr0 U w'))
    (HRb : Hid (∀ U, Calls Try.prog 14 #[rtv bn be] U fun e w' => e = .returned (.bool true) ∧ Fr0 U w'))
    (HDC : Hid (∀ U, Calls Try.prog 30 #[rtv an ad, rtv bn be] U fun e w' => e = .returned (.int .i64 ns) ∧ Fr0 U w'))
    (w : World) : Calls Try.prog 8 #[rtv an ad, rtv bn be] w fun e w' => e = .returned (.bool true) ∧ Fr0 w w' := by
  have HK := Lib.hid known_calls
  have KA0 := Lib.hid (blk_alloc (heap_alloc_new w (.cells (rtc an ad) 23)) (.cells (rtc bn be) 23))
  have KB0 := Lib.hid (heap_an (w := w.alloc (.cells (rtc an ad) 23)) (k := w.heap.size + 1) (.cells (rtc bn be) 23) (by simp))
  have KF0 := Lib.hid (((Fr.refl (fun _ => False) w).alloc (.cells (rtc an ad) 23)).alloc (.cells (rtc bn be) 23))
  obtain ⟨ca0, ca1, _, _⟩ := two_facts KA0.out
  obtain ⟨cb0, cb1, _, _⟩ := two_facts KB0.out
  go_enter Try.func8, Try.ntmps8
  go_wp2_with (first
    | (go_at_call 27; (with_reducible refine (HC.out _).mono ?_); rintro _ v1 ⟨rfl, hf1⟩; have KA1 := Lib.hid (hf1.blk KA0.out (fun h => h)); have KB1 := Lib.hid (hf1.blk KB0.out (fun h => h)); have KF1 := Lib.hid (KF0.out.trans hf1); clear KA0 KB0 KF0 hf1; obtain ⟨_, _, _, _⟩ := two_facts KA1.out; obtain ⟨_, _, _, _⟩ := two_facts KB1.out)
    | (go_at_call 16; (with_reducible refine (HF.out _).mono ?_); rintro _ v2 ⟨rfl, hf2⟩; have KA2 := Lib.hid (hf2.blk KA1.out (fun h => h)); have KB2 := Lib.hid (hf2.blk KB1.out (fun h => h)); have KF2 := Lib.hid (KF1.out.trans hf2); clear KA1 KB1 KF1 hf2; obtain ⟨_, _, _, _⟩ := two_facts KA2.out; obtain ⟨_, _, _, _⟩ := two_facts KB2.out)
    | (go_at_call 17; (with_reducible refine (HE.out _).mono ?_); rintro _ v3 ⟨rfl, hf3⟩; have KA3 := Lib.hid (hf3.blk KA2.out (fun h => h)); have KB3 := Lib.hid (hf3.blk KB2.out (fun h => h)); have KF3 := Lib.hid (KF2.out.trans hf3); clear KA2 KB2 KF2 hf3; obtain ⟨_, _, _, _⟩ := two_facts KA3.out; obtain ⟨_, _, _, _⟩ := two_facts KB3.out)
    | (go_at_call 14; (with_reducible refine (HRa.out _).mono ?_); rintro _ v4 ⟨rfl, hf4⟩; have KA4 := Lib.hid (hf4.blk KA3.out (fun h => h)); have KB4 := Lib.hid (hf4.blk KB3.out (fun h => h)); have KF4 := Lib.hid (KF3.out.trans hf4); clear KA3 KB3 KF3 hf4; obtain ⟨_, _, _, _⟩ := two_facts KA4.out; obtain ⟨_, _, _, _⟩ := two_facts KB4.out)
    | (go_at_call 28; (with_reducible refine (HDF.out _).mono ?_); rintro _ v5 ⟨rfl, hf5⟩; have KA5 := Lib.hid (hf5.blk KA4.out (fun h => h)); have KB5 := Lib.hid (hf5.blk KB4.out (fun h => h)); have KF5 := Lib.hid (KF4.out.trans hf5); clear KA4 KB4 KF4 hf5; obtain ⟨_, _, _, _⟩ := two_facts KA5.out; obtain ⟨_, _, _, _⟩ := two_facts KB5.out)
    | (go_at_call 29; (with_reducible refine (HDE.out _).mono ?_); rintro _ v6 ⟨rfl, hf6⟩; have KA6 := Lib.hid (hf6.blk KA5.out (fun h => h)); have KB6 := Lib.hid (hf6.blk KB5.out (fun h => h)); have KF6 := Lib.hid (KF5.out.trans hf6); clear KA5 KB5 KF5 hf6; obtain ⟨_, _, _, _⟩ := two_facts KA6.out; obtain ⟨_, _, _, _⟩ := two_facts KB6.out)
    | (go_at_call 14; (with_reducible refine (HRb.out _).mono ?_); rintro _ v7 ⟨rfl, hf7⟩; have KA7 := Lib.hid (hf7.blk KA6.out (fun h => h)); have KB7 := Lib.hid (hf7.blk KB6.out (fun h => h)); have KF7 := Lib.hid (KF6.out.trans hf7); clear KA6 KB6 KF6 hf7; obtain ⟨_, _, _, _⟩ := two_facts KA7.out; obtain ⟨_, _, _, _⟩ := two_facts KB7.out)
    | (go_at_call 30; (with_reducible refine (HDC.out _).mono ?_); rintro _ v8 ⟨rfl, hf8⟩; have KA8 := Lib.hid (hf8.blk KA7.out (fun h => h)); have KB8 := Lib.hid (hf8.blk KB7.out (fun h => h)); have KF8 := Lib.hid (KF7.out.trans hf8); clear KA7 KB7 KF7 hf8; obtain ⟨_, _, _, _⟩ := two_facts KA8.out; obtain ⟨_, _, _, _⟩ := two_facts KB8.out)
    | (go_at_call 15; (with_reducible refine (HK.out _).mono ?_); rintro _ v9 ⟨rfl, hf9⟩; have KA9 := Lib.hid (hf9.blk KA8.out (fun h => h)); have KB9 := Lib.hid (hf9.blk KB8.out (fun h => h)); have KF9 := Lib.hid (KF8.out.trans hf9); clear KA8 KB8 KF8 hf9; obtain ⟨_, _, _, _⟩ := two_facts KA9.out; obtain ⟨_, _, _, _⟩ := two_facts KB9.out)
    | fail)
  go_ret
  exact ⟨rfl, KF9.out⟩
theorem compares_walk (an ad bn be : Int) (ia : I64r an ∧ I64r ad) (ib : I64r bn ∧ I64r be) (w : World) : Calls Try.prog 8 #[rtv an ad, rtv bn be] w fun e w' => e = .returned (.bool true) ∧ Fr0 w w' := by
  have HC := Lib.hid (fun U => rcmp_calls (an, ad) (bn, be) ia ib U)
  have HF := Lib.hid (fun U => rfloor_calls an ad ia.1 ia.2 U)
  have HE := Lib.hid (fun U => rceil_calls an ad ia.1 ia.2 U)
  have HRa := Lib.hid (fun U => right_calls an ad ia.1 ia.2 U)
  have HRb := Lib.hid (fun U => right_calls bn be ib.1 ib.2 U)
  unfold cmpV cmpE at HC
  unfold floorN chk at HF
  unfold ceilN chk at HE
  by_cases ha : RtOk an ad
  · rw [decide_eq_true ha] at HRa
    rw [if_pos ha, if_pos ha] at HF HE
    have HDF := Lib.hid (fun U => dfloor_calls an ad ha ia.1 ia.2 U)
    have HDE := Lib.hid (fun U => dceil_calls an ad ha ia.1 ia.2 U)
    by_cases hb : RtOk bn be
    · rw [decide_eq_true hb] at HRb
      rw [if_pos ⟨ha, hb⟩, if_pos ⟨ha, hb⟩] at HC
      have HDC := Lib.hid (fun U => dcmp_calls an ad bn be ha hb ia ib U)
      exact compares_yes an ad bn be _ _ _ HC HF HE HRa HDF HDE HRb HDC w
    · rw [decide_eq_false hb] at HRb
      rw [if_neg (fun h => hb h.2), if_neg (fun h => hb h.2)] at HC
      exact compares_no2 an ad bn be _ _ HC HF HE HRa HDF HDE HRb w
  · rw [decide_eq_false ha] at HRa
    rw [if_neg ha, if_neg ha] at HF HE
    rw [if_neg (fun h => ha h.1), if_neg (fun h => ha h.1)] at HC
    exact compares_no1 an ad bn be HC HF HE HRa w
end Go.Proofs.Ytdakeenjeieekaa
