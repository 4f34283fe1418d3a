/- Chapter 01: RatMakes walked. -/
import Derived.Test.YtdakeenjeieekaaRaX
import Derived.Test.YtdakeenjeieekaaRaY
import Derived.Test.YtdakeenjeieekaaRb8
import Derived.Test.YtdakeenjeieekaaRb9
set_option linter.unusedVariables false
set_option linter.unusedSimpArgs false
namespace Go.Proofs.Ytdakeenjeieekaa
open Go.RowKit
attribute [local go_sem] Oper.semAt_some

theorem makeR_cases (n d : Int) : (∃ x y, makeR n d = .ok (x, y) ∧ RtOk x y ∧ I64r x ∧ I64r y) ∨ (∃ k, makeR n d = .error k ∧ k ≠ 0) := by
  unfold makeR
  split
  · exact .inr ⟨2, rfl, by decide⟩
  · generalize h : rR _ = r
    cases r with
    | ok p => exact .inl ⟨p.1, p.2, rfl, rR_good h⟩
    | error k => exact .inr ⟨k, rfl, by rw [rR_err h]; decide⟩
set_option maxHeartbeats 4000000 in
theorem makes_walk (n d : Int) (hn : I64r n) (hd : I64r d) (w : World) : Calls Try.prog 3 #[.int .i64 n, .int .i64 d] w fun e w' => e = .returned (.bool true) ∧ Fr0 w w' := by
  have hmx : Try.prog.follows .mixedOrders = true := by kernel_rfl
  have HM := Lib.hid (fun U => rMake_calls n d hn hd U)
  have HR := Lib.hid (fun U => make_calls n d hn hd U)
  have HC := Lib.hid (fun U => rcheck_calls n d hn hd U)
  have HT := Lib.hid (fun U => right_calls n d hn hd U)
  have HK := Lib.hid known_calls
  have heq := fun (x y : Int) (U : World) => eq_rat x y x y U
  simp only [and_self, decide_true] at heq
  rcases makeR_cases n d with ⟨x, y, hm, hg, hx, hy⟩ | ⟨k, hm, hk⟩
  · rw [hm] at HM HR
    have HC2 := Lib.hid (fun U => rcheck_calls x y hx hy U)
    rw [if_pos hg] at HC2
    change Hid (∀ U, Calls Try.prog _ _ U fun e w' => e = .returned (.tuple #[rtv x y, .int .i64 0]) ∧ Fr0 U w') at HM
    change Hid (∀ U, Calls Try.prog _ _ U fun e w' => e = .returned (.tuple #[rtv x y, .int .i64 0]) ∧ Fr0 U w') at HR
    clear hm hg
    have hq := heq x y
    clear heq
    by_cases hok : RtOk n d
    · rw [if_pos hok] at HC
      rw [decide_eq_true hok] at HT
      clear hok
      go_enter Try.func3, Try.ntmps3
      go_upto_region 4 with (first
        | (go_at_call 11; (with_reducible refine (HM.out _).mono ?_); rintro _ w3 ⟨rfl, hf3⟩; have hb3 := heap_alloc_new w3 (.cells (rtc x y) 23))
        | (go_at_call 12; (with_reducible refine (HR.out _).mono ?_); rintro _ w4 ⟨rfl, hf4⟩; have hb4 := hf4.blk hb3 (fun h => h))
        | fail)
      have hbA := blk_alloc (blk_alloc hb4 (.cells (rtc x y) 23)) (.cells (rtc n d) 23)
      have hbB := blk_alloc (heap_alloc_new w4 (.cells (rtc x y) 23)) (.cells (rtc n d) 23)
      have hbC := heap_an (w := w4.alloc (.cells (rtc x y) 23)) (k := w4.heap.size + 1) (.cells (rtc n d) 23) (by simp)
      have HF := Lib.hid ((((hf3.alloc (.cells (rtc x y) 23)).trans hf4).alloc (.cells (rtc x y) 23)).alloc (.cells (rtc n d) 23))
      generalize (w4.alloc (.cells (rtc x y) 23)).alloc (.cells (rtc n d) 23) = W at *
      obtain ⟨a0, a1, _, _⟩ := two_facts hbA
      obtain ⟨b0, b1, _, _⟩ := two_facts hbB
      obtain ⟨c0, c1, _, _⟩ := two_facts hbC
      have r0 := cg_cell (W := W) a0
      have r1 := cg_cell (W := W) a1
      have r2 := cg_cell (W := W) b0
      have r3 := cg_cell (W := W) b1
      have r4 := cg_cell (W := W) c0
      have r5 := cg_cell (W := W) c1
      clear hb3 hb4 hf3 hf4 hbA hbB hbC
      refine wp_region_cg hmx (by kernel_rfl) ?_
      repeat (first
        | go_big_quiet_step (fail)
        | go_big_quiet_step (first
            | ((go_at_call 13; with_reducible exact quiet_cg (HC.out _)))
            | ((go_at_call 13; with_reducible exact quiet_cg (HC2.out _)))
            | ((go_at_call 14; with_reducible exact quiet_cg (HT.out _)))
            | ((go_at_call 15; with_reducible exact quiet_cg (HK.out _)))))
      refine wpQuiet_nil ?_
      intro w6 hf6
      go_wp2_with fail
      go_ret
      exact ⟨rfl, HF.out.trans hf6⟩
    · rw [if_neg hok] at HC
      rw [decide_eq_false hok] at HT
      clear hok
      go_enter Try.func3, Try.ntmps3
      go_upto_region 4 with (first
        | (go_at_call 11; (with_reducible refine (HM.out _).mono ?_); rintro _ w3 ⟨rfl, hf3⟩; have hb3 := heap_alloc_new w3 (.cells (rtc x y) 23))
        | (go_at_call 12; (with_reducible refine (HR.out _).mono ?_); rintro _ w4 ⟨rfl, hf4⟩; have hb4 := hf4.blk hb3 (fun h => h))
        | fail)
      have hbA := blk_alloc (blk_alloc hb4 (.cells (rtc x y) 23)) (.cells (rtc n d) 23)
      have hbB := blk_alloc (heap_alloc_new w4 (.cells (rtc x y) 23)) (.cells (rtc n d) 23)
      have hbC := heap_an (w := w4.alloc (.cells (rtc x y) 23)) (k := w4.heap.size + 1) (.cells (rtc n d) 23) (by simp)
      have HF := Lib.hid ((((hf3.alloc (.cells (rtc x y) 23)).trans hf4).alloc (.cells (rtc x y) 23)).alloc (.cells (rtc n d) 23))
      generalize (w4.alloc (.cells (rtc x y) 23)).alloc (.cells (rtc n d) 23) = W at *
      obtain ⟨a0, a1, _, _⟩ := two_facts hbA
      obtain ⟨b0, b1, _, _⟩ := two_facts hbB
      obtain ⟨c0, c1, _, _⟩ := two_facts hbC
      have r0 := cg_cell (W := W) a0
      have r1 := cg_cell (W := W) a1
      have r2 := cg_cell (W := W) b0
      have r3 := cg_cell (W := W) b1
      have r4 := cg_cell (W := W) c0
      have r5 := cg_cell (W := W) c1
      clear hb3 hb4 hf3 hf4 hbA hbB hbC
      refine wp_region_cg hmx (by kernel_rfl) ?_
      repeat (first
        | go_big_quiet_step (fail)
        | go_big_quiet_step (first
            | ((go_at_call 13; with_reducible exact quiet_cg (HC.out _)))
            | ((go_at_call 13; with_reducible exact quiet_cg (HC2.out _)))
            | ((go_at_call 14; with_reducible exact quiet_cg (HT.out _)))
            | ((go_at_call 15; with_reducible exact quiet_cg (HK.out _)))))
      refine wpQuiet_nil ?_
      intro w6 hf6
      go_wp2_with fail
      go_ret
      exact ⟨rfl, HF.out.trans hf6⟩
  · rw [hm] at HM HR
    change Hid (∀ U, Calls Try.prog _ _ U fun e w' => e = .returned (.tuple #[rtv 0 0, .int .i64 k]) ∧ Fr0 U w') at HM
    change Hid (∀ U, Calls Try.prog _ _ U fun e w' => e = .returned (.tuple #[rtv 0 0, .int .i64 k]) ∧ Fr0 U w') at HR
    have hk1 : (k == 0) = false := by simpa using hk
    have hk2 : (k != 0) = true := by simpa using hk
    have hk3 : decide (k = 0) = false := decide_eq_false hk
    clear hm hk
    have hq := heq 0 0
    clear heq
    by_cases hok : RtOk n d
    · rw [if_pos hok] at HC
      rw [decide_eq_true hok] at HT
      clear hok
      go_enter Try.func3, Try.ntmps3
      go_upto_region 4 with (first
        | (go_at_call 11; (with_reducible refine (HM.out _).mono ?_); rintro _ w3 ⟨rfl, hf3⟩; have hb3 := heap_alloc_new w3 (.cells (rtc 0 0) 23))
        | (go_at_call 12; (with_reducible refine (HR.out _).mono ?_); rintro _ w4 ⟨rfl, hf4⟩; have hb4 := hf4.blk hb3 (fun h => h))
        | fail)
      have hbA := blk_alloc (blk_alloc hb4 (.cells (rtc 0 0) 23)) (.cells (rtc n d) 23)
      have hbB := blk_alloc (heap_alloc_new w4 (.cells (rtc 0 0) 23)) (.cells (rtc n d) 23)
      have hbC := heap_an (w := w4.alloc (.cells (rtc 0 0) 23)) (k := w4.heap.size + 1) (.cells (rtc n d) 23) (by simp)
      have HF := Lib.hid ((((hf3.alloc (.cells (rtc 0 0) 23)).trans hf4).alloc (.cells (rtc 0 0) 23)).alloc (.cells (rtc n d) 23))
      generalize (w4.alloc (.cells (rtc 0 0) 23)).alloc (.cells (rtc n d) 23) = W at *
      obtain ⟨a0, a1, _, _⟩ := two_facts hbA
      obtain ⟨b0, b1, _, _⟩ := two_facts hbB
      obtain ⟨c0, c1, _, _⟩ := two_facts hbC
      have r0 := cg_cell (W := W) a0
      have r1 := cg_cell (W := W) a1
      have r2 := cg_cell (W := W) b0
      have r3 := cg_cell (W := W) b1
      have r4 := cg_cell (W := W) c0
      have r5 := cg_cell (W := W) c1
      clear hb3 hb4 hf3 hf4 hbA hbB hbC
      refine wp_region_cg hmx (by kernel_rfl) ?_
      repeat (first
        | go_big_quiet_step (fail)
        | go_big_quiet_step (first
            | ((go_at_call 13; with_reducible exact quiet_cg (HC.out _)))
            | ((go_at_call 14; with_reducible exact quiet_cg (HT.out _)))
            | ((go_at_call 15; with_reducible exact quiet_cg (HK.out _)))))
      refine wpQuiet_nil ?_
      intro w6 hf6
      go_wp2_with fail
      go_ret
      exact ⟨rfl, HF.out.trans hf6⟩
    · rw [if_neg hok] at HC
      rw [decide_eq_false hok] at HT
      clear hok
      go_enter Try.func3, Try.ntmps3
      go_upto_region 4 with (first
        | (go_at_call 11; (with_reducible refine (HM.out _).mono ?_); rintro _ w3 ⟨rfl, hf3⟩; have hb3 := heap_alloc_new w3 (.cells (rtc 0 0) 23))
        | (go_at_call 12; (with_reducible refine (HR.out _).mono ?_); rintro _ w4 ⟨rfl, hf4⟩; have hb4 := hf4.blk hb3 (fun h => h))
        | fail)
      have hbA := blk_alloc (blk_alloc hb4 (.cells (rtc 0 0) 23)) (.cells (rtc n d) 23)
      have hbB := blk_alloc (heap_alloc_new w4 (.cells (rtc 0 0) 23)) (.cells (rtc n d) 23)
      have hbC := heap_an (w := w4.alloc (.cells (rtc 0 0) 23)) (k := w4.heap.size + 1) (.cells (rtc n d) 23) (by simp)
      have HF := Lib.hid ((((hf3.alloc (.cells (rtc 0 0) 23)).trans hf4).alloc (.cells (rtc 0 0) 23)).alloc (.cells (rtc n d) 23))
      generalize (w4.alloc (.cells (rtc 0 0) 23)).alloc (.cells (rtc n d) 23) = W at *
      obtain ⟨a0, a1, _, _⟩ := two_facts hbA
      obtain ⟨b0, b1, _, _⟩ := two_facts hbB
      obtain ⟨c0, c1, _, _⟩ := two_facts hbC
      have r0 := cg_cell (W := W) a0
      have r1 := cg_cell (W := W) a1
      have r2 := cg_cell (W := W) b0
      have r3 := cg_cell (W := W) b1
      have r4 := cg_cell (W := W) c0
      have r5 := cg_cell (W := W) c1
      clear hb3 hb4 hf3 hf4 hbA hbB hbC
      refine wp_region_cg hmx (by kernel_rfl) ?_
      repeat (first
        | go_big_quiet_step (fail)
        | go_big_quiet_step (first
            | ((go_at_call 13; with_reducible exact quiet_cg (HC.out _)))
            | ((go_at_call 14; with_reducible exact quiet_cg (HT.out _)))
            | ((go_at_call 15; with_reducible exact quiet_cg (HK.out _)))))
      refine wpQuiet_nil ?_
      intro w6 hf6
      go_wp2_with fail
      go_ret
      exact ⟨rfl, HF.out.trans hf6⟩
end Go.Proofs.Ytdakeenjeieekaa
