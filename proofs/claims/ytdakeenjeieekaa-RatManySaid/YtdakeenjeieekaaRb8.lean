/- Chapter 01, the document: Right. -/
import Derived.Test.YtdakeenjeieekaaRbT
set_option linter.unusedVariables false
set_option linter.unusedSimpArgs false
namespace Go.Proofs.Ytdakeenjeieekaa
open Go.RowKit
attribute [local go_sem] Oper.semAt_some

set_option maxHeartbeats 2000000 in
theorem right_calls (n d : Int) (hn : I64r n) (hd : I64r d) (w : World) : Calls Try.prog 14 #[rtv n d] w fun e w' => e = .returned (.bool (decide (RtOk n d))) ∧ Fr0 w w' := by
  have hmx : Try.prog.follows .mixedOrders = true := by kernel_rfl
  have HSZ := Lib.hid (fun U => size_calls n hn U)
  have HF := Lib.hid ((Fr.refl (fun _ => False) w).alloc (.cells (rtc n d) 23))
  obtain ⟨c0, c1, _, _⟩ := two_facts (heap_alloc_new w (.cells (rtc n d) 23))
  by_cases h1 : d < 1
  · have hr : decide (RtOk n d) = false := decide_eq_false (fun h => absurd h.1 (by omega))
    rw [hr]
    have h1d : decide (d < 1) = true := decide_eq_true h1
    clear h1 hr
    go_enter Try.func14, Try.ntmps14
    go_wp2_with fail
    go_ret
    exact ⟨rfl, HF.out⟩
  have h1d : decide (d < 1) = false := decide_eq_false h1
  by_cases h2 : n = -9223372036854775808
  · have hr : decide (RtOk n d) = false := decide_eq_false (fun h => h.2.1 h2)
    rw [hr]
    subst h2
    clear h1 hr
    go_enter Try.func14, Try.ntmps14
    go_wp2_with (first | (go_at_call 41; (with_reducible refine (HSZ.out _).mono ?_); rintro _ w3 ⟨rfl, hf3⟩) | fail)
    go_ret
    exact ⟨rfl, HF.out.trans hf3⟩
  obtain ⟨hn1, hn2⟩ := hn
  obtain ⟨hd1, hd2⟩ := hd
  have hdw : IntKind.u64.wrap d = ((d.natAbs : Nat) : Int) := by rw [IntKind.wrap_u64]; omega
  have hnl : n.natAbs < 9223372036854775808 := by omega
  have hdl : d.natAbs < 9223372036854775808 := by omega
  have hd0 : d.natAbs ≠ 0 := by omega
  have hrr : decide (RtOk n d) = decide (Nat.gcd n.natAbs d.natAbs = 1) := decide_eq_decide.2 ⟨fun h => h.2.2, fun h => ⟨by omega, h2, h⟩⟩
  rw [hrr]
  obtain ⟨A, hA⟩ : ∃ A, A = n.natAbs := ⟨_, rfl⟩
  obtain ⟨D, hD⟩ : ∃ A, A = d.natAbs := ⟨_, rfl⟩
  rw [← hA] at hnl HSZ ⊢
  rw [← hD] at hdl hdw hd0 ⊢
  have hAs : decide ((9223372036854775808 : Int) ≤ (A : Int)) = false := decide_eq_false (by omega)
  have hAs2 : decide (9223372036854775808 ≤ A) = false := decide_eq_false (by omega)
  have hg0 : 0 < Nat.gcd A D := Nat.gcd_pos_of_pos_right _ (by omega)
  have HLA := Lib.hid (show A < 18446744073709551616 ∧ D < 18446744073709551616 ∧ (bd A).length ≤ 400 ∧ (bd D).length ≤ 400 from by
    have h1 := (bd_len_le A 4).2 (by omega)
    have h2 := (bd_len_le D 4).2 (by omega)
    omega)
  clear h1 h2 hrr hA hD hn1 hn2 hd1 hd2
  have HGC := Lib.hid (fun (U : World) (v1 v2 : Value) (h1 : IsB U v1 A) (h2 : IsB U v2 D) => gcd_calls A D v1 v2 U h1 h2 HLA.out.2.2.1 HLA.out.2.2.2)
  obtain ⟨r, hr⟩ : ∃ r, r = decide (Nat.gcd A D = 1) := ⟨_, rfl⟩
  rw [← hr]
  obtain ⟨g, hg⟩ : ∃ g, g = Nat.gcd A D := ⟨_, rfl⟩
  have HRR : Hid (r = true ↔ g = 1) := by
    show _ ↔ _
    rw [hr, hg, decide_eq_true_iff]
  rw [← hg] at hg0 HGC
  clear hg hr
  go_enter Try.func14, Try.ntmps14
  go_upto_region 3 with (first | (go_at_call 41; (with_reducible refine (HSZ.out _).mono ?_); rintro _ w3 ⟨rfl, hf3⟩) | fail)
  have x0 := hf3.cell c0 (fun h => h)
  have x1 := hf3.cell c1 (fun h => h)
  have HX := Lib.hid (And.intro x0 x1)
  have HF3 := Lib.hid (HF.out.trans hf3)
  clear x0 x1 hf3 c0 c1
  refine wp_region_noPanic ?_
  refine takesL_ex [0, 1, 2, 4, 5, 6] (fun U => Fr0 w3 U) (fun _ _ h k => h.trans k) (Fr.refl _ _) hmx (fun _ _ _ _ _ h => h) (by kernel_rfl) (by kernel_rfl) ?_
  apply Exists.intro
  refine ⟨fun W' hW' => ?_, ?_⟩
  · have r0 := cg_cell (W := W') (hW'.cell HX.out.1 (fun h => h))
    have r1 := cg_cell (W := W') (hW'.cell HX.out.2 (fun h => h))
    simp only [pickL, List.getElem?_cons_zero, List.getElem?_cons_succ]
    repeat (first
      | go_big_quiet_step (fail)
      | go_big_quiet_step ((go_at_call 41; with_reducible exact quiet_cg (HSZ.out _))))
    exact wpQuiet_nil rfl
  · refine wpAnyG_rel (ds := [(3, some 16), (7, some 20), (8, some 21), (9, some 3)]) (RelP (relS [(3, .inl A), (7, .inl D), (8, .inl g), (9, .inl g)])) (g := 0) rfl (by kernel_rfl) (fun _ _ h k => h.trans k) (Fr.refl _ _) (fun _ _ _ _ h k => h.kept k) ?_ ?_
    · intro q hq x U hRU hFU hd
      simp only [List.mem_cons, List.not_mem_nil, or_false] at hq
      rcases hq with rfl | rfl | rfl | rfl
      · refine rel_step rfl (fun K hK => ?_)
        simp only [puts, Act.put, List.setIfInBounds_toArray, List.set_cons_zero, List.set_cons_succ]
        go_simp
        refine (rof_calls A HLA.out.1 U).mono ?_
        rintro _ V ⟨⟨v, rfl, hv⟩, hf⟩
        exact hK.out v V hv hf
      · refine rel_step rfl (fun K hK => ?_)
        simp only [puts, Act.put, List.setIfInBounds_toArray, List.set_cons_zero, List.set_cons_succ]
        go_simp
        refine (rof_calls D HLA.out.2.1 U).mono ?_
        rintro _ V ⟨⟨v, rfl, hv⟩, hf⟩
        exact hK.out v V hv hf
      · have h3 : IsB U (x 3) A := hd 3 (by kernel_rfl) (by kernel_rfl)
        have h7 : IsB U (x 7) D := hd 7 (by kernel_rfl) (by kernel_rfl)
        refine rel_step rfl (fun K hK => ?_)
        simp only [puts, Act.put, List.setIfInBounds_toArray, List.set_cons_zero, List.set_cons_succ]
        go_simp
        refine (HGC.out U _ _ h3 h7).mono ?_
        rintro _ V ⟨⟨v, rfl, hv⟩, hf⟩
        exact hK.out v V hv hf
      · have h8 : IsB U (x 8) g := hd 8 (by kernel_rfl) (by kernel_rfl)
        refine rel_step rfl (fun K hK => ?_)
        simp only [puts, Act.put, List.setIfInBounds_toArray, List.set_cons_zero, List.set_cons_succ]
        go_simp
        exact hK.out (x 8) U h8 (Fr.refl _ _)
    · intro x U hRU hFU hp
      refine wpAnyG_done (by kernel_rfl) (fun V hV => ?_)
      refine NoPanic.normal ?_
      have h9 : IsB V (x 9) g := RelP.kept (hp (9, some 3) (by simp)) hV
      have HF9 := Lib.hid (HF3.out.trans (hFU.trans hV))
      clear hp hFU hRU HX HF3 HF hV
      simp only [puts, Act.put, List.setIfInBounds_toArray, List.set_cons_zero, List.set_cons_succ]
      generalize x 3 = x3 at *
      generalize x 7 = x7 at *
      generalize x 8 = x8 at *
      generalize x 9 = x9 at *
      obtain ⟨A9, c9, rfl, hc, hR⟩ := h9
      by_cases hg : g = 1
      · subst hg
        have hr : r = true := HRR.out.2 rfl
        subst hr
        rw [bd_one] at hc hR ⊢
        obtain ⟨b, off, rfl⟩ := hR.some_ (by simp [u32s])
        have d0 := rd_digit hR 0 (by simp)
        have d1 : V.cell? ⟨b, off + 0, none⟩ = some (.int .u32 1) := d0
        have d2 : V.cell? ⟨b, off, none⟩ = some (.int .u32 1) := d0
        rw [show ([1] : List Nat).length = 1 from rfl]
        clear hR d0 hc
        go_wp2_with fail
        go_ret
        exact ⟨rfl, HF9.out⟩
      · have hr : r = false := by
          cases r with
          | false => rfl
          | true => exact absurd (HRR.out.1 rfl) hg
        subst hr
        by_cases hl : (bd g).length = 1
        · have hR0 : 0 < (bd g).length := by omega
          obtain ⟨b, off, rfl⟩ := hR.some_ (by rw [u32s_length]; exact hR0)
          have d0 := rd_digit hR 0 hR0
          have e : (bd g)[0] ≠ 1 := by
            intro h
            rw [bd_get hR0] at h
            have h2 := (bd_len_le g 1).1 (by omega)
            rw [Nat.pow_zero, Nat.div_one, Nat.mod_eq_of_lt (by omega)] at h
            exact hg h
          obtain ⟨y, hy⟩ : ∃ y, y = (bd g)[0] := ⟨_, rfl⟩
          rw [← hy] at d0 e
          have d2 : V.cell? ⟨b, off, none⟩ = some (.int .u32 (y : Int)) := d0
          have e1 : decide ((y : Int) = 1) = false := decide_eq_false (by omega)
          have e2 : ((y : Int) == 1) = false := by simp; omega
          have e3 : decide (y = 1) = false := decide_eq_false e
          rw [hl]
          clear hR hc hg hl hR0 hy
          go_wp2_with fail
          go_ret
          exact ⟨rfl, HF9.out⟩
        · obtain ⟨lg, hlg⟩ : ∃ l, l = (bd g).length := ⟨_, rfl⟩
          rw [← hlg] at hl ⊢
          have e1 : decide ((lg : Int) = 1) = false := decide_eq_false (by omega)
          have e2 : ((lg : Int) == 1) = false := by simp; omega
          have e3 : decide (lg = 1) = false := decide_eq_false hl
          clear hR hc hg hl hlg
          go_wp2_with fail
          go_ret
          exact ⟨rfl, HF9.out⟩
end Go.Proofs.Ytdakeenjeieekaa
