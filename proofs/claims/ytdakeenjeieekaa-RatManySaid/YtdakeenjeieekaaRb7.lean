/- Chapter 01, the document: Frac. -/
import Derived.Test.YtdakeenjeieekaaRb6
import Derived.Test.YtdakeenjeieekaaRaL
set_option linter.unusedVariables false
set_option linter.unusedSimpArgs false
namespace Go.Proofs.Ytdakeenjeieekaa
open Go.RowKit
attribute [local go_sem] Oper.semAt_some

/-- The fraction of two numbers, or why there is none. -/
def fracE (n : Nat) (below : Bool) (d : Nat) : Ra := if d = 0 then .error 2 else fracR n below d
theorem number_yes (a : Nat) (va : Value) (w : World) (ha : IsB w va a) (h : a ≤ 9223372036854775807) :
    Calls Try.prog 65 #[va] w fun e w' => e = .returned (.tuple #[.int .i64 (a : Int), .bool true]) ∧ Fr0 w w' := by
  refine (number_calls a va w ha ?_).mono ?_
  · have := (bd_len_le a 4).2 (by omega)
    omega
  · rintro e w' ⟨⟨z, rfl, hz⟩, hf⟩
    rw [hz h, decide_eq_true h]
    exact ⟨rfl, hf⟩
theorem number_no (a : Nat) (va : Value) (w : World) (ha : IsB w va a) (hla : (bd a).length ≤ 1000) (h : ¬ a ≤ 9223372036854775807) :
    Calls Try.prog 65 #[va] w fun e w' => (∃ z : Int, e = .returned (.tuple #[.int .i64 z, .bool false])) ∧ Fr0 w w' := by
  refine (number_calls a va w ha hla).mono ?_
  rintro e w' ⟨⟨z, rfl, hz⟩, hf⟩
  rw [decide_eq_false h]
  exact ⟨⟨z, rfl⟩, hf⟩
set_option maxHeartbeats 2000000 in
theorem frac_calls (n d : Nat) (below : Bool) (va vd : Value) (w : World) (ha : IsB w va n) (hd : IsB w vd d) (hla : (bd n).length ≤ 400) (hlb : (bd d).length ≤ 400) :
    Calls Try.prog 39 #[va, .bool below, vd] w fun e w' => e = .returned (tupR (fracE n below d)) ∧ Fr0 w w' := by
  have HA := Lib.hid ha
  have HF := Lib.hid ((Fr.refl (fun _ => False) w).alloc (.cells (rtc 0 0) 23))
  have HB := Lib.hid (heap_alloc_new w (.cells (rtc 0 0) 23))
  obtain ⟨c0, c1, z0, z1⟩ := two_facts HB.out
  have HD := Lib.hid hd
  obtain ⟨A, c, rfl, hc, hR⟩ := hd
  clear hR ha
  rcases Nat.eq_zero_or_pos d with rfl | hp
  · have HE : Hid (fracE n below 0 = .error 2) := if_pos rfl
    rw [bd_zero] at HD hc ⊢
    clear hla hlb hc
    go_enter Try.func39, Try.ntmps39
    go_wp2_with fail
    rw [HE.out]
    exact bodyPost_ret (results_row_tmp (p := 6) (u := 7) rfl _ _ w.heap.size _ _ _ _ rfl HB.out Try.underlying23 rfl (by kernel_rfl)) rfl ⟨rfl, HF.out⟩
  · have hld : 0 < (bd d).length := by rw [bd_pos (by omega)]; simp
    have hg0 : 0 < Nat.gcd n d := Nat.gcd_pos_of_pos_right _ hp
    have hgn : Nat.gcd n d ≤ d := Nat.gcd_le_right _ hp
    have HLN := Lib.hid (show (bd n).length ≤ 400 ∧ (bd d).length ≤ 400 ∧ (bd (Nat.gcd n d)).length ≤ 400 ∧ (bd (n / Nat.gcd n d)).length ≤ 1000 ∧ (bd (d / Nat.gcd n d)).length ≤ 1000 from by
      have h1 := len_mono hgn
      have h2 := len_mono (Nat.div_le_self n (Nat.gcd n d))
      have h3 := len_mono (Nat.div_le_self d (Nat.gcd n d))
      omega)
    have HG0 := Lib.hid hg0
    have HE : Hid (fracE n below d = toldR (n / Nat.gcd n d) below (d / Nat.gcd n d)) := if_neg (by omega)
    obtain ⟨ld, hl⟩ : ∃ l, l = (bd d).length := ⟨_, rfl⟩
    rw [← hl] at hld hc HD ⊢
    have hd1 : decide ((ld : Int) = 0) = false := decide_eq_false (by omega)
    have hd2 : ((ld : Int) == 0) = false := by simp; omega
    have hd3 : decide (ld = 0) = false := decide_eq_false (by omega)
    have HGC := Lib.hid (fun (U : World) (h1 : IsB U va n) (h2 : IsB U (.slice A ld c) d) => gcd_calls n d va _ U h1 h2 HLN.out.1 HLN.out.2.1)
    have HD1 := Lib.hid (fun (U : World) (v : Value) (h1 : IsB U va n) (h2 : IsB U v (Nat.gcd n d)) => bdiv_calls n (Nat.gcd n d) va v U HG0.out h1 h2 HLN.out.1 HLN.out.2.2.1)
    have HD22 := Lib.hid (fun (U : World) (v : Value) (h1 : IsB U (.slice A ld c) d) (h2 : IsB U v (Nat.gcd n d)) => bdiv_calls d (Nat.gcd n d) _ v U HG0.out h1 h2 HLN.out.2.1 HLN.out.2.2.1)
    have HA2 := Lib.hid (HA.out.kept HF.out)
    have HD2 := Lib.hid (HD.out.kept HF.out)
    have HLN := Lib.hid (And.intro HLN.out.2.2.2.1 HLN.out.2.2.2.2)
    generalize Nat.gcd n d = g at *
    generalize n / g = N at *
    generalize d / g = D at *
    clear hla hlb hp hg0 hgn hl HA HD HG0 hc hld
    unfold toldR at HE
    by_cases hc1 : N ≤ 9223372036854775807
    · by_cases hc2 : D ≤ 9223372036854775807
      · rw [if_pos ⟨hc2, hc1⟩] at HE
        have hwn : wrap64 (-(N : Int)) = -(N : Int) := w64_id (by omega) (by omega)
        rcases below with _ | _
        · have HE2 : Hid (fracE n false d = .ok ((N : Int), (D : Int))) := HE.out
          clear HE
          go_enter Try.func39, Try.ntmps39
          go_wp2_with (first
            | (go_at_call 43; (with_reducible refine (HGC.out _ HA2.out HD2.out).mono ?_); rintro _ w3 ⟨⟨v3, rfl, h3⟩, hf3⟩)
            | (go_at_call 64; (with_reducible refine (HD1.out _ _ (HA2.out.kept hf3) h3).mono ?_); rintro _ w4 ⟨⟨v4, v4b, rfl, h4, _⟩, hf4⟩)
            | (go_at_call 64; (with_reducible refine (HD22.out _ _ ((HD2.out.kept hf3).kept hf4) (h3.kept hf4)).mono ?_); rintro _ w5 ⟨⟨v5, v5b, rfl, h5, _⟩, hf5⟩)
            | (go_at_call 65; (with_reducible refine (number_yes _ _ _ (h4.kept hf5) hc1).mono ?_); rintro _ w6 ⟨rfl, hf6⟩)
            | (go_at_call 65; (with_reducible refine (number_yes _ _ _ (h5.kept hf6) hc2).mono ?_); rintro _ w7 ⟨rfl, hf7⟩; have hft := Lib.hid (HF.out.trans ((((hf3.trans hf4).trans hf5).trans hf6).trans hf7)); have hb7 := (((((hf3.trans hf4).trans hf5).trans hf6).trans hf7)).blk HB.out (fun h => h); obtain ⟨y0, y1, y2, y3⟩ := two_facts hb7; have HB7 := Lib.hid hb7; clear hb7)
            | fail)
          rw [HE2.out]
          exact bodyPost_ret (results_row_tmp (p := 6) (u := 7) rfl _ _ w.heap.size _ _ _ _ rfl (two_set HB7.out _ _) Try.underlying23 rfl (by kernel_rfl)) rfl ⟨rfl, two_fr hft.out (by simp) _ _⟩
        · have HE2 : Hid (fracE n true d = .ok (-(N : Int), (D : Int))) := HE.out
          clear HE
          go_enter Try.func39, Try.ntmps39
          go_wp2_with (first
            | (go_at_call 43; (with_reducible refine (HGC.out _ HA2.out HD2.out).mono ?_); rintro _ w3 ⟨⟨v3, rfl, h3⟩, hf3⟩)
            | (go_at_call 64; (with_reducible refine (HD1.out _ _ (HA2.out.kept hf3) h3).mono ?_); rintro _ w4 ⟨⟨v4, v4b, rfl, h4, _⟩, hf4⟩)
            | (go_at_call 64; (with_reducible refine (HD22.out _ _ ((HD2.out.kept hf3).kept hf4) (h3.kept hf4)).mono ?_); rintro _ w5 ⟨⟨v5, v5b, rfl, h5, _⟩, hf5⟩)
            | (go_at_call 65; (with_reducible refine (number_yes _ _ _ (h4.kept hf5) hc1).mono ?_); rintro _ w6 ⟨rfl, hf6⟩)
            | (go_at_call 65; (with_reducible refine (number_yes _ _ _ (h5.kept hf6) hc2).mono ?_); rintro _ w7 ⟨rfl, hf7⟩; have hft := Lib.hid (HF.out.trans ((((hf3.trans hf4).trans hf5).trans hf6).trans hf7)); have hb7 := (((((hf3.trans hf4).trans hf5).trans hf6).trans hf7)).blk HB.out (fun h => h); obtain ⟨y0, y1, y2, y3⟩ := two_facts hb7; have HB7 := Lib.hid hb7; clear hb7)
            | fail)
          rw [HE2.out]
          exact bodyPost_ret (results_row_tmp (p := 6) (u := 7) rfl _ _ w.heap.size _ _ _ _ rfl (two_set HB7.out _ _) Try.underlying23 rfl (by kernel_rfl)) rfl ⟨rfl, two_fr hft.out (by simp) _ _⟩
      · rw [if_neg (fun h => hc2 h.1)] at HE
        go_enter Try.func39, Try.ntmps39
        go_wp2_with (first
          | (go_at_call 43; (with_reducible refine (HGC.out _ HA2.out HD2.out).mono ?_); rintro _ w3 ⟨⟨v3, rfl, h3⟩, hf3⟩)
          | (go_at_call 64; (with_reducible refine (HD1.out _ _ (HA2.out.kept hf3) h3).mono ?_); rintro _ w4 ⟨⟨v4, v4b, rfl, h4, _⟩, hf4⟩)
          | (go_at_call 64; (with_reducible refine (HD22.out _ _ ((HD2.out.kept hf3).kept hf4) (h3.kept hf4)).mono ?_); rintro _ w5 ⟨⟨v5, v5b, rfl, h5, _⟩, hf5⟩)
          | (go_at_call 65; (with_reducible refine (number_yes _ _ _ (h4.kept hf5) hc1).mono ?_); rintro _ w6 ⟨rfl, hf6⟩)
          | (go_at_call 65; (with_reducible refine (number_no _ _ _ (h5.kept hf6) HLN.out.2 hc2).mono ?_); rintro _ w7 ⟨⟨z2, rfl⟩, hf7⟩; have hft := Lib.hid (HF.out.trans ((((hf3.trans hf4).trans hf5).trans hf6).trans hf7)); have hb7 := (((((hf3.trans hf4).trans hf5).trans hf6).trans hf7)).blk HB.out (fun h => h); obtain ⟨y0, y1, y2, y3⟩ := two_facts hb7; have HB7 := Lib.hid hb7; clear hb7)
          | fail)
        rw [HE.out]
        exact bodyPost_ret (results_row_tmp (p := 6) (u := 7) rfl _ _ w.heap.size _ _ _ _ rfl (two_set HB7.out _ _) Try.underlying23 rfl (by kernel_rfl)) rfl ⟨rfl, two_fr hft.out (by simp) _ _⟩
    · rw [if_neg (fun h => hc1 h.2)] at HE
      go_enter Try.func39, Try.ntmps39
      go_wp2_with (first
        | (go_at_call 43; (with_reducible refine (HGC.out _ HA2.out HD2.out).mono ?_); rintro _ w3 ⟨⟨v3, rfl, h3⟩, hf3⟩)
        | (go_at_call 64; (with_reducible refine (HD1.out _ _ (HA2.out.kept hf3) h3).mono ?_); rintro _ w4 ⟨⟨v4, v4b, rfl, h4, _⟩, hf4⟩)
        | (go_at_call 64; (with_reducible refine (HD22.out _ _ ((HD2.out.kept hf3).kept hf4) (h3.kept hf4)).mono ?_); rintro _ w5 ⟨⟨v5, v5b, rfl, h5, _⟩, hf5⟩)
        | (go_at_call 65; (with_reducible refine (number_no _ _ _ (h4.kept hf5) HLN.out.1 hc1).mono ?_); rintro _ w6 ⟨⟨z1, rfl⟩, hf6⟩)
        | (go_at_call 65; (with_reducible refine (number_calls _ _ _ (h5.kept hf6) HLN.out.2).mono ?_); rintro _ w7 ⟨⟨z2, rfl, hz2⟩, hf7⟩; clear hz2; generalize decide (D ≤ 9223372036854775807) = q2; have hft := Lib.hid (HF.out.trans ((((hf3.trans hf4).trans hf5).trans hf6).trans hf7)); have hb7 := (((((hf3.trans hf4).trans hf5).trans hf6).trans hf7)).blk HB.out (fun h => h); obtain ⟨y0, y1, y2, y3⟩ := two_facts hb7; have HB7 := Lib.hid hb7; clear hb7)
        | fail)
      rw [HE.out]
      exact bodyPost_ret (results_row_tmp (p := 6) (u := 7) rfl _ _ w.heap.size _ _ _ _ rfl (two_set HB7.out _ _) Try.underlying23 rfl (by kernel_rfl)) rfl ⟨rfl, two_fr hft.out (by simp) _ _⟩
end Go.Proofs.Ytdakeenjeieekaa
