/- Chapter 01, the document: Make (written by genRb9.py). -/
import Derived.Test.YtdakeenjeieekaaRbT
import Derived.Test.YtdakeenjeieekaaRaN
set_option linter.unusedVariables false
set_option linter.unusedSimpArgs false
namespace Go.Proofs.Ytdakeenjeieekaa
open Go.RowKit
attribute [local go_sem] Oper.semAt_some

abbrev tupv (a b k : Int) : Value := .tuple #[rtv a b, .int .i64 k]
theorem makeR_frac (n d : Int) : makeR n d = fracE n.natAbs (!decide (n = 0) && (decide (n < 0) != decide (d < 0))) d.natAbs := by
  unfold fracE
  by_cases h : d = 0
  · subst h; show _ = ite (0 = 0) _ _; rw [if_pos rfl]; rfl
  · rw [if_neg (by omega), makeR_eq n d h]
    congr 1
    rw [Bool.and_comm]
    congr 1
    by_cases h0 : n = 0 <;> simp [h0]
theorem bd_small {n : Nat} (h : n < 18446744073709551616) : (bd n).length ≤ 4 := (bd_len_le n 4).2 (by omega)
set_option maxHeartbeats 4000000 in
theorem make_calls (n d : Int) (hn : I64r n) (hd : I64r d) (w : World) : Calls Try.prog 12 #[.int .i64 n, .int .i64 d] w fun e w' => e = .returned (tupR (makeR n d)) ∧ Fr0 w w' := by
  have hmx : Try.prog.follows .mixedOrders = true := by kernel_rfl
  have HSN := Lib.hid (fun U => size_calls n hn U)
  have HSD := Lib.hid (fun U => size_calls d hd U)
  have HF := Lib.hid ((Fr.refl (fun _ => False) w).alloc (.cells (rtc 0 0) 23))
  have HB := Lib.hid (heap_alloc_new w (.cells (rtc 0 0) 23))
  have hA : n.natAbs < 18446744073709551616 := by have := hn.1; have := hn.2; omega
  have hD : d.natAbs < 18446744073709551616 := by have := hd.1; have := hd.2; omega
  rw [makeR_frac]
  have HFR := Lib.hid (fun (below : Bool) (U : World) (va vd : Value) (h1 : IsB U va n.natAbs) (h2 : IsB U vd d.natAbs) => frac_calls n.natAbs d.natAbs below va vd U h1 h2 (by have := bd_small hA; omega) (by have := bd_small hD; omega))
  generalize n.natAbs = A at *
  generalize d.natAbs = D at *
  have HL := Lib.hid (And.intro hA (And.intro hD trivial))
  clear hA hD
  unfold tupR at HFR ⊢
  by_cases h0 : n = 0
  · have e0 : (!decide (n = 0) && (decide (n < 0) != decide (d < 0))) = false := by simp [h0]
    rw [e0]
    subst h0
    have HFR := Lib.hid (HFR.out false)
    clear e0
    generalize rN (fracE A false D) = a at *
    generalize rD (fracE A false D) = b at *
    generalize rE (fracE A false D) = k at *
    go_enter Try.func12, Try.ntmps12
    go_wp2_with (first
      | (go_at_call 41; (with_reducible refine (HSN.out _).mono ?_); rintro _ w3 ⟨rfl, hf3⟩)
      | (go_at_call 40; (with_reducible refine (rof_calls A HL.out.1 _).mono ?_); rintro _ w4 ⟨⟨v4, rfl, h4⟩, hf4⟩)
      | (go_at_call 41; (with_reducible refine (HSD.out _).mono ?_); rintro _ w5 ⟨rfl, hf5⟩)
      | (go_at_call 40; (with_reducible refine (rof_calls D HL.out.2.1 _).mono ?_); rintro _ w6 ⟨⟨v6, rfl, h6⟩, hf6⟩)
      | (go_at_call 39; (with_reducible refine (HFR.out _ _ _ ((h4.kept hf5).kept hf6) h6).mono ?_); rintro _ w7 ⟨rfl, hf7⟩; have hb7 := (((((hf3.trans hf4).trans hf5).trans hf6).trans hf7)).blk HB.out (fun h => h); obtain ⟨_, _, f0, f1⟩ := two_facts hb7)
      | fail)
    exact bodyPost_ret (results_row_tmp (p := 4) (u := 5) rfl _ _ w.heap.size _ _ _ _ rfl (two_set hb7 _ _) Try.underlying23 rfl (by kernel_rfl)) rfl ⟨rfl, two_fr (HF.out.trans ((((hf3.trans hf4).trans hf5).trans hf6).trans hf7)) (by simp) _ _⟩
  · by_cases h1 : n < 0 <;> by_cases h2 : d < 0
    · have g0 : decide (n = 0) = false := decide_eq_false h0
      have g1 : decide (n < 0) = true := decide_eq_true h1
      have g2 : decide (d < 0) = true := decide_eq_true h2
      have e0 : (!decide (n = 0) && (decide (n < 0) != decide (d < 0))) = false := by rw [g0, g1, g2]; rfl
      rw [e0]
      have g3 : (n == 0) = false := by simpa using h0
      have g4 : (n != 0) = true := by simpa using h0
      have HFR := Lib.hid (HFR.out false)
      clear e0 h1 h2
      generalize rN (fracE A false D) = a at *
      generalize rD (fracE A false D) = b at *
      generalize rE (fracE A false D) = k at *
      go_enter Try.func12, Try.ntmps12
      go_wp2_with (first
        | (go_at_call 41; (with_reducible refine (HSN.out _).mono ?_); rintro _ w3 ⟨rfl, hf3⟩)
        | (go_at_call 40; (with_reducible refine (rof_calls A HL.out.1 _).mono ?_); rintro _ w4 ⟨⟨v4, rfl, h4⟩, hf4⟩)
        | (go_at_call 41; (with_reducible refine (HSD.out _).mono ?_); rintro _ w5 ⟨rfl, hf5⟩)
        | (go_at_call 40; (with_reducible refine (rof_calls D HL.out.2.1 _).mono ?_); rintro _ w6 ⟨⟨v6, rfl, h6⟩, hf6⟩)
        | (go_at_call 39; (with_reducible refine (HFR.out _ _ _ ((h4.kept hf5).kept hf6) h6).mono ?_); rintro _ w7 ⟨rfl, hf7⟩; have hb7 := (((((hf3.trans hf4).trans hf5).trans hf6).trans hf7)).blk HB.out (fun h => h); obtain ⟨_, _, f0, f1⟩ := two_facts hb7)
        | fail)
      exact bodyPost_ret (results_row_tmp (p := 4) (u := 5) rfl _ _ w.heap.size _ _ _ _ rfl (two_set hb7 _ _) Try.underlying23 rfl (by kernel_rfl)) rfl ⟨rfl, two_fr (HF.out.trans ((((hf3.trans hf4).trans hf5).trans hf6).trans hf7)) (by simp) _ _⟩
    · have g0 : decide (n = 0) = false := decide_eq_false h0
      have g1 : decide (n < 0) = true := decide_eq_true h1
      have g2 : decide (d < 0) = false := decide_eq_false h2
      have e0 : (!decide (n = 0) && (decide (n < 0) != decide (d < 0))) = true := by rw [g0, g1, g2]; rfl
      rw [e0]
      have g3 : (n == 0) = false := by simpa using h0
      have g4 : (n != 0) = true := by simpa using h0
      have HFR := Lib.hid (HFR.out true)
      clear e0 h1 h2
      generalize rN (fracE A true D) = a at *
      generalize rD (fracE A true D) = b at *
      generalize rE (fracE A true D) = k at *
      go_enter Try.func12, Try.ntmps12
      go_wp2_with (first
        | (go_at_call 41; (with_reducible refine (HSN.out _).mono ?_); rintro _ w3 ⟨rfl, hf3⟩)
        | (go_at_call 40; (with_reducible refine (rof_calls A HL.out.1 _).mono ?_); rintro _ w4 ⟨⟨v4, rfl, h4⟩, hf4⟩)
        | (go_at_call 41; (with_reducible refine (HSD.out _).mono ?_); rintro _ w5 ⟨rfl, hf5⟩)
        | (go_at_call 40; (with_reducible refine (rof_calls D HL.out.2.1 _).mono ?_); rintro _ w6 ⟨⟨v6, rfl, h6⟩, hf6⟩)
        | (go_at_call 39; (with_reducible refine (HFR.out _ _ _ ((h4.kept hf5).kept hf6) h6).mono ?_); rintro _ w7 ⟨rfl, hf7⟩; have hb7 := (((((hf3.trans hf4).trans hf5).trans hf6).trans hf7)).blk HB.out (fun h => h); obtain ⟨_, _, f0, f1⟩ := two_facts hb7)
        | fail)
      exact bodyPost_ret (results_row_tmp (p := 4) (u := 5) rfl _ _ w.heap.size _ _ _ _ rfl (two_set hb7 _ _) Try.underlying23 rfl (by kernel_rfl)) rfl ⟨rfl, two_fr (HF.out.trans ((((hf3.trans hf4).trans hf5).trans hf6).trans hf7)) (by simp) _ _⟩
    · have g0 : decide (n = 0) = false := decide_eq_false h0
      have g1 : decide (n < 0) = false := decide_eq_false h1
      have g2 : decide (d < 0) = true := decide_eq_true h2
      have e0 : (!decide (n = 0) && (decide (n < 0) != decide (d < 0))) = true := by rw [g0, g1, g2]; rfl
      rw [e0]
      have g3 : (n == 0) = false := by simpa using h0
      have g4 : (n != 0) = true := by simpa using h0
      have HFR := Lib.hid (HFR.out true)
      clear e0 h1 h2
      generalize rN (fracE A true D) = a at *
      generalize rD (fracE A true D) = b at *
      generalize rE (fracE A true D) = k at *
      go_enter Try.func12, Try.ntmps12
      go_wp2_with (first
        | (go_at_call 41; (with_reducible refine (HSN.out _).mono ?_); rintro _ w3 ⟨rfl, hf3⟩)
        | (go_at_call 40; (with_reducible refine (rof_calls A HL.out.1 _).mono ?_); rintro _ w4 ⟨⟨v4, rfl, h4⟩, hf4⟩)
        | (go_at_call 41; (with_reducible refine (HSD.out _).mono ?_); rintro _ w5 ⟨rfl, hf5⟩)
        | (go_at_call 40; (with_reducible refine (rof_calls D HL.out.2.1 _).mono ?_); rintro _ w6 ⟨⟨v6, rfl, h6⟩, hf6⟩)
        | (go_at_call 39; (with_reducible refine (HFR.out _ _ _ ((h4.kept hf5).kept hf6) h6).mono ?_); rintro _ w7 ⟨rfl, hf7⟩; have hb7 := (((((hf3.trans hf4).trans hf5).trans hf6).trans hf7)).blk HB.out (fun h => h); obtain ⟨_, _, f0, f1⟩ := two_facts hb7)
        | fail)
      exact bodyPost_ret (results_row_tmp (p := 4) (u := 5) rfl _ _ w.heap.size _ _ _ _ rfl (two_set hb7 _ _) Try.underlying23 rfl (by kernel_rfl)) rfl ⟨rfl, two_fr (HF.out.trans ((((hf3.trans hf4).trans hf5).trans hf6).trans hf7)) (by simp) _ _⟩
    · have g0 : decide (n = 0) = false := decide_eq_false h0
      have g1 : decide (n < 0) = false := decide_eq_false h1
      have g2 : decide (d < 0) = false := decide_eq_false h2
      have e0 : (!decide (n = 0) && (decide (n < 0) != decide (d < 0))) = false := by rw [g0, g1, g2]; rfl
      rw [e0]
      have g3 : (n == 0) = false := by simpa using h0
      have g4 : (n != 0) = true := by simpa using h0
      have HFR := Lib.hid (HFR.out false)
      clear e0 h1 h2
      generalize rN (fracE A false D) = a at *
      generalize rD (fracE A false D) = b at *
      generalize rE (fracE A false D) = k at *
      go_enter Try.func12, Try.ntmps12
      go_wp2_with (first
        | (go_at_call 41; (with_reducible refine (HSN.out _).mono ?_); rintro _ w3 ⟨rfl, hf3⟩)
        | (go_at_call 40; (with_reducible refine (rof_calls A HL.out.1 _).mono ?_); rintro _ w4 ⟨⟨v4, rfl, h4⟩, hf4⟩)
        | (go_at_call 41; (with_reducible refine (HSD.out _).mono ?_); rintro _ w5 ⟨rfl, hf5⟩)
        | (go_at_call 40; (with_reducible refine (rof_calls D HL.out.2.1 _).mono ?_); rintro _ w6 ⟨⟨v6, rfl, h6⟩, hf6⟩)
        | (go_at_call 39; (with_reducible refine (HFR.out _ _ _ ((h4.kept hf5).kept hf6) h6).mono ?_); rintro _ w7 ⟨rfl, hf7⟩; have hb7 := (((((hf3.trans hf4).trans hf5).trans hf6).trans hf7)).blk HB.out (fun h => h); obtain ⟨_, _, f0, f1⟩ := two_facts hb7)
        | fail)
      exact bodyPost_ret (results_row_tmp (p := 4) (u := 5) rfl _ _ w.heap.size _ _ _ _ rfl (two_set hb7 _ _) Try.underlying23 rfl (by kernel_rfl)) rfl ⟨rfl, two_fr (HF.out.trans ((((hf3.trans hf4).trans hf5).trans hf6).trans hf7)) (by simp) _ _⟩
end Go.Proofs.Ytdakeenjeieekaa
