/- Chapter 13: the statement ShaperNext walked. -/
import Derived.Test.YtmnadploikcljaaShYa
import Derived.Test.YtmnadploikcljaaShU
set_option linter.unusedVariables false
set_option linter.unusedSimpArgs false
namespace Go.Proofs.Ytmnadploikcljaa
open Go.RowKit
attribute [local go_sem] Oper.semAt_some

/-- The document's shaper of nothing. -/
abbrev rs0 : Rs := ⟨⟨0, 0, 0, 0, 0⟩, [], 0, 0, []⟩
theorem rs0_ok : rs0.Ok := ⟨fun p h => (by cases h), (by decide), (by decide), fun h => (by cases h)⟩
theorem rs0_is (w : World) (S : Nat → Prop) : IsRs w S (rsv ⟨0, 0, 0, 0, 0⟩ none 0 0 0 0 none 0 0) rs0 := ⟨none, 0, none, 0, rfl, Rd.nil _ _ _, by simp, Rd.nil _ _ _, by simp, by simp [maxLen]⟩
/-- Ahead of Next nothing goes. -/
theorem go_early {X X' : Sh} {O : List (Int × Int)} {er now : Int} (h : X.Ok) (hL : 0 < X.L.length) (hn : now < nextA X) (hg : GoS X now X' O er) : ¬ (er = 0 ∧ 0 < O.length) := by
  unfold GoS at hg
  split at hg
  · rename_i hm
    obtain ⟨_, h2, _⟩ := hg
    rintro ⟨_, ho⟩
    have hnow : X.B.now ≤ 2147483647 := h.of.now.2
    have hk : 0 < goN X.s now X.t X.L := by
      rw [h2, List.length_take] at ho; omega
    have := (next_keeps h hL hnow hm).1 ((goN_pos hL).1 hk)
    omega
  · rintro ⟨he, _⟩
    rw [hg.1] at he
    cases he
theorem bytesW_pos {X : Sh} (h : X.Ok) : decide (0 < bytesW X.L) = decide (0 < X.L.length) := decide_eq_decide.2 (bytesW_zero h.pos)
set_option maxRecDepth 100000 in
set_option maxHeartbeats 8000000 in
theorem next_walk (s : Sp) (A : Option Addr) (c : Nat) (l : List (Int × Int × Int)) (now : Int) (w : World) (hR : Rd (fun _ => False) w A (l.flatMap acL)) (hl : l.length ≤ 140737488351232) :
    Calls Try.prog 5 #[spv s, .slice A l.length c, .int .i64 now] w (Yes w) := by
  have HR := Lib.hid hR
  clear hR
  have HKN := Lib.hid known13_calls
  have HBS := Lib.hid (heap_alloc_new w (.cells (spc s) 23))
  have HF0 := Lib.hid ((Fr.refl (fun _ => False) w).alloc (.cells (spc s) 23))
  have hmx : Try.prog.follows .mixedOrders = true := by kernel_rfl
  obtain ⟨c0, c1, c2, c3, c4⟩ := sp_cells HBS.out
  by_cases h40 : 40 < l.length
  · have h40d : decide ((40 : Int) < (l.length : Int)) = true := decide_eq_true (by omega)
    go_enter Try.func5, Try.ntmps5
    go_wp2_with (go_at_call 9; refine (HKN.out _).mono ?_; rintro e w6 ⟨rfl, hf6⟩)
    go_ret
    exact ⟨rfl, HF0.out.trans hf6⟩
  have h40d : decide ((40 : Int) < (l.length : Int)) = false := decide_eq_false (by omega)
  by_cases hr : s.Right
  · have HN := Lib.hid (snew_yes s 1000000000 hr (by decide))
    clear hr
    go_enter Try.func5, Try.ntmps5
    go_wp2_with (first
      | (go_at_call 10; refine (HN.out _).mono ?_; rintro e w2 ⟨⟨b, m, rfl, hb, hm, hx⟩, hf2⟩; have HF2 := Lib.hid (HF0.out.trans hf2); have HX2 := Lib.hid hx; have HBM := Lib.hid (show w.heap.size + 1 ≤ b ∧ w.heap.size + 1 ≤ m from (by simp at hb hm; exact ⟨hb, hm⟩)); clear hf2 hx hb hm c0 c1 c2 c3 c4))
    have HLT := Lib.hid (show b < w2.heap.size ∧ m < w2.heap.size from HX2.out.lt)
    clear HN HBS HF0
    go_loopw [9] (fun s9 wr => ∃ (k : Nat) (X : Sh), k ≤ l.length ∧ s9 = .int .i64 (k : Int) ∧ Hid (IsSh wr b m X) ∧ Hid (Fr (ShS b m) w2 wr)) (fun s9 _ => l.length - (intOf s9).toNat)
    case atStart => exact ⟨0, shNew s 1000000000, Nat.zero_le _, rfl, HX2.out, Fr.refl _ _⟩
    case round =>
      obtain ⟨k, X, hk, rfl, HX, HFR⟩ := hrel
      have HFW := Lib.hid (HF2.out.then HFR.out (fun i hi e => by have := HBM.out; rcases e with e | e <;> omega))
      by_cases hlt : k < l.length
      · have hRW := HR.out.kept HFW.out
        obtain ⟨p, off, rfl⟩ := hRW.some_ (by rw [acs_length]; omega)
        have hi1 : (0 : Int) ≤ (k : Int) := by omega
        have hi2 : (k : Int) < (l.length : Int) := by omega
        obtain ⟨d0, d1, d2⟩ := rd_ac hRW k hlt
        generalize l[k] = y at *
        have HDO := Lib.hid (does_any (fun _ => False) b m X (rsv ⟨0, 0, 0, 0, 0⟩ none 0 0 0 0 none 0 0) rs0 y.1 y.2.1 y.2.2 wr HX.out.t0 (rs0_is _ _) rs0_ok (fun _ _ h => h))
        clear hRW
        go_wp2_with (go_at_call 17; (with_reducible refine HDO.out.mono ?_); rintro e wA ⟨X', v', u, ok, rfl, hx', hst', _, _, hfA⟩; have HX' := Lib.hid hx'.sh; have HFA := Lib.hid (HFR.out.trans hfA); clear d0 d1 d2 hx' hst' hfA)
        go_roundw
        case rel => exact ⟨k + 1, X', by omega, by go_num, HX'.out, HFA.out⟩
        case measure => simp [intOf]; omega
      · have hkl : k = l.length := by omega
        subst hkl
        have HOK := Lib.hid HX.out.ok
        have HBY := Lib.hid (fun U (h : Fr0 wr U) => sbytes_calls b m X U (HX.out.kept0 h))
        have hbp := bytesW_pos HOK.out
        generalize bytesW X.L = bw at *
        by_cases hL : 0 < X.L.length
        · have hnw := HOK.out.of.now
          obtain ⟨hn1, hn2⟩ := next_range HOK.out hL hnw.2
          rw [decide_eq_true hL] at hbp
          have HNX := Lib.hid (snext_some b m X wr HX.out hL)
          by_cases hbig : 2147483647 < nextA X
          · have hbd : decide (2147483647 < nextA X) = true := decide_eq_true hbig
            clear hbig hn1 hn2 hnw hL
            generalize nextA X = at_x at *
            go_wp2_with (first
              | (go_at_call 16; (with_reducible refine HNX.out.mono ?_); rintro e w5 ⟨rfl, hf5⟩)
              | (go_at_call 15; (with_reducible refine (HBY.out _ hf5).mono ?_); rintro e w6 ⟨rfl, hf6⟩)
              | (go_at_call 9; refine (HKN.out _).mono ?_; rintro e w7 ⟨rfl, hf7⟩))
            go_ret
            exact ⟨rfl, (HFW.out.trans (hf5.trans hf6)).trans hf7⟩
          · have hbd : decide (2147483647 < nextA X) = false := decide_eq_false hbig
            have HGN := Lib.hid (fun X' O er (h : GoS X (nextA X) X' O er) => go_next HOK.out hL hnw.2 (by omega) h)
            have HGE := Lib.hid (fun (h : now < nextA X) X' O er (hg : GoS X now X' O er) => go_early HOK.out hL h hg)
            clear hbig hn1 hn2 hnw hL
            generalize nextA X = at_x at *
            go_upto_region 16 with (first
              | (go_at_call 16; (with_reducible refine HNX.out.mono ?_); rintro e w5 ⟨rfl, hf5⟩)
              | (go_at_call 15; (with_reducible refine (HBY.out _ hf5).mono ?_); rintro e w6 ⟨rfl, hf6⟩; have HF6 := Lib.hid (hf5.trans hf6); have HCP := Lib.hid (scopy_calls b m X w6 (HX.out.kept0 HF6.out)); clear hf5 hf6)
              | (go_at_call 18; (with_reducible refine HCP.out.mono ?_); rintro e w7 ⟨⟨b2, m2, rfl, hb2, hm2, hx2⟩, hf7⟩; have HF7 := Lib.hid (HF6.out.trans hf7); have HG := Lib.hid (sgo_any (fun _ => False) b2 m2 X now w7 hx2.t0); have HB2 := Lib.hid (show wr.heap.size ≤ b2 ∧ wr.heap.size ≤ m2 from (by have := HF6.out.size; omega)); clear hb2 hm2 hx2 hf7)
              | (go_at_call 12; (with_reducible refine HG.out.mono ?_); rintro e w8 ⟨X2, O2, er2, AO2, cO2, rfl, hOl2, hrO2, hgs2, hx82, hf8⟩; have HF8 := Lib.hid (HF7.out.then hf8 (fun i hi e => by have := HB2.out; rcases e with e | e <;> omega)); have HN2 := Lib.hid (fun h => HGE.out h X2 O2 er2 hgs2); have HG3 := Lib.hid (sgo_any (fun _ => False) b m X at_x w8 (HX.out.kept0 HF8.out).t0); clear HG hf8 hx82 hgs2 hrO2 hOl2))
            have fin : ∀ hdn : (decide (now < at_x) && (decide (er2 = 0) && decide (0 < O2.length))) = false, True := fun _ => trivial
            by_cases h1 : now < at_x
            · have h1d := decide_eq_true h1
              by_cases h2 : er2 = 0
              · have h3 : ¬ 0 < O2.length := fun h => HN2.out h1 ⟨h2, h⟩
                have h3l : O2.length = 0 := by omega
                subst h2
                rw [h3l]
                clear HN2 h1 h3 fin
                go_wp2_with (first
                  | (go_at_call 12; (with_reducible refine HG3.out.mono ?_); rintro e w9 ⟨X3, O3, er3, AO3, cO3, rfl, hOl3, hrO3, hgs3, hx93, hf9⟩; obtain ⟨rfl, hO3, _, _, _⟩ := HGN.out X3 O3 _ hgs3; have hO3d : decide (0 < O3.length) = true := decide_eq_true hO3; have hO3i : decide ((0 : Int) < (O3.length : Int)) = true := (decide_eq_true (by omega)); have HF9 := Lib.hid ((HFW.out.trans HF8.out).then hf9 (fun i hi e => by have := HBM.out; rcases e with e | e <;> omega)); clear hf9 hx93 hgs3 hrO3 hOl3 hO3)
                  | (go_at_call 9; refine (HKN.out _).mono ?_; rintro e w10 ⟨rfl, hf10⟩))
                go_ret
                exact ⟨rfl, HF9.out.trans hf10⟩
              · have h2d : (er2 == 0) = false := by simpa using h2
                have h2e : decide (er2 = 0) = false := decide_eq_false h2
                clear HN2 h1 h2 fin
                go_wp2_with (first
                  | (go_at_call 12; (with_reducible refine HG3.out.mono ?_); rintro e w9 ⟨X3, O3, er3, AO3, cO3, rfl, hOl3, hrO3, hgs3, hx93, hf9⟩; obtain ⟨rfl, hO3, _, _, _⟩ := HGN.out X3 O3 _ hgs3; have hO3d : decide (0 < O3.length) = true := decide_eq_true hO3; have hO3i : decide ((0 : Int) < (O3.length : Int)) = true := (decide_eq_true (by omega)); have HF9 := Lib.hid ((HFW.out.trans HF8.out).then hf9 (fun i hi e => by have := HBM.out; rcases e with e | e <;> omega)); clear hf9 hx93 hgs3 hrO3 hOl3 hO3)
                  | (go_at_call 9; refine (HKN.out _).mono ?_; rintro e w10 ⟨rfl, hf10⟩))
                go_ret
                exact ⟨rfl, HF9.out.trans hf10⟩
            · have h1d := decide_eq_false h1
              clear HN2 h1 fin
              go_wp2_with (first
                | (go_at_call 12; (with_reducible refine HG3.out.mono ?_); rintro e w9 ⟨X3, O3, er3, AO3, cO3, rfl, hOl3, hrO3, hgs3, hx93, hf9⟩; obtain ⟨rfl, hO3, _, _, _⟩ := HGN.out X3 O3 _ hgs3; have hO3d : decide (0 < O3.length) = true := decide_eq_true hO3; have hO3i : decide ((0 : Int) < (O3.length : Int)) = true := (decide_eq_true (by omega)); have HF9 := Lib.hid ((HFW.out.trans HF8.out).then hf9 (fun i hi e => by have := HBM.out; rcases e with e | e <;> omega)); clear hf9 hx93 hgs3 hrO3 hOl3 hO3)
                | (go_at_call 9; refine (HKN.out _).mono ?_; rintro e w10 ⟨rfl, hf10⟩))
              go_ret
              exact ⟨rfl, HF9.out.trans hf10⟩
        · rw [decide_eq_false hL] at hbp
          have hXL : X.L = [] := List.length_eq_zero_iff.1 (by omega)
          have HNX := Lib.hid (snext_none b m X wr HX.out hXL)
          go_wp2_with (first
            | (go_at_call 16; (with_reducible refine HNX.out.mono ?_); rintro e w5 ⟨rfl, hf5⟩)
            | (go_at_call 15; (with_reducible refine (HBY.out _ hf5).mono ?_); rintro e w6 ⟨rfl, hf6⟩)
            | (go_at_call 9; refine (HKN.out _).mono ?_; rintro e w7 ⟨rfl, hf7⟩))
          go_ret
          exact ⟨rfl, (HFW.out.trans (hf5.trans hf6)).trans hf7⟩
  · have HN := Lib.hid (snew_no s 1000000000 (fun h => hr h.1))
    clear hr
    go_enter Try.func5, Try.ntmps5
    go_wp2_with (first
      | (go_at_call 10; refine (HN.out _).mono ?_; rintro e w2 ⟨rfl, hf2⟩)
      | (go_at_call 9; refine (HKN.out _).mono ?_; rintro e w6 ⟨rfl, hf6⟩))
    go_ret
    exact ⟨rfl, (HF0.out.trans hf2).trans hf6⟩
end Go.Proofs.Ytmnadploikcljaa
