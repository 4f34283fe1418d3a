/- The statement SpecGreedy walked. -/
import Derived.Test.YtedgnmpdmjcadaaSpN
set_option linter.unusedVariables false
set_option linter.unusedSimpArgs false
namespace Go.Proofs.Ytedgnmpdmjcadaa
open Go.RowKit

theorem send_elem : Elem Try.prog 40 2 16 := Elem.of (.agg #[.int .i64 0, .int .i64 0]) (by kernel_rfl) rfl (by decide)
theorem sends_one (l : List (Int × Int)) : ∀ u ∈ sends l, u.oneCell' = true := by
  intro u hu
  simp only [sends, List.mem_flatMap] at hu
  obtain ⟨p, _, hu⟩ := hu
  simp only [List.mem_cons, List.not_mem_nil, or_false] at hu
  rcases hu with rfl | rfl <;> rfl
theorem rd_send1 (S : Nat → Prop) (w : World) (a b : Int) (t : TypeId) (hS : ¬ S w.heap.size) : Rd S (w.alloc (.cells #[.int .i64 a, .int .i64 b] t)) (some ⟨w.heap.size, 0, none⟩) (sends [(a, b)]) := rd_new S w [.int .i64 a, .int .i64 b] t hS

attribute [local irreducible] at_ sz_ sumF alw

set_option maxHeartbeats 1000000 in
set_option maxRecDepth 4000 in
theorem greedy_walk (s : Sp) (n : Int) (w : World) (hn : -9223372036854775808 ≤ n ∧ n ≤ 9223372036854775807) :
    Calls Try.prog 5 #[spv s, .int .i64 n] w (Good' w) := by
  have HI := Lib.hid (InS.start w s)
  have HCH := Lib.hid (check_calls s)
  have HKN := Lib.hid known_calls
  by_cases hok : s.Right ∧ 1 ≤ n ∧ n ≤ 20
  · obtain ⟨hr, n1, n2⟩ := hok
    rw [show chk s = 0 from if_pos hr] at HCH
    obtain ⟨m, rfl⟩ := Int.eq_ofNat_of_zero_le (show 0 ≤ n by omega)
    go_enter Try.func5, Try.ntmps5
    go_wp2_with fail
    refine (HCH.out _).mono ?_
    rintro e w1 ⟨rfl, hf1⟩
    have HI := Lib.hid (HI.out.step hf1)
    clear hf1
    go_wp2_with fail
    go_loopw [5, 6, 7] (fun lv atv iv wr => ∃ (L : List (Int × Int)) (a0 : Int), L.length ≤ m ∧ iv = .int .i64 (L.length : Int) ∧ atv = .int .i64 a0 ∧ 0 ≤ a0 ∧ a0 ≤ 2000 * L.length ∧ Hid (Keeps s L) ∧ Hid (0 < L.length → at_ L (L.length - 1) = a0) ∧ Hid (sumF L 0 L.length = L.length * s.most) ∧ Hid (wr.ownsRow w1.heap.size 40 2 lv L.length (sends L)) ∧ Hid (InS w w.heap.size s wr) ∧ Hid (Fr0 w1 wr)) (fun _ _ iv _ => m - (intOf iv).toNat)
    case atStart => exact ⟨[], 0, by simp, rfl, rfl, by omega, by simp, fun i hi => absurd hi (by simp), fun h => absurd h (by simp), by show sumF [] 0 0 = _; rw [sumF_self]; simp, own_nil _ _ _ _, HI.out, Fr.refl _ _⟩
    case round =>
      obtain ⟨L, a0, hL, rfl, rfl, ha0, ha1, HK, HLA, HSU, HO, HIR, HF⟩ := hrel
      obtain ⟨A, c, rfl, hlc, hcm⟩ := own_form HO.out
      obtain ⟨b0, b1, b2, b3, b4⟩ := HIR.out.cells
      by_cases hlt : L.length < m
      · have HRM := Lib.hid (greedy_room s hr L a0 HK.out ha0 (by omega) HLA.out)
        have hlm : L.length ≤ 20 := by omega
        have hq4 := hr.r4
        have hq5 := hr.r5
        have hq6 := hr.r6
        go_wp2_with fail
        clear b0 b1 b2 b3 b4
        obtain ⟨wm, rfl⟩ : ∃ wm : World, wm = wr := ⟨_, rfl⟩
        go_loopw [4, 6, 8, 9, 10] (fun _ atv tv _ _ wr => ∃ t : Nat, t ≤ 2000 ∧ atv = .int .i64 (a0 + t) ∧ tv = .int .i64 (t : Int) ∧ Hid (Fr0 wm wr)) (fun _ _ tv _ _ _ => 2001 - (intOf tv).toNat)
        case atStart => exact ⟨0, by omega, by simp, rfl, Fr.refl _ _⟩
        case round =>
          obtain ⟨t, ht, rfl, rfl, HFM⟩ := hrel
          have HIN := Lib.hid (HIR.out.step HFM.out)
          have hsp := HIN.out.cells
          have hO := own_kept0 HO.out HFM.out
          have HOR := Lib.hid hO
          have HRD := Lib.hid (own_rd (fun _ => False) hO (fun _ _ _ h => h))
          have HAN : Hid (A = none → L.length = 0) := Lib.hid (fun e => by
            subst e
            rcases Nat.eq_zero_or_pos L.length with h | h
            · exact h
            · obtain ⟨g, cap, e, _⟩ := hO.form h
              cases e)
          have hlen : (sends L).length = L.length * 2 := by rw [sends_length]; omega
          have HLN := Lib.hid hlen
          clear hO hlen
          have HKW := Lib.hid (fun (w' : World) A2 c2 (h : Rd (fun _ => False) w' A2 (sends (L ++ [(a0 + t, s.most)]))) => (by
            have := keeps_calls s A2 c2 (L ++ [(a0 + t, s.most)]) w' h (by simp; omega)
            rwa [if_pos hr, List.length_append] at this : Calls Try.prog 11 #[spv s, .slice A2 (L.length + 1) c2] w' fun e w'' => e = .returned (.tuple #[.bool (decide (Keeps s (L ++ [(a0 + t, s.most)]))), .int .i64 0]) ∧ Fr0 w' w''))
          have HK : ∀ U, Fr0 wr U → ((U.cell? ⟨w.heap.size, 0, none⟩ = some (.int .i64 s.peak) ∧ U.cell? ⟨w.heap.size, 1, none⟩ = some (.int .i64 s.rate) ∧ U.cell? ⟨w.heap.size, 2, none⟩ = some (.int .i64 s.burst) ∧ U.cell? ⟨w.heap.size, 3, none⟩ = some (.int .i64 s.most) ∧ U.cell? ⟨w.heap.size, 4, none⟩ = some (.int .i64 s.least)) ∧ Fr0 wr U) := fun U h =>
            ⟨⟨h.cell hsp.1 (fun h => h), h.cell hsp.2.1 (fun h => h), h.cell hsp.2.2.1 (fun h => h), h.cell hsp.2.2.2.1 (fun h => h), h.cell hsp.2.2.2.2 (fun h => h)⟩, h⟩
          go_wp2_with fail
          go_region_held3 (fun U => (U.cell? ⟨w.heap.size, 0, none⟩ = some (.int .i64 s.peak) ∧ U.cell? ⟨w.heap.size, 1, none⟩ = some (.int .i64 s.rate) ∧ U.cell? ⟨w.heap.size, 2, none⟩ = some (.int .i64 s.burst) ∧ U.cell? ⟨w.heap.size, 3, none⟩ = some (.int .i64 s.most) ∧ U.cell? ⟨w.heap.size, 4, none⟩ = some (.int .i64 s.least)) ∧ Fr0 wr U) (exact HK _ (by repeat (first | assumption | exact Fr.refl _ _ | exact And.right (by assumption) | refine Fr.drew ?_ | refine Fr.alloc ?_ _ | refine Fr.trans ?_ (by assumption))))
            (first
              | (go_at_call 11; have hh := HKW.out w4 A2 c2 hrd4; refine hh.mono ?_; rintro e wA ⟨rfl, hfA⟩)
              | (refine step_app rfl (.const (.slice none 0 0)) (.tmp 35) _ rfl Try.underlying24 send_elem (base := wr.heap.size) (.slice none 0 0) 0 [] rfl (own_nil _ _ _ _) (fun _ => False) A L.length c (sends L) rfl (HRD.out.kept (And.right (by assumption))) HLN.out (sends_one _) (by simp only [maxLen]; omega) (by omega) (Fr.size (And.right (by assumption))) HAN.out ?_; intro v1 w3 hown1 hg1 hat1; have hfr3 := Fr.grown (And.right (by assumption) : Fr0 wr _) hg1 (by simp [Value.ownBlock]); have hfn3 := Fr.grown (Fr.refl (fun _ => False) _) hg1 (by simp [Value.ownBlock]))
              | (refine step_app rfl (.tmp 36) (.tmp 41) _ rfl Try.underlying24 send_elem (base := wr.heap.size) v1 (0 + L.length) ([] ++ sends L) rfl (by first | exact hown1 | exact own_kept0 hown1 ((Fr.refl _ w3).alloc _)) (fun _ => False) _ 1 1 (sends [(a0 + t, s.most)]) rfl (by first | exact rd_send1 _ _ _ _ _ (fun h => h) | exact Rd.kept (Rd.kept (rd_send1 _ wr _ _ _ (fun h => h)) (Fr.refl _ _).drew) hfn3) rfl (sends_one _) (by simp only [maxLen]; omega) (by omega) (Fr.size (And.right (by assumption))) (by simp) ?_; intro v2 w4 hown2 hg2 hat2; rw [Nat.zero_add, List.nil_append, ← sends_append] at hown2; obtain ⟨A2, c2, rfl, _, _⟩ := own_form hown2; have hfr4 := Fr.grown (And.right (by assumption) : Fr0 wr _) hg2 (fun g hg e => by have := (hown1.lt g e).1; omega); have hrd4 := own_rd (fun _ => False) hown2 (fun _ _ _ h => h)))
          all_goals
            have hFA : Fr0 wr wA := And.right (by assumption)
            have hspA := HK _ hFA
            obtain ⟨⟨b0, b1, b2, b3, b4⟩, _⟩ := hspA
            have HFA := Lib.hid hFA
            clear hFA hfA HK hsp hh hrd4 hown1 hown2 hg1 hg2 hat1 hat2 hfr3 hfn3 hfr4
            by_cases hk : Keeps s (L ++ [(a0 + t, s.most)])
            · have hkt := decide_eq_true hk
              have HKK := Lib.hid hk
              have HOA := Lib.hid (own_kept0 HOR.out (HFA.out.alloc (.cells #[.int .i64 (a0 + t), .int .i64 s.most] 40)))
              have HF1A := Lib.hid (HF.out.trans (HFM.out.trans HFA.out))
              clear hk
              rw [hkt]
              go_wp2_with (at_builtin; refine wpList_app rfl (.tmp 57) (.tmp 62) _ rfl Try.underlying24 send_elem (base := w1.heap.size) (.slice A L.length c) L.length (sends L) rfl HOA.out (fun _ => False) _ 1 1 (sends [(a0 + t, s.most)]) rfl (rd_send1 _ wA _ _ _ (fun h => h)) rfl (sends_one _) (by simp only [maxLen]; omega) (by omega) ((HF1A.out.alloc _).size) (by simp) ?_; intro v3 w5 hown hg hat; rw [← sends_append] at hown; have HO5 := Lib.hid hown; have HF5 := Lib.hid ((HF1A.out.alloc _).grown hg (fun g hg e => by have := (HO.out.lt g e).1; omega)); clear hown hg hat)
              go_roundw
              case rel =>
                refine ⟨L ++ [(a0 + t, s.most)], a0 + t, by simp; omega, by simp, rfl, by omega, by simp; omega, HKK.out, fun _ => ?_, ?_, by rw [List.length_append]; exact HO5.out, HI.out.step HF5.out, HF5.out⟩
                · rw [List.length_append, show L.length + [(a0 + (t : Int), s.most)].length - 1 = L.length by simp, at_new]
                · rw [List.length_append]
                  show sumF _ 0 (L.length + 1) = _
                  rw [sumF_new _ _ _ (Nat.zero_le _), HSU.out]
                  simp [Int.add_mul]
              case measure => simp [intOf]; omega
            · have hkf := decide_eq_false hk
              have htl : t < 2000 := by
                rcases Nat.lt_or_ge t 2000 with h | h
                · exact h
                · obtain rfl : t = 2000 := by omega
                  exact absurd HRM.out hk
              clear hk
              rw [hkf]
              go_wp2_with fail
              go_roundw
              case rel => exact ⟨t + 1, by omega, by go_num, by go_num, HFM.out.trans HFA.out⟩
              case measure => simp [intOf]; omega
      · have hlm : L.length = m := by omega
        have hkk := HK.out
        have hg0 := (hkk 0 (by omega)).tick
        have hgl := (hkk (L.length - 1) (by omega)).bytes 0 (by omega)
        have hmo := at_mono (fun j hj => hkk j (by omega)) (hkk (L.length - 1) (by omega)).order 0 (by omega)
        rw [show L.length - 1 + 1 = L.length by omega, HSU.out, HLA.out (by omega)] at hgl
        rw [HLA.out (by omega)] at hmo
        have hal := alw_mono hr (t := a0 - at_ L 0) (u := a0) (by omega) (by omega)
        have hle : (m : Int) * s.most ≤ alw s a0 := by rw [← hlm]; omega
        have hra := alw_range hr (t := a0) ha0 (by omega)
        have HKW := Lib.hid (keeps_calls s A c L wr (own_rd _ HO.out (fun _ _ _ h => h)) (by omega))
        rw [if_pos hr, decide_eq_true hkk] at HKW
        have HAW := Lib.hid (fun w => allowsx_calls s a0 w)
        rw [if_pos ⟨hr, ha0, by omega⟩] at HAW
        have hq4 := hr.r4
        have hq5 := hr.r5
        have hmm : 0 ≤ (m : Int) * s.most := Int.mul_nonneg (by omega) (by omega)
        have hd : decide ((m : Int) * s.most ≤ alw s a0) = true := decide_eq_true hle
        have hdm : decide ((L.length : Int) < (m : Int)) = false := decide_eq_false (by omega)
        have hdm2 : decide (L.length < m) = false := decide_eq_false (by omega)
        clear hkk hg0 hgl hmo hal hlm
        generalize alw s a0 = va at *
        go_wp2_with fail
        refine HKW.out.mono ?_
        rintro e w2 ⟨rfl, hf2⟩
        have HI2 := Lib.hid (HIR.out.step hf2)
        clear b0 b1 b2 b3 b4 hf2
        obtain ⟨b0, b1, b2, b3, b4⟩ := HI2.out.cells
        go_wp2_with fail
        refine (HAW.out _).mono ?_
        rintro e w3 ⟨rfl, hf3⟩
        have HI3 := Lib.hid (HI2.out.step hf3)
        clear b0 b1 b2 b3 b4 hf3
        go_wp2_with (go_at_call 10; refine (HKN.out _).mono ?_; rintro e wk ⟨rfl, hf⟩)
        go_ret
        exact ⟨rfl, HI3.out.2.trans hf⟩
  · by_cases hr : s.Right
    · rw [show chk s = 0 from if_pos hr] at HCH
      by_cases h1 : n < 1
      · go_enter Try.func5, Try.ntmps5
        go_wp2_with fail
        refine (HCH.out _).mono ?_
        rintro e w1 ⟨rfl, hf1⟩
        have HI := Lib.hid (HI.out.step hf1)
        clear hf1
        go_wp2_with (go_at_call 10; refine (HKN.out _).mono ?_; rintro e wk ⟨rfl, hf⟩)
        go_ret
        exact ⟨rfl, HI.out.2.trans hf⟩
      · have h2 : 20 < n := Int.not_le.1 (fun h => hok ⟨hr, by omega, h⟩)
        go_enter Try.func5, Try.ntmps5
        go_wp2_with fail
        refine (HCH.out _).mono ?_
        rintro e w1 ⟨rfl, hf1⟩
        have HI := Lib.hid (HI.out.step hf1)
        clear hf1
        go_wp2_with (go_at_call 10; refine (HKN.out _).mono ?_; rintro e wk ⟨rfl, hf⟩)
        go_ret
        exact ⟨rfl, HI.out.2.trans hf⟩
    · rw [show chk s = 2 from if_neg hr] at HCH
      go_enter Try.func5, Try.ntmps5
      go_wp2_with fail
      refine (HCH.out _).mono ?_
      rintro e w1 ⟨rfl, hf1⟩
      have HI := Lib.hid (HI.out.step hf1)
      clear hf1
      go_wp2_with (go_at_call 10; refine (HKN.out _).mono ?_; rintro e wk ⟨rfl, hf⟩)
      go_ret
      exact ⟨rfl, HI.out.2.trans hf⟩
end Go.Proofs.Ytedgnmpdmjcadaa
