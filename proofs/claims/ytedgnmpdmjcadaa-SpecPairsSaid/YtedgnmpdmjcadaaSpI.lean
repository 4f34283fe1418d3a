/- Chapter 02: Joint, Sum, and what they fold. -/
import Derived.Test.YtedgnmpdmjcadaaSpH
set_option linter.unusedVariables false
set_option linter.unusedSimpArgs false
namespace Go.Proofs.Ytedgnmpdmjcadaa
open Go.RowKit

/-- Specs as cells. -/
def sps (l : List Sp) : List Value := l.flatMap fun s => (spc s).toList
theorem sps_length : ∀ l, (sps l).length = 5 * l.length
  | [] => rfl
  | p :: l => by have := sps_length l; simp [sps] at this ⊢; omega
theorem sps_cons (p : Sp) (l : List Sp) : sps (p :: l) = [.int .i64 p.peak, .int .i64 p.rate, .int .i64 p.burst, .int .i64 p.most, .int .i64 p.least] ++ sps l := by simp [sps]
theorem sps_at : ∀ (l : List Sp) (i : Nat) (h : i < l.length) (j : Nat) (hj : j < 5) (h' : i * 5 + j < (sps l).length), (sps l)[i * 5 + j] = (spc l[i])[j]'(by simp; omega)
  | p :: l, 0, _, j, hj, h' => by
    have h5 : j = 0 ∨ j = 1 ∨ j = 2 ∨ j = 3 ∨ j = 4 := by omega
    rcases h5 with rfl | rfl | rfl | rfl | rfl <;> rfl
  | p :: l, i + 1, h, j, hj, h' => by
    have := sps_at l i (by simpa using h) j hj (by rw [sps_length]; simp at h; omega)
    simp only [sps_cons]
    rw [List.getElem_append_right (by simp; omega)]
    simp only [List.length_cons, List.length_nil, List.getElem_cons_succ]
    rw [← this]
    congr 1
    omega
theorem rds_cells {S : Nat → Prop} {w : World} {b off : Nat} {l : List Sp} (h : Rd S w (some ⟨b, off, none⟩) (sps l)) (i : Nat) (hi : i < l.length) :
    w.cell? ⟨b, off + i * 5, none⟩ = some (.int .i64 l[i].peak) ∧ w.cell? ⟨b, off + i * 5 + 1, none⟩ = some (.int .i64 l[i].rate) ∧ w.cell? ⟨b, off + i * 5 + 2, none⟩ = some (.int .i64 l[i].burst) ∧ w.cell? ⟨b, off + i * 5 + 3, none⟩ = some (.int .i64 l[i].most) ∧ w.cell? ⟨b, off + i * 5 + 4, none⟩ = some (.int .i64 l[i].least) := by
  have key : ∀ j (hj : j < 5), w.cell? ⟨b, off + i * 5 + j, none⟩ = some ((spc l[i])[j]'(by simp; omega)) := fun j hj => by
    have hlt : i * 5 + j < (sps l).length := by rw [sps_length]; omega
    have := h.at_ (i * 5 + j) hlt
    rw [sps_at l i hi j hj hlt, ← Nat.add_assoc] at this
    exact this
  exact ⟨key 0 (by omega), key 1 (by omega), key 2 (by omega), key 3 (by omega), key 4 (by omega)⟩

theorem right1_calls (s : Sp) (w : World) : Calls Try.prog 45 #[spv s] w fun e w' => e = .returned (.bool (decide (¬ s.Right))) ∧ Fr0 w w' := by
  have HI := Lib.hid (InS.start w s)
  have HC := Lib.hid (check_calls s)
  by_cases hr : s.Right
  · rw [show chk s = 0 from if_pos hr] at HC
    rw [decide_eq_false (not_not_intro hr)]
    go_enter Try.func45, Try.ntmps45
    go_wp2_with (go_at_call 14; refine (HC.out _).mono ?_; rintro e w1 ⟨rfl, hf⟩)
    go_ret
    exact ⟨rfl, HI.out.2.trans hf⟩
  · rw [show chk s = 2 from if_neg hr] at HC
    rw [decide_eq_true hr]
    go_enter Try.func45, Try.ntmps45
    go_wp2_with (go_at_call 14; refine (HC.out _).mono ?_; rintro e w1 ⟨rfl, hf⟩)
    go_ret
    exact ⟨rfl, HI.out.2.trans hf⟩

def AllR (l : List Sp) : Prop := ∀ s, s ∈ l → s.Right
instance (l : List Sp) : Decidable (AllR l) := by unfold AllR; infer_instance
set_option maxHeartbeats 1000000 in
theorem index2_calls (A : Option Addr) (c : Nat) (l : List Sp) (w : World) (hR : Rd (fun _ => False) w A (sps l)) (hl : l.length ≤ 140737488351232) :
    Calls Try.prog 46 #[.slice A l.length c, .func (.func 45) #[] #[]] w fun e w' => (∃ n : Int, e = .returned (.int .i64 n) ∧ (0 ≤ n ↔ ¬ AllR l)) ∧ Fr0 w w' := by
  have HR := Lib.hid hR
  clear hR
  go_enter Try.func46, Try.ntmps46
  go_wp2_with fail
  go_loopw [8] (fun i wr => ∃ k : Nat, k ≤ l.length ∧ i = .int .i64 (k : Int) ∧ Hid (∀ j (h : j < k) (h' : j < l.length), l[j].Right) ∧ Hid (Fr0 w wr)) (fun i _ => l.length - (intOf i).toNat)
  case atStart => exact ⟨0, by omega, rfl, fun j hj => absurd hj (by omega), Fr.refl _ _⟩
  case round =>
    obtain ⟨k, hk, rfl, HN, HF⟩ := hrel
    by_cases hlt : k < l.length
    · have hR := HR.out.kept HF.out
      obtain ⟨b, off, rfl⟩ := hR.some_ (by rw [sps_length]; omega)
      obtain ⟨c0, c1, c2, c3, c4⟩ := rds_cells hR k hlt
      have HC := Lib.hid (fun w => right1_calls l[k] w)
      have HM := Lib.hid (List.getElem_mem hlt)
      have HNN := Lib.hid (fun (h : l[k].Right) j (hj : j < k + 1) (h' : j < l.length) => (show l[j].Right by
        by_cases e : j = k
        · subst e; exact h
        · exact HN.out j (by omega) h'))
      clear hR
      generalize l[k] = sk at *
      by_cases hr : sk.Right
      · rw [decide_eq_false (not_not_intro hr)] at HC
        have HNW := Lib.hid (HNN.out hr)
        go_wp2_with (go_at_call 45; refine (HC.out _).mono ?_; rintro e w1 ⟨rfl, hf⟩; have HF1 := Lib.hid (HF.out.trans hf); clear hf)
        go_roundw
        case rel => exact ⟨k + 1, by omega, by go_num, HNW.out, HF1.out⟩
        case measure => simp [intOf]; omega
      · rw [decide_eq_true hr] at HC
        have HNO : Hid (¬ AllR l) := Lib.hid (fun h => hr (h sk HM.out))
        go_wp2_with (go_at_call 45; refine (HC.out _).mono ?_; rintro e w1 ⟨rfl, hf⟩; have HF1 := Lib.hid (HF.out.trans hf); clear hf)
        go_ret
        exact ⟨⟨k, rfl, by simp [HNO.out]⟩, HF1.out⟩
    · have HA : Hid (AllR l) := Lib.hid (fun s hs => by
        obtain ⟨j, hj, rfl⟩ := List.getElem_of_mem hs
        exact HN.out j (by omega) hj)
      go_wp2_with fail
      go_ret
      exact ⟨⟨-1, rfl, by simp [HA.out]⟩, HF.out⟩

theorem right_calls (A : Option Addr) (c : Nat) (l : List Sp) (w : World) (hR : Rd (fun _ => False) w A (sps l)) (hl : l.length ≤ 140737488351232) :
    Calls Try.prog 33 #[.slice A l.length c] w fun e w' => e = .returned (.bool (decide (l ≠ [] ∧ AllR l))) ∧ Fr0 w w' := by
  have HX := Lib.hid (index2_calls A c l w hR hl)
  clear hR
  have HCF : Hid (Calls Try.prog 44 #[.slice A l.length c, .func (.func 45) #[] #[]] w fun e w' => e = .returned (.bool (decide (¬ AllR l))) ∧ Fr0 w w') := Lib.hid (by
    go_enter Try.func44, Try.ntmps44
    go_wp2_with (go_at_call 46; refine HX.out.mono ?_; rintro e w1 ⟨⟨n, rfl, hn⟩, hf⟩)
    go_ret
    exact ⟨rtb (by by_cases h : AllR l <;> simp [h] at hn ⊢ <;> omega), hf⟩)
  by_cases he : l = []
  · subst he
    go_enter Try.func33, Try.ntmps33
    go_wp2_with fail
    go_ret
    exact ⟨rfl, Fr.refl _ _⟩
  · have hl0 : 0 < l.length := List.length_pos_iff.2 he
    have e1 : decide (l ≠ [] ∧ AllR l) = !decide (¬ AllR l) := by
      by_cases h : AllR l <;> simp [h, he]
    rw [e1]
    generalize decide (¬ AllR l) = bb at *
    go_enter Try.func33, Try.ntmps33
    go_wp2_with (go_at_call 44; refine HCF.out.mono ?_; rintro e w1 ⟨rfl, hf⟩)
    go_ret
    exact ⟨rfl, hf⟩
end Go.Proofs.Ytedgnmpdmjcadaa
