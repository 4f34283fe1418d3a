/- Chapter 02: the statements' known, and the statements Keeps and Allows walked. -/
import Derived.Test.YtedgnmpdmjcadaaSpF
import Derived.Test.YtedgnmpdmjcadaaOpen
set_option linter.unusedVariables false
set_option linter.unusedSimpArgs false
namespace Go.Proofs.Ytedgnmpdmjcadaa
open Go.RowKit

def Good' (w : World) (e : Ending) (w' : World) : Prop := e = .returned (.bool true) ∧ Fr0 w w'

/-- The spec of the statements' known. -/
abbrev knS : Sp := ⟨10, 2, 20, 8, 1⟩
theorem knS_right : knS.Right := by decide
theorem kn_allows : alw knS 5 = 30 := by decide
theorem kn_keeps : Keeps knS [(0, 8), (1, 8)] := by decide +kernel
theorem kn_breaks : brk knS [(0, 8), (0, 1)] = 1 := by decide +kernel
theorem rd_sends2 (w : World) (a b c d : Int) (t : TypeId) : Rd (fun _ => False) (w.alloc (.cells #[.int .i64 a, .int .i64 b, .int .i64 c, .int .i64 d] t)) (some ⟨w.heap.size, 0, none⟩) (sends [(a, b), (c, d)]) := by
  refine .inr ⟨_, 0, rfl, fun h => h, fun i hi => ?_⟩
  have := cell_of_blk (heap_alloc_new w (.cells #[.int .i64 a, .int .i64 b, .int .i64 c, .int .i64 d] t)) (0 + i)
  rw [this, Nat.zero_add]
  rw [sends_length] at hi
  simp only [List.length_cons, List.length_nil] at hi
  have h4 : i = 0 ∨ i = 1 ∨ i = 2 ∨ i = 3 := by omega
  rcases h4 with rfl | rfl | rfl | rfl <;> rfl

theorem known_calls (w : World) : Calls Try.prog 10 #[] w (Good' w) := by
  have HA := Lib.hid (fun w => allowsx_calls knS 5 w)
  rw [if_pos ⟨knS_right, by decide, by decide⟩, kn_allows] at HA
  have HKP := Lib.hid (fun A w h => keeps_calls knS A 2 [(0, 8), (1, 8)] w h (by decide))
  rw [if_pos knS_right, decide_eq_true kn_keeps] at HKP
  have HBP := Lib.hid (fun A w h => breaks_calls knS A 2 [(0, 8), (0, 1)] w h (by decide))
  rw [if_pos knS_right, kn_breaks] at HBP
  go_enter Try.func10, Try.ntmps10
  go_wp2_with (first
    | (go_at_call 27; refine (some_calls _).mono ?_; rintro e w1 ⟨rfl, hf1⟩)
    | (go_at_call 17; refine (HA.out _).mono ?_; rintro e w2 ⟨rfl, hf2⟩; have HF1 := Lib.hid (hf1.trans hf2); clear hf1 hf2))
  have HF2 := Lib.hid (HF1.out.trans hf1)
  clear hf1
  refine (HKP.out _ _ (rd_sends2 w1 0 8 1 8 _)).mono ?_
  rintro e w3 ⟨rfl, hf3⟩
  have HF3 := Lib.hid ((HF2.out.alloc _).trans hf3)
  clear hf3
  go_wp2_with (first
    | (go_at_call 27; refine (some_calls _).mono ?_; rintro e w4 ⟨rfl, hf4⟩))
  have HF4 := Lib.hid (HF3.out.trans hf4)
  clear hf4
  refine (HBP.out _ _ (rd_sends2 w4 0 8 0 1 _)).mono ?_
  rintro e w5 ⟨rfl, hf5⟩
  have HF5 := Lib.hid ((HF4.out.alloc _).trans hf5)
  clear hf5
  go_wp2_with fail
  go_ret
  exact ⟨rfl, HF5.out⟩

/-- The spec's box, and what lies unturned. -/
def InS (w : World) (b : Nat) (s : Sp) (w' : World) : Prop := w'.heap[b]? = some (.cells (spc s) 23 (0, 0)) ∧ Fr0 w w'
theorem InS.step {w w' w'' : World} {b : Nat} {s : Sp} (h : InS w b s w') (hf : Fr0 w' w'') : InS w b s w'' := ⟨hf.blk h.1 (fun h => h), h.2.trans hf⟩
theorem InS.start (w : World) (s : Sp) : InS w w.heap.size s (w.alloc (.cells (spc s) 23)) := ⟨heap_alloc_new _ _, (Fr.refl _ w).alloc _⟩
theorem InS.cells {w w' : World} {b : Nat} {s : Sp} (h : InS w b s w') : w'.cell? ⟨b, 0, none⟩ = some (.int .i64 s.peak) ∧ w'.cell? ⟨b, 1, none⟩ = some (.int .i64 s.rate) ∧ w'.cell? ⟨b, 2, none⟩ = some (.int .i64 s.burst) ∧ w'.cell? ⟨b, 3, none⟩ = some (.int .i64 s.most) ∧ w'.cell? ⟨b, 4, none⟩ = some (.int .i64 s.least) := sp_cells h.1

theorem keeps_walk (s : Sp) (A : Option Addr) (c : Nat) (l : List (Int × Int)) (w : World) (hR : Rd (fun _ => False) w A (sends l)) (hl : l.length ≤ 140737488351232) (hc : l.length ≤ c) (hcm : c ≤ maxLen) :
    Calls Try.prog 3 #[spv s, .slice A l.length c] w (Good' w) := by
  have HR := Lib.hid hR
  clear hR
  have HI := Lib.hid (InS.start w s)
  by_cases h40 : 40 < l.length
  · go_enter Try.func3, Try.ntmps3
    go_wp2_with (go_at_call 10; refine (known_calls _).mono ?_; rintro e w' ⟨rfl, hf⟩)
    go_ret
    exact ⟨rfl, HI.out.2.trans hf⟩
  · have HK := Lib.hid (fun w' (h : Fr0 w w') => keeps_calls s A c l w' (HR.out.kept h) hl)
    have HBR := Lib.hid (fun w' (h : Fr0 w w') => breaks_calls s A c l w' (HR.out.kept h) hl)
    have HRR := Lib.hid (rright_calls s)
    have HCH := Lib.hid (check_calls s)
    have HKN := Lib.hid (known_calls)
    by_cases hr : s.Right
    · have HRK := Lib.hid (fun w' (h : Fr0 w w') => rkeeps_calls s A c l w' (HR.out.kept h) hl hr)
      have HRB := Lib.hid (fun w' (h : Fr0 w w') => rbreaks_calls s A c l w' (HR.out.kept h) hl hc hcm hr)
      rw [decide_eq_true hr] at HRR
      rw [show chk s = 0 from if_pos hr] at HCH
      rw [if_pos hr] at HK HBR
      generalize decide (Keeps s l) = kp at *
      generalize brk s l = bk at *
      go_enter Try.func3, Try.ntmps3
      go_wp2_with fail
      generalize w.alloc (.cells #[.int .i64 s.peak, .int .i64 s.rate, .int .i64 s.burst, .int .i64 s.most, .int .i64 s.least] 23) = w1 at *
      refine (HK.out _ HI.out.2).mono ?_
      rintro e w2 ⟨rfl, hf2⟩
      have HI := Lib.hid (HI.out.step hf2)
      obtain ⟨b0, b1, b2, b3, b4⟩ := HI.out.cells
      clear hf2
      go_wp2_with (first
        | (go_at_call 12; refine (HBR.out _ HI.out.2).mono ?_; rintro e wk ⟨rfl, hf⟩; have HI := Lib.hid (HI.out.step hf); clear b0 b1 b2 b3 b4; obtain ⟨b0, b1, b2, b3, b4⟩ := HI.out.cells; clear hf)
        | (go_at_call 13; refine (HRR.out _).mono ?_; rintro e wk ⟨rfl, hf⟩; have HI := Lib.hid (HI.out.step hf); clear b0 b1 b2 b3 b4; obtain ⟨b0, b1, b2, b3, b4⟩ := HI.out.cells; clear hf)
        | (go_at_call 14; refine (HCH.out _).mono ?_; rintro e wk ⟨rfl, hf⟩; have HI := Lib.hid (HI.out.step hf); clear b0 b1 b2 b3 b4; obtain ⟨b0, b1, b2, b3, b4⟩ := HI.out.cells; clear hf)
        | (go_at_call 15; refine (HRK.out _ HI.out.2).mono ?_; rintro e wk ⟨rfl, hf⟩; have HI := Lib.hid (HI.out.step hf); clear b0 b1 b2 b3 b4; obtain ⟨b0, b1, b2, b3, b4⟩ := HI.out.cells; clear hf)
        | (go_at_call 16; refine (HRB.out _ HI.out.2).mono ?_; rintro e wk ⟨rfl, hf⟩; have HI := Lib.hid (HI.out.step hf); clear b0 b1 b2 b3 b4; obtain ⟨b0, b1, b2, b3, b4⟩ := HI.out.cells; clear hf)
        | (go_at_call 10; refine (HKN.out _).mono ?_; rintro e wk ⟨rfl, hf⟩; have HI := Lib.hid (HI.out.step hf); clear b0 b1 b2 b3 b4; obtain ⟨b0, b1, b2, b3, b4⟩ := HI.out.cells; clear hf))
      go_ret
      exact ⟨rfl, HI.out.2⟩
    · rw [decide_eq_false hr] at HRR
      rw [show chk s = 2 from if_neg hr] at HCH
      rw [if_neg hr] at HK HBR
      go_enter Try.func3, Try.ntmps3
      go_wp2_with fail
      generalize w.alloc (.cells #[.int .i64 s.peak, .int .i64 s.rate, .int .i64 s.burst, .int .i64 s.most, .int .i64 s.least] 23) = w1 at *
      refine (HK.out _ HI.out.2).mono ?_
      rintro e w2 ⟨rfl, hf2⟩
      have HI := Lib.hid (HI.out.step hf2)
      obtain ⟨b0, b1, b2, b3, b4⟩ := HI.out.cells
      clear hf2
      go_wp2_with (first
        | (go_at_call 12; refine (HBR.out _ HI.out.2).mono ?_; rintro e wk ⟨rfl, hf⟩; have HI := Lib.hid (HI.out.step hf); clear b0 b1 b2 b3 b4; obtain ⟨b0, b1, b2, b3, b4⟩ := HI.out.cells; clear hf)
        | (go_at_call 13; refine (HRR.out _).mono ?_; rintro e wk ⟨rfl, hf⟩; have HI := Lib.hid (HI.out.step hf); clear b0 b1 b2 b3 b4; obtain ⟨b0, b1, b2, b3, b4⟩ := HI.out.cells; clear hf)
        | (go_at_call 14; refine (HCH.out _).mono ?_; rintro e wk ⟨rfl, hf⟩; have HI := Lib.hid (HI.out.step hf); clear b0 b1 b2 b3 b4; obtain ⟨b0, b1, b2, b3, b4⟩ := HI.out.cells; clear hf)
        | (go_at_call 10; refine (HKN.out _).mono ?_; rintro e wk ⟨rfl, hf⟩; have HI := Lib.hid (HI.out.step hf); clear b0 b1 b2 b3 b4; obtain ⟨b0, b1, b2, b3, b4⟩ := HI.out.cells; clear hf))
      go_ret
      exact ⟨rfl, HI.out.2⟩
end Go.Proofs.Ytedgnmpdmjcadaa
