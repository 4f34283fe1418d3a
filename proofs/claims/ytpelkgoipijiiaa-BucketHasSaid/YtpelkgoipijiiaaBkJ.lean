/- Chapter 12: three packets that are known; the statements BucketNil and BucketWhen walked. -/
import Derived.Test.YtpelkgoipijiiaaBkI
set_option linter.unusedVariables false
set_option linter.unusedSimpArgs false
namespace Go.Proofs.Ytpelkgoipijiiaa
open Go.RowKit

/-- True, and nothing that lay there turned. -/
def Yes (w : World) (e : Ending) (w' : World) : Prop := e = .returned (.bool true) ∧ Fr0 w w'
theorem fr_new {g : Nat} {w w1 w2 : World} (h : Fr0 w w1) (hg : w.heap.size ≤ g) (k : Fr (· = g) w1 w2) : Fr0 w w2 := h.then k (fun i hi e => by subst e; omega)

set_option maxRecDepth 10000 in
theorem known12_calls (w : World) : Calls Try.prog 9 #[] w (Yes w) := by
  have h0 := bkOf_new knP_right
  have H0 := Lib.hid (fun g => takeOf_calls h0 g 0 8)
  have h1 := h0.tk 0 8
  have H1 := Lib.hid (fun g => takeOf_calls h1 g 0 1)
  have h2 := h1.tk 0 1
  have H2 := Lib.hid (fun g => takeOf_calls h2 g 1 8)
  have h3 := h2.tk 1 8
  have H3 := Lib.hid (fun g => whenOf_calls h3 g 1 8)
  have d0 : decide (okTk knP [] (bkNew knP) 0 8) = true ∧ askA (bkNew knP) 0 = 0 := by decide
  have d1 : decide (okTk knP (lTk knP [] (bkNew knP) 0 8) ((bkNew knP).tk 0 8) 0 1) = false ∧ askA ((bkNew knP).tk 0 8) 0 = 0 := by decide
  have d2 : decide (okTk knP (lTk knP (lTk knP [] (bkNew knP) 0 8) ((bkNew knP).tk 0 8) 0 1) (((bkNew knP).tk 0 8).tk 0 1) 1 8) = true ∧ askA (((bkNew knP).tk 0 8).tk 0 1) 1 = 0 := by decide
  have d3 : whA ((((bkNew knP).tk 0 8).tk 0 1).tk 1 8) 1 8 = (2, 0) := by decide
  rw [d0.1, d0.2] at H0
  rw [d1.1, d1.2] at H1
  rw [d2.1, d2.2] at H2
  rw [d3] at H3
  clear d0 d1 d2 d3 h0 h1 h2 h3
  generalize (((bkNew knP).tk 0 8).tk 0 1).tk 1 8 = B3 at *
  generalize ((bkNew knP).tk 0 8).tk 0 1 = B2 at *
  generalize (bkNew knP).tk 0 8 = B1 at *
  have HN := Lib.hid (new_yes knP knP_right)
  go_enter Try.func9, Try.ntmps9
  go_wp2_with (go_at_call 24; refine (some12_calls _).mono ?_; rintro e w1 ⟨rfl, hf1⟩)
  refine (HN.out _).mono ?_
  rintro e w2 ⟨⟨g, rfl, hg, hb2⟩, hf2⟩
  have HF := Lib.hid (hf1.trans hf2)
  have HG := Lib.hid (show w.heap.size ≤ g by have := hf1.size; omega)
  have HB := Lib.hid hb2
  clear hf1 hf2 hg hb2
  go_wp2_with fail
  refine (H0.out g _ HB.out).mono ?_
  rintro e w3 ⟨rfl, hb3, hf3⟩
  have HF := Lib.hid (fr_new HF.out HG.out hf3)
  have HB := Lib.hid hb3
  clear hf3 hb3
  go_wp2_with fail
  refine (H1.out g _ HB.out).mono ?_
  rintro e w4 ⟨rfl, hb3, hf3⟩
  have HF := Lib.hid (fr_new HF.out HG.out hf3)
  have HB := Lib.hid hb3
  clear hf3 hb3
  go_wp2_with fail
  refine (H2.out g _ HB.out).mono ?_
  rintro e w5 ⟨rfl, hb3, hf3⟩
  have HF := Lib.hid (fr_new HF.out HG.out hf3)
  have HB := Lib.hid hb3
  clear hf3 hb3
  go_wp2_with fail
  refine (H3.out g _ HB.out).mono ?_
  rintro e w6 ⟨rfl, hf3⟩
  have HF := Lib.hid (HF.out.trans hf3)
  clear hf3
  go_wp2_with fail
  go_ret
  exact ⟨rfl, HF.out⟩
end Go.Proofs.Ytpelkgoipijiiaa
