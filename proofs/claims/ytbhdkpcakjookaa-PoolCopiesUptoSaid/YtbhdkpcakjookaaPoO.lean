/- Chapter 24: the statement PoolBends walked. -/
import Derived.Test.YtbhdkpcakjookaaPoN
set_option linter.unusedVariables false
set_option linter.unusedSimpArgs false
namespace Go.Proofs.Ytbhdkpcakjookaa
open Go.RowKit
attribute [local go_sem] Oper.semAt_some

def Yes (w : World) (e : Ending) (w' : World) : Prop := e = .returned (.bool true) ∧ Fr0 w w'
theorem bendB_twice (bs : List UInt8) (q : Int) : bendB (bendB bs q) q = bs := by
  by_cases h : bs = []
  · subst h; simp [bendB]
  · have hl : 0 < bs.length := List.length_pos_iff.2 h
    have hlt := rnd_lt q (8 * bs.length) (by omega)
    unfold bendB
    simp only [List.length_set]
    have hi : rnd q (8 * bs.length) / 8 < bs.length := by omega
    generalize rnd q (8 * bs.length) / 8 = i at *
    generalize (128 : UInt8) >>> UInt8.ofNat _ = k
    simp only [List.getD_eq_getElem?_getD, List.getElem?_set_self hi, Option.getD_some, List.set_set]
    rw [UInt8.xor_assoc, UInt8.xor_self, UInt8.xor_zero, List.getElem?_eq_getElem hi, Option.getD_some, List.set_getElem_self]
theorem bit_ne : ∀ j, j < 8 → ((128 : UInt8) >>> UInt8.ofNat j) ≠ 0 := by
  intro j hj
  have : j = 0 ∨ j = 1 ∨ j = 2 ∨ j = 3 ∨ j = 4 ∨ j = 5 ∨ j = 6 ∨ j = 7 := by omega
  rcases this with rfl | rfl | rfl | rfl | rfl | rfl | rfl | rfl <;> decide
theorem bendB_ne (bs : List UInt8) (q : Int) : bendB bs q = bs ↔ bs = [] := by
  constructor
  · intro e
    by_cases h : bs = []
    · exact h
    · exfalso
      have hl : 0 < bs.length := List.length_pos_iff.2 h
      have hlt := rnd_lt q (8 * bs.length) (by omega)
      have hk := bit_ne (rnd q (8 * bs.length) % 8) (Nat.mod_lt _ (by decide))
      unfold bendB at e
      have hi : rnd q (8 * bs.length) / 8 < bs.length := by omega
      generalize rnd q (8 * bs.length) / 8 = i at *
      generalize (128 : UInt8) >>> UInt8.ofNat _ = k at *
      have h2 := congrArg (fun l => l[i]?) e
      simp only [List.getD_eq_getElem?_getD, List.getElem?_set_self hi, List.getElem?_eq_getElem hi, Option.getD_some, Option.some.injEq] at h2
      apply hk
      have h3 : bs[i] ^^^ (bs[i] ^^^ k) = bs[i] ^^^ bs[i] := by rw [h2]
      rwa [← UInt8.xor_assoc, UInt8.xor_self, UInt8.zero_xor] at h3
  · rintro rfl; exact bendB_nil q
set_option maxRecDepth 100000 in
set_option maxHeartbeats 2000000 in
theorem pbends_walk (A : Option Addr) (c : Nat) (bs : List UInt8) (q : Int) (w : World) (hR : Rd (fun _ => False) w A (u8s bs)) (hl : bs.length ≤ 140737488351232) (hq : -9223372036854775808 ≤ q ∧ q ≤ 9223372036854775807) :
    Calls Try.prog 3 #[.slice A bs.length c, .int .i64 q] w (Yes w) := by
  have HKN := Lib.hid known24_calls
  by_cases hn : bs.length ≤ 4096
  · have hg : ¬ (4096 : Int) < (bs.length : Int) := by omega
    have HBS := Lib.hid (BArg.of_rd hR (by omega))
    clear hR
    go_enter Try.func3, Try.ntmps3
    go_wp2_with fail
    refine (pw_new 3 w w (Fr.refl _ _) (by decide)).mono ?_
    rintro e W1 ⟨b, rfl, h1, hf1⟩
    have H1 := Lib.hid h1
    have HB1 := Lib.hid (HBS.out.kept hf1)
    clear h1 hf1
    go_wp2_with fail
    refine (pw_put H1.out 0 0 A c bs (by decide) HB1.out hn (by decide) (by decide)).mono ?_
    rintro e W2 ⟨rfl, h2, hf2⟩
    have H2 := Lib.hid h2
    have HB2 := Lib.hid (H1.out.kb hf2 _ _ HB1.out)
    clear h2 hf2
    obtain ⟨bb, hbb⟩ : ∃ bb, bb = bendB bs q := ⟨_, rfl⟩
    have HBB := Lib.hid hbb
    have HLB := Lib.hid (show bb.length = bs.length by rw [hbb, bendB_length])
    clear hbb
    go_wp2_with fail
    refine (pw_bend H2.out 0 q 0 ⟨1, 0, 0, bs⟩ (by simp) (by decide) hq (by intro m hm; have h0 : m = ⟨0 + 1, 0, 0, bs⟩ := (by simpa using hm); rw [h0]; exact hn) rfl rfl ⟨1, 0, 0, bb⟩ (by simp [Msg.bend, HBB.out]) [⟨1, 0, 0, bb⟩] rfl).mono ?_
    rintro e W3 ⟨⟨A3, c3, rfl, hb3, _⟩, h3, hf3⟩
    have hfa := (Fr.refl (fun _ => False) W3).alloc (.cells (rmc ⟨⟨1, 0, 0, bb⟩, A3, c3⟩).toArray 31)
    have H3 := Lib.hid (h3.kept hfa)
    have HB3 := Lib.hid ((H2.out.kb hf3 _ _ HB2.out).kept hfa)
    have HC3 := Lib.hid (hb3.kept hfa)
    have HX3 := Lib.hid (heap_alloc_new W3 (.cells (rmc ⟨⟨1, 0, 0, bb⟩, A3, c3⟩).toArray 31))
    have HL3 := Lib.hid h3.lt
    clear h3 hf3 hfa hb3
    go_wp2_with fail
    refine (pw_bend H3.out 0 q 0 ⟨1, 0, 0, bb⟩ (by simp) (by decide) hq (by intro m hm; have h0 : m = ⟨1, 0, 0, bb⟩ := (by simpa using hm); rw [h0]; show bb.length ≤ 4096; rw [HLB.out]; exact hn) rfl rfl ⟨1, 0, 0, bs⟩ (by simp [Msg.bend, HBB.out, bendB_twice]) [⟨1, 0, 0, bs⟩] rfl).mono ?_
    rintro e W4 ⟨⟨A4, c4, rfl, hb4, _⟩, h4, hf4⟩
    have hfa := (Fr.refl (fun _ => False) W4).alloc (.cells (rmc ⟨⟨1, 0, 0, bs⟩, A4, c4⟩).toArray 31)
    have H4 := Lib.hid (h4.kept hfa)
    have HB4 := Lib.hid ((H3.out.kb hf4 _ _ HB3.out).kept hfa)
    have HC4 := Lib.hid ((H3.out.kb hf4 _ _ HC3.out).kept hfa)
    have HD4 := Lib.hid (hb4.kept hfa)
    have HX4 := Lib.hid (hfa.blk (hf4.blk HX3.out (fun e => by have := HL3.out; omega)) (fun h => h))
    have HY4 := Lib.hid (heap_alloc_new W4 (.cells (rmc ⟨⟨1, 0, 0, bs⟩, A4, c4⟩).toArray 31))
    have HL4 := Lib.hid h4.lt
    clear h4 hf4 hfa hb4
    go_wp2_with fail
    refine (pw_take H4.out 0 0 ⟨1, 0, 0, bs⟩ (by simp) (by decide) rfl rfl [] rfl).mono ?_
    rintro e W5 ⟨⟨A5, c5, rfl, hb5, _⟩, h5, hf5⟩
    have hfa := (Fr.refl (fun _ => False) W5).alloc (.cells (rmc ⟨⟨1, 0, 0, bs⟩, A5, c5⟩).toArray 31)
    have HF := Lib.hid (h5.kept hfa).fr
    have s0 := ((H4.out.kb hf5 _ _ HB4.out).kept hfa).str c
    have s3 := ((H4.out.kb hf5 _ _ HC4.out).kept hfa).str c3
    have s4 := ((H4.out.kb hf5 _ _ HD4.out).kept hfa).str c4
    have s5 := (hb5.kept hfa).str c5
    obtain ⟨⟨x0, x1, x2, x3⟩, _⟩ := m_cells (hfa.blk (hf5.blk HX4.out (fun e => by have := HL3.out; have := HL4.out; omega)) (fun h => h))
    obtain ⟨⟨y0, y1, y2, y3⟩, _⟩ := m_cells (hfa.blk (hf5.blk HY4.out (fun e => by have := HL4.out; omega)) (fun h => h))
    obtain ⟨⟨z0, z1, z2, z3⟩, _⟩ := m_cells (heap_alloc_new W5 (.cells (rmc ⟨⟨1, 0, 0, bs⟩, A5, c5⟩).toArray 31))
    have HSB := Lib.hid (str_beq bb bs)
    have HS0 := Lib.hid (str_beq bs bs)
    clear h5 hf5 hfa hb5
    go_upto_region 8 with fail
    generalize W5.alloc (.cells (rmc ⟨⟨1, 0, 0, bs⟩, A5, c5⟩).toArray 31) = W6 at *
    have e1 : ((str bs).toList == (str bs).toList) = true := by rw [HS0.out]; simp
    rcases Nat.eq_zero_or_pos bs.length with h0 | h0
    · obtain rfl : bs = [] := List.length_eq_zero_iff.1 h0
      obtain rfl : bb = [] := List.length_eq_zero_iff.1 HLB.out
      simp only [List.length_nil] at s0 s3 s4 s5 x3 y3 z3
      clear h0
      go_wp2_with (go_at_call 9; refine (HKN.out _).mono ?_; rintro e w' ⟨rfl, hf⟩)
      all_goals first
        | (exfalso; have := HLB.out; omega)
        | (go_ret; exact ⟨rfl, HF.out.trans hf⟩)
        | trace_state
    · have e2 : ((str bb).toList == (str bs).toList) = false := by
        rw [HSB.out, HBB.out]
        simp only [decide_eq_false_iff_not, bendB_ne]
        intro e; rw [e] at h0; exact absurd h0 (by decide)
      go_wp2_with (go_at_call 9; refine (HKN.out _).mono ?_; rintro e w' ⟨rfl, hf⟩)
      all_goals first
        | (exfalso; have := HLB.out; omega)
        | (go_ret; exact ⟨rfl, HF.out.trans hf⟩)
        | trace_state
  · have hg : (4096 : Int) < (bs.length : Int) := by omega
    go_enter Try.func3, Try.ntmps3
    go_wp2_with (go_at_call 9; refine (HKN.out _).mono ?_; rintro e w' ⟨rfl, hf⟩)
    go_ret
    exact ⟨rfl, hf⟩
end Go.Proofs.Ytbhdkpcakjookaa
