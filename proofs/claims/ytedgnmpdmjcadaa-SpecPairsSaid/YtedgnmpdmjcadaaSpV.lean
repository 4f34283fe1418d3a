/- Chapter 02: the statement SpecFollows walked: who keeps to a spec keeps to the joint one. -/
import Derived.Test.YtedgnmpdmjcadaaSpM
set_option linter.unusedVariables false
set_option linter.unusedSimpArgs false
namespace Go.Proofs.Ytedgnmpdmjcadaa
open Go.RowKit

theorem join_right {a b : Sp} (ha : a.Right) (hb : b.Right) : (joinS a b).Right := by
  obtain ⟨p1, p2, p3, p4, p5, p6, p7, p8⟩ := ha
  obtain ⟨q1, q2, q3, q4, q5, q6, q7, q8⟩ := hb
  constructor <;> simp only [joinS] <;> omega
theorem join_inn1 (a b : Sp) : Inn a (joinS a b) := by constructor <;> simp only [joinS] <;> omega
theorem join_inn2 (a b : Sp) : Inn b (joinS a b) := by constructor <;> simp only [joinS] <;> omega
theorem alw_inn {a b : Sp} (h : Inn a b) {t : Int} (h0 : 0 ≤ t) : alw a t ≤ alw b t := by
  obtain ⟨i0, i1, i2, i3, i4⟩ := h
  have x := Int.mul_le_mul_of_nonneg_right i0 h0
  have y := Int.mul_le_mul_of_nonneg_right i1 h0
  unfold alw
  omega
theorem keeps_inn {a b : Sp} (h : Inn a b) {l : List (Int × Int)} (hk : Keeps a l) : Keeps b l := fun i hi => by
  have g := hk i hi
  have hi' := h
  obtain ⟨i0, i1, i2, i3, i4⟩ := h
  refine ⟨g.tick, ⟨by have := g.size; omega, by have := g.size; omega⟩, g.order, fun k hki => ?_⟩
  have hm := at_mono (fun j hj => hk j (by omega)) g.order k hki
  exact Int.le_trans (g.bytes k hki) (alw_inn hi' (by omega))

set_option maxHeartbeats 1000000 in
theorem follows_walk (a b : Sp) (A : Option Addr) (c : Nat) (l : List (Int × Int)) (w : World) (hR : Rd (fun _ => False) w A (sends l)) (hl : l.length ≤ 140737488351232) :
    Calls Try.prog 8 #[spv a, spv b, .slice A l.length c] w (Good' w) := by
  have HR := Lib.hid hR
  clear hR
  have HB := Lib.hid (((Bx.nil w).box1 a rfl).box1 (n := w.heap.size + 1) b (by simp))
  have HKN := Lib.hid known_calls
  by_cases h40 : 40 < l.length
  · go_enter Try.func8, Try.ntmps8
    go_wp2_with (go_at_call 10; refine (HKN.out _).mono ?_; rintro e w' ⟨rfl, hf⟩)
    go_ret
    exact ⟨rfl, HB.out.2.trans hf⟩
  · have H1 := Lib.hid (jointA_calls [a, b] 2 rfl)
    by_cases hok : a.Right ∧ b.Right
    · obtain ⟨ha, hb⟩ := hok
      have hj : jnA [a, b] = (joinS a b, 0) := by
        unfold jnA
        rw [if_pos ⟨by simp, fun s hs => by rcases List.mem_cons.1 hs with rfl | hs; exact ha; rcases List.mem_cons.1 hs with rfl | hs; exact hb; cases hs⟩]
        rfl
      have hjr := join_right ha hb
      have hi1 := join_inn1 a b
      have hi2 := join_inn2 a b
      have HKK := Lib.hid (fun h => keeps_inn (l := l) (join_inn1 a b) h)
      have HKA := Lib.hid (fun w' (h : Fr0 w w') => keeps_calls a A c l w' (HR.out.kept h) hl)
      have HKJ := Lib.hid (fun w' (h : Fr0 w w') => keeps_calls (joinS a b) A c l w' (HR.out.kept h) hl)
      have HW1 := Lib.hid (within2_calls a (joinS a b))
      have HW2 := Lib.hid (within2_calls b (joinS a b))
      rw [if_pos ⟨ha, hjr⟩, decide_eq_true hi1] at HW1
      rw [if_pos ⟨hb, hjr⟩, decide_eq_true hi2] at HW2
      rw [if_pos ha] at HKA
      rw [if_pos hjr] at HKJ
      rw [hj] at H1
      clear hj hi1 hi2 hjr ha hb
      generalize joinS a b = j at *
      dsimp only at H1
      have hcase : (decide (Keeps a l) = true ∧ decide (Keeps j l) = true) ∨ (decide (Keeps a l) = false) := by
        by_cases h : Keeps a l
        · exact .inl ⟨decide_eq_true h, decide_eq_true (HKK.out h)⟩
        · exact .inr (decide_eq_false h)
      have HCASE := Lib.hid hcase
      clear hcase HKK
      generalize decide (Keeps a l) = ka at *
      generalize decide (Keeps j l) = kj at *
      go_enter Try.func8, Try.ntmps8
      go_wp2_with fail
      refine (H1.out _ _ (rd_newn _ (sps [a, b]) _ (by simp) (fun h => h)) (by decide)).mono ?_
      rintro e w1 ⟨rfl, hf1⟩
      have HB := Lib.hid (((HB.out.any _).step hf1).box j)
      clear hf1
      obtain ⟨a0, a1, a2, a3, a4⟩ := HB.out.at (b := w.heap.size) (s := a) (by simp)
      obtain ⟨b0, b1, b2, b3, b4⟩ := HB.out.at (b := w.heap.size + 1) (s := b) (by simp)
      go_wp2_with fail
      refine (HW1.out _).mono ?_
      rintro e w2 ⟨rfl, hf2⟩
      have HB := Lib.hid (HB.out.step hf2)
      clear hf2 a0 a1 a2 a3 a4 b0 b1 b2 b3 b4
      obtain ⟨a0, a1, a2, a3, a4⟩ := HB.out.at (b := w1.heap.size) (s := j) (by simp)
      obtain ⟨b0, b1, b2, b3, b4⟩ := HB.out.at (b := w.heap.size + 1) (s := b) (by simp)
      go_wp2_with fail
      refine (HW2.out _).mono ?_
      rintro e w3 ⟨rfl, hf3⟩
      have HB := Lib.hid (HB.out.step hf3)
      clear hf3 a0 a1 a2 a3 a4 b0 b1 b2 b3 b4
      obtain ⟨a0, a1, a2, a3, a4⟩ := HB.out.at (b := w.heap.size) (s := a) (by simp)
      go_wp2_with fail
      refine (HKA.out _ HB.out.2).mono ?_
      rintro e w4 ⟨rfl, hf4⟩
      have HB := Lib.hid (HB.out.step hf4)
      clear hf4 a0 a1 a2 a3 a4
      obtain ⟨a0, a1, a2, a3, a4⟩ := HB.out.at (b := w1.heap.size) (s := j) (by simp)
      go_wp2_with fail
      refine (HKJ.out _ HB.out.2).mono ?_
      rintro e w5 ⟨rfl, hf5⟩
      have HB := Lib.hid (HB.out.step hf5)
      clear hf5 a0 a1 a2 a3 a4
      rcases HCASE.out with ⟨h1, h2⟩ | h1
      · subst h1
        subst h2
        go_wp2_with (go_at_call 10; refine (HKN.out _).mono ?_; rintro e w' ⟨rfl, hf⟩)
        go_ret
        exact ⟨rfl, HB.out.2.trans hf⟩
      · subst h1
        go_wp2_with (go_at_call 10; refine (HKN.out _).mono ?_; rintro e w' ⟨rfl, hf⟩)
        go_ret
        exact ⟨rfl, HB.out.2.trans hf⟩
    · have hj : jnA [a, b] = (noS, 2) := by
        unfold jnA
        rw [if_neg (fun h => hok ⟨h.2 a (by simp), h.2 b (by simp)⟩)]
      rw [hj] at H1
      clear hj hok
      dsimp only at H1
      go_enter Try.func8, Try.ntmps8
      go_wp2_with fail
      refine (H1.out _ _ (rd_newn _ (sps [a, b]) _ (by simp) (fun h => h)) (by decide)).mono ?_
      rintro e w1 ⟨rfl, hf1⟩
      have HB := Lib.hid (((HB.out.any _).step hf1).box noS)
      clear hf1
      go_wp2_with (go_at_call 10; refine (HKN.out _).mono ?_; rintro e w' ⟨rfl, hf⟩)
      go_ret
      exact ⟨rfl, HB.out.2.trans hf⟩
end Go.Proofs.Ytedgnmpdmjcadaa
