/- Chapter 02: Within, and the statement SpecFollows walked. -/
import Derived.Test.YtedgnmpdmjcadaaSpL
import Derived.Deep.DeepCutAuto
set_option linter.unusedVariables false
set_option linter.unusedSimpArgs false
namespace Go.Proofs.Ytedgnmpdmjcadaa
open Go.RowKit

structure Inn (a b : Sp) : Prop where
  i0 : a.peak ≤ b.peak
  i1 : a.rate ≤ b.rate
  i2 : a.burst ≤ b.burst
  i3 : a.most ≤ b.most
  i4 : b.least ≤ a.least
theorem Inn.iff (a b : Sp) : Inn a b ↔ (a.peak ≤ b.peak ∧ a.rate ≤ b.rate ∧ a.burst ≤ b.burst ∧ a.most ≤ b.most ∧ b.least ≤ a.least) := ⟨fun ⟨p, q, r, s, t⟩ => ⟨p, q, r, s, t⟩, fun ⟨p, q, r, s, t⟩ => ⟨p, q, r, s, t⟩⟩
instance (a b : Sp) : Decidable (Inn a b) := decidable_of_iff _ (Inn.iff a b).symm

/-- The numbers of a spec, such that less is within more. -/
abbrev numA (s : Sp) : Array Value := #[.int .i64 s.peak, .int .i64 s.rate, .int .i64 s.burst, .int .i64 s.most, .int .i64 (-s.least)]
theorem numbers_calls (s : Sp) (w : World) (hr : s.Right) : Calls Try.prog 37 #[spv s] w fun e w' => e = .returned (.agg (numA s)) ∧ (w.alloc (.cells (spc s) 23)).alloc (.cells (numA s) 67) = w' := by
  obtain ⟨q1, q2, q3, q4, q5, q6, q7, q8⟩ := hr
  go_enter Try.func37, Try.ntmps37
  go_wp2_with fail
  exact bodyPost_ret (results_cell_row rfl _ _ (w.heap.size + 1) _ _ _ _ rfl (heap_alloc_new2 w _ _) Try.underlying67 rfl (by kernel_rfl)) rfl ⟨rfl, rfl⟩
/-- Number k. -/
def numk (s : Sp) : Nat → Int
  | 0 => s.peak
  | 1 => s.rate
  | 2 => s.burst
  | 3 => s.most
  | _ => -s.least
theorem inn_num (a b : Sp) : Inn a b ↔ ∀ k, k < 5 → numk a k ≤ numk b k := by
  constructor
  · rintro ⟨h0, h1, h2, h3, h4⟩ k hk
    have h5 : k = 0 ∨ k = 1 ∨ k = 2 ∨ k = 3 ∨ k = 4 := by omega
    rcases h5 with rfl | rfl | rfl | rfl | rfl <;> simp only [numk] <;> omega
  · intro h
    have h0 := h 0 (by omega)
    have h1 := h 1 (by omega)
    have h2 := h 2 (by omega)
    have h3 := h 3 (by omega)
    have h4 := h 4 (by omega)
    simp only [numk] at h0 h1 h2 h3 h4
    exact ⟨h0, h1, h2, h3, by omega⟩
theorem index_num (s : Sp) (k : Nat) (hk : k < 5) (w : World) : (Instr.index 67 (.agg (numA s)) (.int .i64 (k : Int))).run Try.prog w = .ok (.int .i64 (numk s k)) w := by
  have h5 : k = 0 ∨ k = 1 ∨ k = 2 ∨ k = 3 ∨ k = 4 := by omega
  rcases h5 with rfl | rfl | rfl | rfl | rfl <;> rfl
/-- A block that holds the numbers. -/
def NumB (w : World) (b : Nat) (s : Sp) : Prop := w.heap[b]? = some (.cells (numA s) 67 (0, 0))
theorem NumB.cell {w : World} {b : Nat} {s : Sp} (h : NumB w b s) (k : Nat) (hk : k < 5) : w.cell? ⟨b, k, none⟩ = some (.int .i64 (numk s k)) := by
  rw [cell_of_blk h k]
  have h5 : k = 0 ∨ k = 1 ∨ k = 2 ∨ k = 3 ∨ k = 4 := by omega
  rcases h5 with rfl | rfl | rfl | rfl | rfl <;> rfl

theorem heap_alloc_n {w : World} {n : Nat} {o : Obj} (hn : w.heap.size = n) : (w.alloc o).heap[n]? = some o := hn ▸ heap_alloc_new w o
set_option maxHeartbeats 4000000 in
theorem within2_calls (a b : Sp) (w : World) : Calls Try.prog 23 #[spv a, spv b] w fun e w' => e = .returned (if a.Right ∧ b.Right then .tuple #[.bool (decide (Inn a b)), .int .i64 0] else .tuple #[.bool false, .int .i64 2]) ∧ Fr0 w w' := by
  have HB := Lib.hid (((Bx.nil w).box1 a rfl).box1 (n := w.heap.size + 1) b (by simp))
  have HCA := Lib.hid (check_calls a)
  have HCB := Lib.hid (check_calls b)
  by_cases ha : a.Right
  · rw [show chk a = 0 from if_pos ha] at HCA
    by_cases hb : b.Right
    · rw [show chk b = 0 from if_pos hb] at HCB
      rw [if_pos ⟨ha, hb⟩]
      have HNA := Lib.hid (fun w => numbers_calls a w ha)
      have HNB := Lib.hid (fun w => numbers_calls b w hb)
      have HII := Lib.hid (inn_num a b)
      go_enter Try.func23, Try.ntmps23
      go_wp2_with fail
      refine (HCA.out _).mono ?_
      rintro e w1 ⟨rfl, hf1⟩
      have HB := Lib.hid (HB.out.step hf1)
      obtain ⟨b0, b1, b2, b3, b4⟩ := HB.out.at (b := w.heap.size + 1) (s := b) (by simp)
      clear hf1
      go_wp2_with fail
      refine (HCB.out _).mono ?_
      rintro e w2 ⟨rfl, hf2⟩
      have HB := Lib.hid (HB.out.step hf2)
      clear hf2 b0 b1 b2 b3 b4
      obtain ⟨b0, b1, b2, b3, b4⟩ := HB.out.at (b := w.heap.size + 1) (s := b) (by simp)
      obtain ⟨a0, a1, a2, a3, a4⟩ := HB.out.at (b := w.heap.size) (s := a) (by simp)
      go_upto_region 3 with fail
      have HK : ∀ U, Fr0 w2 U → ((U.cell? ⟨w.heap.size, 0, none⟩ = some (.int .i64 a.peak) ∧ U.cell? ⟨w.heap.size, 1, none⟩ = some (.int .i64 a.rate) ∧ U.cell? ⟨w.heap.size, 2, none⟩ = some (.int .i64 a.burst) ∧ U.cell? ⟨w.heap.size, 3, none⟩ = some (.int .i64 a.most) ∧ U.cell? ⟨w.heap.size, 4, none⟩ = some (.int .i64 a.least)) ∧
          (U.cell? ⟨w.heap.size + 1, 0, none⟩ = some (.int .i64 b.peak) ∧ U.cell? ⟨w.heap.size + 1, 1, none⟩ = some (.int .i64 b.rate) ∧ U.cell? ⟨w.heap.size + 1, 2, none⟩ = some (.int .i64 b.burst) ∧ U.cell? ⟨w.heap.size + 1, 3, none⟩ = some (.int .i64 b.most) ∧ U.cell? ⟨w.heap.size + 1, 4, none⟩ = some (.int .i64 b.least))) := fun U h =>
        ⟨⟨h.cell a0 (fun h => h), h.cell a1 (fun h => h), h.cell a2 (fun h => h), h.cell a3 (fun h => h), h.cell a4 (fun h => h)⟩, h.cell b0 (fun h => h), h.cell b1 (fun h => h), h.cell b2 (fun h => h), h.cell b3 (fun h => h), h.cell b4 (fun h => h)⟩
      clear a0 a1 a2 a3 a4 b0 b1 b2 b3 b4
      go_cut [6, 7] (fun s6 s7 wx => ∃ x y : Nat, s6 = .pointer (some ⟨x, 0, none⟩) ∧ s7 = .pointer (some ⟨y, 0, none⟩) ∧ Hid (NumB wx x a) ∧ Hid (NumB wx y b) ∧ Hid (Fr0 w2 wx))
      case first =>
        go_region_held3 (fun U => (U.cell? ⟨w.heap.size, 0, none⟩ = some (.int .i64 a.peak) ∧ U.cell? ⟨w.heap.size, 1, none⟩ = some (.int .i64 a.rate) ∧ U.cell? ⟨w.heap.size, 2, none⟩ = some (.int .i64 a.burst) ∧ U.cell? ⟨w.heap.size, 3, none⟩ = some (.int .i64 a.most) ∧ U.cell? ⟨w.heap.size, 4, none⟩ = some (.int .i64 a.least)) ∧
          (U.cell? ⟨w.heap.size + 1, 0, none⟩ = some (.int .i64 b.peak) ∧ U.cell? ⟨w.heap.size + 1, 1, none⟩ = some (.int .i64 b.rate) ∧ U.cell? ⟨w.heap.size + 1, 2, none⟩ = some (.int .i64 b.burst) ∧ U.cell? ⟨w.heap.size + 1, 3, none⟩ = some (.int .i64 b.most) ∧ U.cell? ⟨w.heap.size + 1, 4, none⟩ = some (.int .i64 b.least)))
          (exact HK _ (by repeat (first | exact Fr.refl _ _ | refine Fr.drew ?_ | refine Fr.alloc ?_ _)))
          (first
            | (go_at_call_of 37 (Value.agg #[.int .i64 a.peak, .int .i64 a.rate, .int .i64 a.burst, .int .i64 a.most, .int .i64 a.least]); refine (HNA.out _).mono ?_; rintro e wA ⟨rfl, rfl⟩)
            | (go_at_call_of 37 (Value.agg #[.int .i64 b.peak, .int .i64 b.rate, .int .i64 b.burst, .int .i64 b.most, .int .i64 b.least]); refine (HNB.out _).mono ?_; rintro e wA ⟨rfl, rfl⟩))
        all_goals
          go_wp2_with fail
          go_meet
          exact ⟨_, _, rfl, rfl, Lib.hid (by unfold NumB; refine blk_drew ?_; repeat (first | (refine heap_alloc_n ?_; (simp; done)) | refine blk_alloc ?_ _)), Lib.hid (by unfold NumB; refine blk_drew ?_; repeat (first | (refine heap_alloc_n ?_; (simp; done)) | refine blk_alloc ?_ _)),
            Lib.hid (by repeat (first | exact Fr.refl _ _ | refine Fr.drew ?_ | refine Fr.alloc ?_ _))⟩
      case rest =>
        obtain ⟨x, y, rfl, rfl, HX, HY, HF⟩ := hcut
        have HF2 := Lib.hid (HB.out.2.trans HF.out)
        have x0 : wc.cell? ⟨x, 0, none⟩ = some (.int .i64 a.peak) := HX.out.cell 0 (by omega)
        have x1 : wc.cell? ⟨x, 1, none⟩ = some (.int .i64 a.rate) := HX.out.cell 1 (by omega)
        have x2 : wc.cell? ⟨x, 2, none⟩ = some (.int .i64 a.burst) := HX.out.cell 2 (by omega)
        have x3 : wc.cell? ⟨x, 3, none⟩ = some (.int .i64 a.most) := HX.out.cell 3 (by omega)
        have x4 : wc.cell? ⟨x, 4, none⟩ = some (.int .i64 (-a.least)) := HX.out.cell 4 (by omega)
        clear HNA HNB HK HB HF HX HCA HCB
        go_wp2_with fail
        clear x0 x1 x2 x3 x4
        go_loop [23] (fun i => ∃ k : Nat, k ≤ 5 ∧ i = .int .i64 (k : Int) ∧ Hid (∀ j, j < k → numk a j ≤ numk b j)) (fun i => 5 - (intOf i).toNat)
        case atStart => exact ⟨0, by omega, rfl, fun j hj => absurd hj (by omega)⟩
        case round =>
          obtain ⟨k, hk, rfl, HN⟩ := hrel
          by_cases hlt : k < 5
          · have y0 := HY.out.cell k hlt
            have ia := index_num a k hlt
            have HNO := Lib.hid (fun (h : numk b k < numk a k) => (fun hi => by have := (HII.out.1 hi) k hlt; omega : ¬ Inn a b))
            have HNY := Lib.hid (fun (h : numk a k ≤ numk b k) j (hj : j < k + 1) => (show numk a j ≤ numk b j by
              by_cases e : j = k
              · subst e; exact h
              · exact HN.out j (by omega)))
            generalize numk a k = na at *
            generalize numk b k = nb at *
            by_cases hgt : nb < na
            · have HNI := Lib.hid (decide_eq_false (HNO.out hgt))
              go_wp2_with fail
              go_ret2
              rw [HNI.out]
              exact ⟨rfl, HF2.out⟩
            · have HNZ := Lib.hid (HNY.out (by omega))
              go_wp2_with fail
              go_round
              case rel => exact ⟨k + 1, by omega, by go_num, HNZ.out⟩
              case measure => simp [intOf]; omega
          · have HI : Hid (Inn a b) := Lib.hid (HII.out.2 (fun j hj => HN.out j (by omega)))
            go_wp2_with fail
            go_ret2
            rw [decide_eq_true HI.out]
            exact ⟨rfl, HF2.out⟩
    · rw [show chk b = 2 from if_neg hb] at HCB
      rw [if_neg (fun h => hb h.2)]
      go_enter Try.func23, Try.ntmps23
      go_wp2_with fail
      refine (HCA.out _).mono ?_
      rintro e w1 ⟨rfl, hf1⟩
      have HB := Lib.hid (HB.out.step hf1)
      obtain ⟨b0, b1, b2, b3, b4⟩ := HB.out.at (b := w.heap.size + 1) (s := b) (by simp)
      clear hf1
      go_wp2_with fail
      refine (HCB.out _).mono ?_
      rintro e w2 ⟨rfl, hf2⟩
      have HB := Lib.hid (HB.out.step hf2)
      go_wp2_with fail
      go_ret2
      exact ⟨rfl, HB.out.2⟩
  · rw [show chk a = 2 from if_neg ha] at HCA
    rw [if_neg (fun h => ha h.1)]
    go_enter Try.func23, Try.ntmps23
    go_wp2_with fail
    refine (HCA.out _).mono ?_
    rintro e w1 ⟨rfl, hf1⟩
    have HB := Lib.hid (HB.out.step hf1)
    go_wp2_with fail
    go_ret2
    exact ⟨rfl, HB.out.2⟩
end Go.Proofs.Ytedgnmpdmjcadaa
