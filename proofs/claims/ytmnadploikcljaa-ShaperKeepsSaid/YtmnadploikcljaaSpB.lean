/- Chapter 02 (tspec): Check, Allows, and the document's Right, Allows. -/
import Derived.Test.YtmnadploikcljaaSpA
set_option linter.unusedVariables false
set_option linter.unusedSimpArgs false
namespace Go.Proofs.Ytmnadploikcljaa
open Go.RowKit

/-- The function that tells flaw k. -/
def flawF : Nat → FuncId
  | 0 => 63
  | 1 => 65
  | _ => 66
theorem flawF_calls (s : Sp) : ∀ (k : Nat) (w : World), k < 3 → Calls Try.prog (flawF k) #[spv s] w fun e w' => e = .returned (.bool (flaw s k)) ∧ Fr0 w w'
  | 0, w, _ => flaw0_calls s w
  | 1, w, _ => flaw1_calls s w
  | 2, w, _ => flaw2_calls s w
  | _ + 3, _, h => absurd h (by omega)

theorem check1_calls (s : Sp) (k : Nat) (b : Nat) (w : World) (hk : k < 3) (hb : w.heap[b]? = some (.cells (spc s) 23 (0, 0))) :
    Calls Try.prog 59 #[.func (.func (flawF k)) #[] #[], .pointer (some ⟨b, 0, none⟩)] w fun e w' => e = .returned (.bool (flaw s k)) ∧ Fr0 w w' := by
  have c0 : w.cell? ⟨b, 0, none⟩ = some (.int .i64 s.peak) := cell_of_blk hb 0
  have c1 : w.cell? ⟨b, 1, none⟩ = some (.int .i64 s.rate) := cell_of_blk hb 1
  have c2 : w.cell? ⟨b, 2, none⟩ = some (.int .i64 s.burst) := cell_of_blk hb 2
  have c3 : w.cell? ⟨b, 3, none⟩ = some (.int .i64 s.most) := cell_of_blk hb 3
  have c4 : w.cell? ⟨b, 4, none⟩ = some (.int .i64 s.least) := cell_of_blk hb 4
  have h3 : k = 0 ∨ k = 1 ∨ k = 2 := by omega
  rcases h3 with rfl | rfl | rfl
  · show Calls Try.prog _ #[.func (.func 63) #[] #[], _] w _
    go_enter Try.func59, Try.ntmps59
    go_wp2_with (go_at_call 63; refine (flaw0_calls s _).mono ?_; rintro e w' ⟨rfl, hf⟩)
    go_ret
    exact ⟨rfl, hf⟩
  · show Calls Try.prog _ #[.func (.func 65) #[] #[], _] w _
    go_enter Try.func59, Try.ntmps59
    go_wp2_with (go_at_call 65; refine (flaw1_calls s _).mono ?_; rintro e w' ⟨rfl, hf⟩)
    go_ret
    exact ⟨rfl, hf⟩
  · show Calls Try.prog _ #[.func (.func 66) #[] #[], _] w _
    go_enter Try.func59, Try.ntmps59
    go_wp2_with (go_at_call 66; refine (flaw2_calls s _).mono ?_; rintro e w' ⟨rfl, hf⟩)
    go_ret
    exact ⟨rfl, hf⟩

/-- The first flaw, or -1. -/
def ixf (s : Sp) : Int := if flaw s 0 then 0 else if flaw s 1 then 1 else if flaw s 2 then 2 else -1
theorem ixf_right (s : Sp) : 0 ≤ ixf s ↔ ¬ s.Right := by
  rw [right_flaw]
  unfold ixf
  cases flaw s 0 <;> cases flaw s 1 <;> cases flaw s 2 <;> simp
theorem index_calls (s : Sp) (b g : Nat) (w : World) (hb : w.heap[b]? = some (.cells (spc s) 23 (0, 0)))
    (hg : w.heap[g]? = some (.cells #[.func (.func 63) #[] #[], .func (.func 65) #[] #[], .func (.func 66) #[] #[]] 88 (0, 0))) :
    Calls Try.prog 62 #[.slice (some ⟨g, 0, none⟩) 3 3, .func (.func 59) #[] #[.pointer (some ⟨b, 0, none⟩)]] w fun e w' => e = .returned (.int .i64 (ixf s)) ∧ Fr0 w w' := by
  go_enter Try.func62, Try.ntmps62
  go_wp2_with fail
  have HB := Lib.hid hb
  have HG := Lib.hid hg
  clear hb hg
  go_loopw [8] (fun i wr => ∃ k : Nat, k ≤ 3 ∧ i = .int .i64 (k : Int) ∧ Hid (∀ j, j < k → flaw s j = false) ∧ Hid (Fr0 w wr)) (fun i _ => 3 - (intOf i).toNat)
  case atStart => exact ⟨0, by omega, rfl, fun j hj => absurd hj (by omega), Fr.refl _ _⟩
  case round =>
    obtain ⟨k, hk, rfl, HN, HF⟩ := hrel
    have hg2 := HF.out.blk HG.out (fun h => h)
    have c0 := cell_of_blk hg2 0
    have c1 := cell_of_blk hg2 1
    have c2 := cell_of_blk hg2 2
    have HB2 := Lib.hid (HF.out.blk HB.out (fun h => h))
    clear hg2
    simp at c0 c1 c2
    have hk4 : k = 0 ∨ k = 1 ∨ k = 2 ∨ k = 3 := by omega
    rcases hk4 with rfl | rfl | rfl | rfl
    · cases hf : flaw s 0
      · have HFL := Lib.hid hf
        clear hf
        go_wp2_with (go_at_call 59; refine (check1_calls s 0 b _ (by omega) HB2.out).mono ?_; rw [HFL.out]; rintro e w1 ⟨rfl, hf1⟩; have HF1 := Lib.hid (HF.out.trans hf1); clear hf1)
        go_roundw
        case rel => exact ⟨1, by omega, rfl, fun j hj => by obtain rfl : j = 0 := by omega
                                                            exact HFL.out, HF1.out⟩
        case measure => simp [intOf]
      · have HFL := Lib.hid hf
        clear hf
        go_wp2_with (go_at_call 59; refine (check1_calls s 0 b _ (by omega) HB2.out).mono ?_; rw [HFL.out]; rintro e w1 ⟨rfl, hf1⟩; have HF1 := Lib.hid (HF.out.trans hf1); clear hf1)
        go_ret
        exact ⟨rti (by simp [ixf, HFL.out]), HF1.out⟩
    · cases hf : flaw s 1
      · have HFL := Lib.hid hf
        clear hf
        go_wp2_with (go_at_call 59; refine (check1_calls s 1 b _ (by omega) HB2.out).mono ?_; rw [HFL.out]; rintro e w1 ⟨rfl, hf1⟩; have HF1 := Lib.hid (HF.out.trans hf1); clear hf1)
        go_roundw
        case rel => exact ⟨2, by omega, rfl, fun j hj => by rcases Nat.lt_or_ge j 1 with h | h
                                                            · exact HN.out j h
                                                            · obtain rfl : j = 1 := by omega
                                                              exact HFL.out, HF1.out⟩
        case measure => simp [intOf]
      · have HFL := Lib.hid hf
        have HN0 := Lib.hid (HN.out 0 (by omega))
        clear hf
        go_wp2_with (go_at_call 59; refine (check1_calls s 1 b _ (by omega) HB2.out).mono ?_; rw [HFL.out]; rintro e w1 ⟨rfl, hf1⟩; have HF1 := Lib.hid (HF.out.trans hf1); clear hf1)
        go_ret
        exact ⟨rti (by simp [ixf, HFL.out, HN0.out]), HF1.out⟩
    · cases hf : flaw s 2
      · have HFL := Lib.hid hf
        clear hf
        go_wp2_with (go_at_call 59; refine (check1_calls s 2 b _ (by omega) HB2.out).mono ?_; rw [HFL.out]; rintro e w1 ⟨rfl, hf1⟩; have HF1 := Lib.hid (HF.out.trans hf1); clear hf1)
        go_roundw
        case rel => exact ⟨3, by omega, rfl, fun j hj => by rcases Nat.lt_or_ge j 2 with h | h
                                                            · exact HN.out j h
                                                            · obtain rfl : j = 2 := by omega
                                                              exact HFL.out, HF1.out⟩
        case measure => simp [intOf]
      · have HFL := Lib.hid hf
        have HN0 := Lib.hid (HN.out 0 (by omega))
        have HN1 := Lib.hid (HN.out 1 (by omega))
        clear hf
        go_wp2_with (go_at_call 59; refine (check1_calls s 2 b _ (by omega) HB2.out).mono ?_; rw [HFL.out]; rintro e w1 ⟨rfl, hf1⟩; have HF1 := Lib.hid (HF.out.trans hf1); clear hf1)
        go_ret
        exact ⟨rti (by simp [ixf, HFL.out, HN0.out, HN1.out]), HF1.out⟩
    · have HN0 := Lib.hid (HN.out 0 (by omega))
      have HN1 := Lib.hid (HN.out 1 (by omega))
      have HN2 := Lib.hid (HN.out 2 (by omega))
      go_wp2_with fail
      go_ret
      exact ⟨rti (by simp [ixf, HN0.out, HN1.out, HN2.out]), HF.out⟩

theorem heap_alloc_new2 (w : World) (o o' : Obj) : ((w.alloc o).alloc o').heap[w.heap.size + 1]? = some o' := by
  have h := heap_alloc_new (w.alloc o) o'
  rwa [show (w.alloc o).heap.size = w.heap.size + 1 by simp] at h
/-- What Check answers. -/
def chk (s : Sp) : Int := if s.Right then 0 else 2
theorem check_calls (s : Sp) (w : World) : Calls Try.prog 46 #[spv s] w fun e w' => e = .returned (.int .i64 (chk s)) ∧ Fr0 w w' := by
  have hmf : ∀ (fn : Fn) (first cap : Array Value) (w : World), (Instr.makeFunc fn first cap).run Try.prog w = .ok (.func fn first cap) w := fun _ _ _ _ => rfl
  have hcf : ∀ (g b : Nat) (w1 : World), Hid (w1.heap[b]? = some (.cells (spc s) 23 (0, 0))) →
      Hid (w1.heap[g]? = some (.cells #[.func (.func 63) #[] #[], .func (.func 65) #[] #[], .func (.func 66) #[] #[]] 88 (0, 0))) →
      Calls Try.prog 57 #[.slice (some ⟨g, 0, none⟩) 3 3, .func (.func 59) #[] #[.pointer (some ⟨b, 0, none⟩)]] w1 fun e w' => e = .returned (.bool (decide (0 ≤ ixf s))) ∧ Fr0 w1 w' := by
    intro g b w1 hb hg
    go_enter Try.func57, Try.ntmps57
    go_wp2_with (go_at_call 62; refine (index_calls s b g _ hb.out hg.out).mono ?_; rintro e w2 ⟨rfl, hf⟩)
    go_ret
    exact ⟨rfl, hf⟩
  have HB := Lib.hid (heap_alloc_new w (.cells (spc s) 23))
  have hfl : ∀ w1 : World, Calls Try.prog 58 #[] w1 fun e w2 => e = .returned (.slice (some ⟨w1.heap.size, 0, none⟩) 3 3) ∧ w1.alloc (.cells #[.func (.func 63) #[] #[], .func (.func 65) #[] #[], .func (.func 66) #[] #[]] 88) = w2 := by
    intro w1
    go_enter Try.func58, Try.ntmps58
    go_wp2
    go_ret
    exact ⟨rfl, rfl⟩
  have HIX := Lib.hid (ixf_right s)
  have HG2 := Lib.hid (heap_alloc_new2 w (.cells (spc s) 23) (.cells #[.func (.func 63) #[] #[], .func (.func 65) #[] #[], .func (.func 66) #[] #[]] 88))
  by_cases hr : s.Right
  · have hd : decide (0 ≤ ixf s) = false := decide_eq_false (fun h => HIX.out.1 h hr)
    rw [hd] at hcf
    have HCF := Lib.hid hcf
    have HFL := Lib.hid hfl
    clear hcf hfl
    go_enter Try.func46, Try.ntmps46
    go_wp2_with (first
      | (go_at_call 58; refine (HFL.out _).mono ?_; rintro e w2 ⟨rfl, rfl⟩)
      | (go_at_call 57; refine (HCF.out _ _ _ (Lib.hid (blk_alloc HB.out _)) HG2).mono ?_; rintro e w3 ⟨rfl, hf3⟩))
    go_ret
    exact ⟨by rw [show chk s = 0 from if_pos hr]; rfl, (((Fr.refl _ w).alloc _).alloc _).trans hf3⟩
  · have hd : decide (0 ≤ ixf s) = true := decide_eq_true (HIX.out.2 hr)
    rw [hd] at hcf
    have HCF := Lib.hid hcf
    have HFL := Lib.hid hfl
    clear hcf hfl
    go_enter Try.func46, Try.ntmps46
    go_wp2_with (first
      | (go_at_call 58; refine (HFL.out _).mono ?_; rintro e w2 ⟨rfl, rfl⟩)
      | (go_at_call 57; refine (HCF.out _ _ _ (Lib.hid (blk_alloc HB.out _)) HG2).mono ?_; rintro e w3 ⟨rfl, hf3⟩))
    go_ret
    exact ⟨by rw [show chk s = 2 from if_neg hr]; rfl, (((Fr.refl _ w).alloc _).alloc _).trans hf3⟩
end Go.Proofs.Ytmnadploikcljaa
