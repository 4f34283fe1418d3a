/- Several texts in one: SpA SpB SpCb. -/
import Derived.Test.YtjldogfpccbkeaaProg
import Derived.Test.YtjldogfpccbkeaaM1
import Derived.Test.YtjldogfpccbkeaaM1
import Derived.Test.YtjldogfpccbkeaaM1
import Derived.Deep.RegionHeld3
import Derived.BigRegion
import Derived.Laws.Rows
/- Chapter 02 (tspec): what a spec is, the small functions. -/
set_option linter.unusedVariables false
set_option linter.unusedSimpArgs false
namespace Go.Proofs.Ytjldogfpccbkeaa
open Go.RowKit

/-- A spec. -/
structure Sp where
  peak : Int
  rate : Int
  burst : Int
  most : Int
  least : Int
deriving DecidableEq
abbrev spc (s : Sp) : Array Value := #[.int .i64 s.peak, .int .i64 s.rate, .int .i64 s.burst, .int .i64 s.most, .int .i64 s.least]
abbrev spv (s : Sp) : Value := .agg #[.int .i64 s.peak, .int .i64 s.rate, .int .i64 s.burst, .int .i64 s.most, .int .i64 s.least]
structure Sp.Right (s : Sp) : Prop where
  r1 : 1 ≤ s.rate
  r2 : s.rate ≤ s.peak
  r3 : s.peak ≤ 1000000
  r4 : 1 ≤ s.least
  r5 : s.least ≤ s.most
  r6 : s.most ≤ 2000
  r7 : s.most ≤ s.burst
  r8 : s.burst ≤ 10000000
theorem Sp.right_iff (s : Sp) : s.Right ↔ (1 ≤ s.rate ∧ s.rate ≤ s.peak ∧ s.peak ≤ 1000000 ∧ 1 ≤ s.least ∧ s.least ≤ s.most ∧ s.most ≤ 2000 ∧ s.most ≤ s.burst ∧ s.burst ≤ 10000000) :=
  ⟨fun ⟨a, b, c, d, e, f, g, h⟩ => ⟨a, b, c, d, e, f, g, h⟩, fun ⟨a, b, c, d, e, f, g, h⟩ => ⟨a, b, c, d, e, f, g, h⟩⟩
instance (s : Sp) : Decidable s.Right := decidable_of_iff _ s.right_iff.symm
/-- How many bytes it allows. -/
def alw (s : Sp) (t : Int) : Int := min (s.most + s.peak * t) (s.burst + s.rate * t)

theorem mul_le_of {a b x y : Int} (ha : 0 ≤ a) (hb : a ≤ x) (hc : 0 ≤ b) (hd : b ≤ y) : 0 ≤ a * b ∧ a * b ≤ x * y :=
  ⟨Int.mul_nonneg ha hc, Int.mul_le_mul hb hd hc (Int.le_trans ha hb)⟩
theorem alw_prod {s : Sp} (h : s.Right) {t : Int} (h0 : 0 ≤ t) (h1 : t ≤ 2147483647) : (0 ≤ s.peak * t ∧ s.peak * t ≤ 2147483647000000) ∧ (0 ≤ s.rate * t ∧ s.rate * t ≤ 2147483647000000) := by
  obtain ⟨a, b, c, d, e, f, g, i⟩ := h
  have x := mul_le_of (a := s.peak) (b := t) (x := 1000000) (y := 2147483647) (by omega) (by omega) h0 h1
  have y := mul_le_of (a := s.rate) (b := t) (x := 1000000) (y := 2147483647) (by omega) (by omega) h0 h1
  omega
theorem alw_range {s : Sp} (h : s.Right) {t : Int} (h0 : 0 ≤ t) (h1 : t ≤ 2147483647) : 1 ≤ alw s t ∧ alw s t ≤ 2147483657000000 := by
  obtain ⟨⟨a, b⟩, c, d⟩ := alw_prod h h0 h1
  obtain ⟨q1, q2, q3, q4, q5, q6, q7, q8⟩ := h
  unfold alw
  omega

theorem rti {k : IntKind} {a b : Int} (h : a = b) : Ending.returned (.int k a) = .returned (.int k b) := by rw [h]
theorem rtb {a b : Bool} (h : a = b) : Ending.returned (.bool a) = .returned (.bool b) := by rw [h]

theorem within_calls (n lo hi : Int) (w : World) : Calls Try.prog 80 #[.int .i64 n, .int .i64 lo, .int .i64 hi] w fun e w' => e = .returned (.bool (decide (lo ≤ n ∧ n ≤ hi))) ∧ w = w' := by
  by_cases h1 : lo ≤ n
  · go_enter Try.func80, Try.ntmps80
    go_wp2_with fail
    go_ret
    simp [h1]
  · go_enter Try.func80, Try.ntmps80
    go_wp2_with fail
    go_ret
    exact ⟨rtb (by have : ¬ lo ≤ n := by omega
                   simp [this]), rfl⟩

/-- What is wrong with a spec, by number. -/
def flaw (s : Sp) : Nat → Bool
  | 0 => decide (¬ (1 ≤ s.rate ∧ s.rate ≤ 1000000) ∨ ¬ (s.rate ≤ s.peak ∧ s.peak ≤ 1000000))
  | 1 => decide (¬ (1 ≤ s.most ∧ s.most ≤ 2000) ∨ ¬ (1 ≤ s.least ∧ s.least ≤ s.most))
  | _ => decide (¬ (s.most ≤ s.burst ∧ s.burst ≤ 10000000))
theorem right_flaw (s : Sp) : s.Right ↔ flaw s 0 = false ∧ flaw s 1 = false ∧ flaw s 2 = false := by
  rw [Sp.right_iff]
  simp only [flaw, decide_eq_false_iff_not]
  omega

theorem flaw0_calls (s : Sp) (w : World) : Calls Try.prog 79 #[spv s] w fun e w' => e = .returned (.bool (flaw s 0)) ∧ Fr0 w w' := by
  by_cases h1 : 1 ≤ s.rate ∧ s.rate ≤ 1000000
  · by_cases h2 : s.rate ≤ s.peak ∧ s.peak ≤ 1000000
    all_goals
      go_enter Try.func79, Try.ntmps79
      go_wp2_with (go_at_call 80; refine (within_calls _ _ _ _).mono ?_; rintro e w' ⟨rfl, rfl⟩)
      go_ret
      exact ⟨rtb (by simp [flaw, h1, h2]), (Fr.refl _ w).alloc _⟩
  · have h1' : decide (1 ≤ s.rate ∧ s.rate ≤ 1000000) = false := decide_eq_false h1
    go_enter Try.func79, Try.ntmps79
    go_wp2_with (go_at_call 80; refine (within_calls _ _ _ _).mono ?_; rw [h1']; rintro e w' ⟨rfl, rfl⟩)
    go_ret
    exact ⟨rtb (by simp [flaw, h1]), (Fr.refl _ w).alloc _⟩
theorem flaw1_calls (s : Sp) (w : World) : Calls Try.prog 81 #[spv s] w fun e w' => e = .returned (.bool (flaw s 1)) ∧ Fr0 w w' := by
  by_cases h1 : 1 ≤ s.most ∧ s.most ≤ 2000
  · by_cases h2 : 1 ≤ s.least ∧ s.least ≤ s.most
    all_goals
      go_enter Try.func81, Try.ntmps81
      go_wp2_with (go_at_call 80; refine (within_calls _ _ _ _).mono ?_; rintro e w' ⟨rfl, rfl⟩)
      go_ret
      exact ⟨rtb (by simp [flaw, h1, h2]), (Fr.refl _ w).alloc _⟩
  · have h1' : decide (1 ≤ s.most ∧ s.most ≤ 2000) = false := decide_eq_false h1
    go_enter Try.func81, Try.ntmps81
    go_wp2_with (go_at_call 80; refine (within_calls _ _ _ _).mono ?_; rw [h1']; rintro e w' ⟨rfl, rfl⟩)
    go_ret
    exact ⟨rtb (by simp [flaw, h1]), (Fr.refl _ w).alloc _⟩
theorem flaw2_calls (s : Sp) (w : World) : Calls Try.prog 82 #[spv s] w fun e w' => e = .returned (.bool (flaw s 2)) ∧ Fr0 w w' := by
  by_cases h1 : s.most ≤ s.burst ∧ s.burst ≤ 10000000
  all_goals
    go_enter Try.func82, Try.ntmps82
    go_wp2_with (go_at_call 80; refine (within_calls _ _ _ _).mono ?_; rintro e w' ⟨rfl, rfl⟩)
    go_ret
    exact ⟨rtb (by simp [flaw, h1]), (Fr.refl _ w).alloc _⟩
end Go.Proofs.Ytjldogfpccbkeaa

/- Chapter 02 (tspec): Check, Allows, and the document's Right, Allows. -/
set_option linter.unusedVariables false
set_option linter.unusedSimpArgs false
namespace Go.Proofs.Ytjldogfpccbkeaa
open Go.RowKit

/-- The function that tells flaw k. -/
def flawF : Nat → FuncId
  | 0 => 79
  | 1 => 81
  | _ => 82
theorem flawF_calls (s : Sp) : ∀ (k : Nat) (w : World), k < 3 → Calls Try.prog (flawF k) #[spv s] w fun e w' => e = .returned (.bool (flaw s k)) ∧ Fr0 w w'
  | 0, w, _ => flaw0_calls s w
  | 1, w, _ => flaw1_calls s w
  | 2, w, _ => flaw2_calls s w
  | _ + 3, _, h => absurd h (by omega)

theorem check1_calls (s : Sp) (k : Nat) (b : Nat) (w : World) (hk : k < 3) (hb : w.heap[b]? = some (.cells (spc s) 23 (0, 0))) :
    Calls Try.prog 66 #[.func (.func (flawF k)) #[] #[], .pointer (some ⟨b, 0, none⟩)] w fun e w' => e = .returned (.bool (flaw s k)) ∧ Fr0 w w' := by
  have c0 : w.cell? ⟨b, 0, none⟩ = some (.int .i64 s.peak) := cell_of_blk hb 0
  have c1 : w.cell? ⟨b, 1, none⟩ = some (.int .i64 s.rate) := cell_of_blk hb 1
  have c2 : w.cell? ⟨b, 2, none⟩ = some (.int .i64 s.burst) := cell_of_blk hb 2
  have c3 : w.cell? ⟨b, 3, none⟩ = some (.int .i64 s.most) := cell_of_blk hb 3
  have c4 : w.cell? ⟨b, 4, none⟩ = some (.int .i64 s.least) := cell_of_blk hb 4
  have h3 : k = 0 ∨ k = 1 ∨ k = 2 := by omega
  rcases h3 with rfl | rfl | rfl
  · show Calls Try.prog _ #[.func (.func 79) #[] #[], _] w _
    go_enter Try.func66, Try.ntmps66
    go_wp2_with (go_at_call 79; refine (flaw0_calls s _).mono ?_; rintro e w' ⟨rfl, hf⟩)
    go_ret
    exact ⟨rfl, hf⟩
  · show Calls Try.prog _ #[.func (.func 81) #[] #[], _] w _
    go_enter Try.func66, Try.ntmps66
    go_wp2_with (go_at_call 81; refine (flaw1_calls s _).mono ?_; rintro e w' ⟨rfl, hf⟩)
    go_ret
    exact ⟨rfl, hf⟩
  · show Calls Try.prog _ #[.func (.func 82) #[] #[], _] w _
    go_enter Try.func66, Try.ntmps66
    go_wp2_with (go_at_call 82; refine (flaw2_calls s _).mono ?_; rintro e w' ⟨rfl, hf⟩)
    go_ret
    exact ⟨rfl, hf⟩

/-- The first flaw, or -1. -/
def ixf (s : Sp) : Int := if flaw s 0 then 0 else if flaw s 1 then 1 else if flaw s 2 then 2 else -1
theorem ixf_right (s : Sp) : 0 ≤ ixf s ↔ ¬ s.Right := by
  rw [right_flaw]
  unfold ixf
  cases flaw s 0 <;> cases flaw s 1 <;> cases flaw s 2 <;> simp
theorem index_calls (s : Sp) (b g : Nat) (w : World) (hb : w.heap[b]? = some (.cells (spc s) 23 (0, 0)))
    (hg : w.heap[g]? = some (.cells #[.func (.func 79) #[] #[], .func (.func 81) #[] #[], .func (.func 82) #[] #[]] 71 (0, 0))) :
    Calls Try.prog 78 #[.slice (some ⟨g, 0, none⟩) 3 3, .func (.func 66) #[] #[.pointer (some ⟨b, 0, none⟩)]] w fun e w' => e = .returned (.int .i64 (ixf s)) ∧ Fr0 w w' := by
  go_enter Try.func78, Try.ntmps78
  go_wp2_with fail
  have HB := Lib.hid hb
  have HG := Lib.hid hg
  clear hb hg
  go_loopw [8] (fun i wr => ∃ k : Nat, k ≤ 3 ∧ i = .int .i64 (k : Int) ∧ Hid (∀ j, j < k → flaw s j = false) ∧ Hid (Fr0 w wr)) (fun i _ => 3 - (intOf i).toNat)
  case atStart => exact ⟨0, by omega, rfl, fun j hj => absurd hj (by omega), Fr.refl _ _⟩
  case round =>
    obtain ⟨k, hk, rfl, HN, HF⟩ := hrel
    have hg2 := HF.out.blk HG.out (fun h => h)
    have c0 := cell_of_blk hg2 0
    have c1 := cell_of_blk hg2 1
    have c2 := cell_of_blk hg2 2
    have HB2 := Lib.hid (HF.out.blk HB.out (fun h => h))
    clear hg2
    simp at c0 c1 c2
    have hk4 : k = 0 ∨ k = 1 ∨ k = 2 ∨ k = 3 := by omega
    rcases hk4 with rfl | rfl | rfl | rfl
    · cases hf : flaw s 0
      · have HFL := Lib.hid hf
        clear hf
        go_wp2_with (go_at_call 66; refine (check1_calls s 0 b _ (by omega) HB2.out).mono ?_; rw [HFL.out]; rintro e w1 ⟨rfl, hf1⟩; have HF1 := Lib.hid (HF.out.trans hf1); clear hf1)
        go_roundw
        case rel => exact ⟨1, by omega, rfl, fun j hj => by obtain rfl : j = 0 := by omega
                                                            exact HFL.out, HF1.out⟩
        case measure => simp [intOf]
      · have HFL := Lib.hid hf
        clear hf
        go_wp2_with (go_at_call 66; refine (check1_calls s 0 b _ (by omega) HB2.out).mono ?_; rw [HFL.out]; rintro e w1 ⟨rfl, hf1⟩; have HF1 := Lib.hid (HF.out.trans hf1); clear hf1)
        go_ret
        exact ⟨rti (by simp [ixf, HFL.out]), HF1.out⟩
    · cases hf : flaw s 1
      · have HFL := Lib.hid hf
        clear hf
        go_wp2_with (go_at_call 66; refine (check1_calls s 1 b _ (by omega) HB2.out).mono ?_; rw [HFL.out]; rintro e w1 ⟨rfl, hf1⟩; have HF1 := Lib.hid (HF.out.trans hf1); clear hf1)
        go_roundw
        case rel => exact ⟨2, by omega, rfl, fun j hj => by rcases Nat.lt_or_ge j 1 with h | h
                                                            · exact HN.out j h
                                                            · obtain rfl : j = 1 := by omega
                                                              exact HFL.out, HF1.out⟩
        case measure => simp [intOf]
      · have HFL := Lib.hid hf
        have HN0 := Lib.hid (HN.out 0 (by omega))
        clear hf
        go_wp2_with (go_at_call 66; refine (check1_calls s 1 b _ (by omega) HB2.out).mono ?_; rw [HFL.out]; rintro e w1 ⟨rfl, hf1⟩; have HF1 := Lib.hid (HF.out.trans hf1); clear hf1)
        go_ret
        exact ⟨rti (by simp [ixf, HFL.out, HN0.out]), HF1.out⟩
    · cases hf : flaw s 2
      · have HFL := Lib.hid hf
        clear hf
        go_wp2_with (go_at_call 66; refine (check1_calls s 2 b _ (by omega) HB2.out).mono ?_; rw [HFL.out]; rintro e w1 ⟨rfl, hf1⟩; have HF1 := Lib.hid (HF.out.trans hf1); clear hf1)
        go_roundw
        case rel => exact ⟨3, by omega, rfl, fun j hj => by rcases Nat.lt_or_ge j 2 with h | h
                                                            · exact HN.out j h
                                                            · obtain rfl : j = 2 := by omega
                                                              exact HFL.out, HF1.out⟩
        case measure => simp [intOf]
      · have HFL := Lib.hid hf
        have HN0 := Lib.hid (HN.out 0 (by omega))
        have HN1 := Lib.hid (HN.out 1 (by omega))
        clear hf
        go_wp2_with (go_at_call 66; refine (check1_calls s 2 b _ (by omega) HB2.out).mono ?_; rw [HFL.out]; rintro e w1 ⟨rfl, hf1⟩; have HF1 := Lib.hid (HF.out.trans hf1); clear hf1)
        go_ret
        exact ⟨rti (by simp [ixf, HFL.out, HN0.out, HN1.out]), HF1.out⟩
    · have HN0 := Lib.hid (HN.out 0 (by omega))
      have HN1 := Lib.hid (HN.out 1 (by omega))
      have HN2 := Lib.hid (HN.out 2 (by omega))
      go_wp2_with fail
      go_ret
      exact ⟨rti (by simp [ixf, HN0.out, HN1.out, HN2.out]), HF.out⟩

theorem heap_alloc_new2 (w : World) (o o' : Obj) : ((w.alloc o).alloc o').heap[w.heap.size + 1]? = some o' := by
  have h := heap_alloc_new (w.alloc o) o'
  rwa [show (w.alloc o).heap.size = w.heap.size + 1 by simp] at h
/-- What Check answers. -/
def chk (s : Sp) : Int := if s.Right then 0 else 2
theorem check_calls (s : Sp) (w : World) : Calls Try.prog 51 #[spv s] w fun e w' => e = .returned (.int .i64 (chk s)) ∧ Fr0 w w' := by
  have hmf : ∀ (fn : Fn) (first cap : Array Value) (w : World), (Instr.makeFunc fn first cap).run Try.prog w = .ok (.func fn first cap) w := fun _ _ _ _ => rfl
  have hcf : ∀ (g b : Nat) (w1 : World), Hid (w1.heap[b]? = some (.cells (spc s) 23 (0, 0))) →
      Hid (w1.heap[g]? = some (.cells #[.func (.func 79) #[] #[], .func (.func 81) #[] #[], .func (.func 82) #[] #[]] 71 (0, 0))) →
      Calls Try.prog 64 #[.slice (some ⟨g, 0, none⟩) 3 3, .func (.func 66) #[] #[.pointer (some ⟨b, 0, none⟩)]] w1 fun e w' => e = .returned (.bool (decide (0 ≤ ixf s))) ∧ Fr0 w1 w' := by
    intro g b w1 hb hg
    go_enter Try.func64, Try.ntmps64
    go_wp2_with (go_at_call 78; refine (index_calls s b g _ hb.out hg.out).mono ?_; rintro e w2 ⟨rfl, hf⟩)
    go_ret
    exact ⟨rfl, hf⟩
  have HB := Lib.hid (heap_alloc_new w (.cells (spc s) 23))
  have hfl : ∀ w1 : World, Calls Try.prog 65 #[] w1 fun e w2 => e = .returned (.slice (some ⟨w1.heap.size, 0, none⟩) 3 3) ∧ w1.alloc (.cells #[.func (.func 79) #[] #[], .func (.func 81) #[] #[], .func (.func 82) #[] #[]] 71) = w2 := by
    intro w1
    go_enter Try.func65, Try.ntmps65
    go_wp2
    go_ret
    exact ⟨rfl, rfl⟩
  have HIX := Lib.hid (ixf_right s)
  have HG2 := Lib.hid (heap_alloc_new2 w (.cells (spc s) 23) (.cells #[.func (.func 79) #[] #[], .func (.func 81) #[] #[], .func (.func 82) #[] #[]] 71))
  by_cases hr : s.Right
  · have hd : decide (0 ≤ ixf s) = false := decide_eq_false (fun h => HIX.out.1 h hr)
    rw [hd] at hcf
    have HCF := Lib.hid hcf
    have HFL := Lib.hid hfl
    clear hcf hfl
    go_enter Try.func51, Try.ntmps51
    go_wp2_with (first
      | (go_at_call 65; refine (HFL.out _).mono ?_; rintro e w2 ⟨rfl, rfl⟩)
      | (go_at_call 64; refine (HCF.out _ _ _ (Lib.hid (blk_alloc HB.out _)) HG2).mono ?_; rintro e w3 ⟨rfl, hf3⟩))
    go_ret
    exact ⟨by rw [show chk s = 0 from if_pos hr]; rfl, (((Fr.refl _ w).alloc _).alloc _).trans hf3⟩
  · have hd : decide (0 ≤ ixf s) = true := decide_eq_true (HIX.out.2 hr)
    rw [hd] at hcf
    have HCF := Lib.hid hcf
    have HFL := Lib.hid hfl
    clear hcf hfl
    go_enter Try.func51, Try.ntmps51
    go_wp2_with (first
      | (go_at_call 65; refine (HFL.out _).mono ?_; rintro e w2 ⟨rfl, rfl⟩)
      | (go_at_call 64; refine (HCF.out _ _ _ (Lib.hid (blk_alloc HB.out _)) HG2).mono ?_; rintro e w3 ⟨rfl, hf3⟩))
    go_ret
    exact ⟨by rw [show chk s = 2 from if_neg hr]; rfl, (((Fr.refl _ w).alloc _).alloc _).trans hf3⟩
end Go.Proofs.Ytjldogfpccbkeaa

/- Chapter 02 (tspec): Allows, and the document's Right, Allows. -/
set_option linter.unusedVariables false
set_option linter.unusedSimpArgs false
namespace Go.Proofs.Ytjldogfpccbkeaa
open Go.RowKit

theorem sp_cells {w : World} {b : Nat} {s : Sp} (h : w.heap[b]? = some (.cells (spc s) 23 (0, 0))) :
    w.cell? ⟨b, 0, none⟩ = some (.int .i64 s.peak) ∧ w.cell? ⟨b, 1, none⟩ = some (.int .i64 s.rate) ∧ w.cell? ⟨b, 2, none⟩ = some (.int .i64 s.burst) ∧ w.cell? ⟨b, 3, none⟩ = some (.int .i64 s.most) ∧ w.cell? ⟨b, 4, none⟩ = some (.int .i64 s.least) :=
  ⟨cell_of_blk h 0, cell_of_blk h 1, cell_of_blk h 2, cell_of_blk h 3, cell_of_blk h 4⟩
theorem rright_calls (s : Sp) (w : World) : Calls Try.prog 35 #[spv s] w fun e w' => e = .returned (.bool (decide s.Right)) ∧ Fr0 w w' := by
  have HRI := Lib.hid (s.right_iff)
  go_enter Try.func35, Try.ntmps35
  go_wp2_with fail
  all_goals
    go_ret
    refine ⟨rtb ((?_ : _ = decide _).trans (decide_eq_decide.2 HRI.out.symm)), (Fr.refl _ w).alloc _⟩
    first
      | exact (decide_eq_false (by omega)).symm
      | exact decide_eq_decide.2 (by omega)

end Go.Proofs.Ytjldogfpccbkeaa
