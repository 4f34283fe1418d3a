/- Chapter 01: numbers of 128 bits: products, sums, differences, which is less. -/
import Derived.Test.YtdakeenjeieekaaRaE
set_option linter.unusedVariables false
set_option linter.unusedSimpArgs false
namespace Go.Proofs.Ytdakeenjeieekaa
open Go.RowKit
attribute [local go_sem] Oper.semAt_some

abbrev wdc (h l : Nat) : Array Value := #[u64v h, u64v l]
abbrev wdv (n : Nat) : Value := .agg #[u64v (n / 18446744073709551616), u64v (n % 18446744073709551616)]
theorem heap_an {w : World} {k : Nat} (o : Obj) (h : w.heap.size = k) : (w.alloc o).heap[k]? = some o := h ▸ heap_alloc_new w o
theorem wtimes_calls (a b : Nat) (ha : a < 18446744073709551616) (hb : b < 18446744073709551616) (w : World) : Calls Try.prog 67 #[u64v a, u64v b] w fun e w' => e = .returned (wdv (a * b)) ∧ Fr0 w w' := by
  unfold wdv
  have HF := fun o => Lib.hid ((Fr.refl (fun _ => False) w).alloc o)
  have HM := Lib.hid (fun U => mul64_calls a b ha hb U)
  generalize a * b / 18446744073709551616 = h at *
  generalize a * b % 18446744073709551616 = l at *
  go_enter Try.func67, Try.ntmps67
  go_wp2_with (first | (go_at_call 77; (with_reducible refine (HM.out _).mono ?_); rintro _ _ ⟨rfl, rfl⟩) | fail)
  exact bodyPost_ret (results_cell_row rfl _ _ w.heap.size _ _ _ _ rfl (heap_alloc_new w (.cells _ 77)) Try.underlying77 rfl (by kernel_rfl)) rfl ⟨rfl, (HF _).out⟩
theorem wplus_calls (a b : Nat) (h : a + b < 340282366920938463463374607431768211456) (w : World) : Calls Try.prog 68 #[wdv a, wdv b] w fun e w' => e = .returned (wdv (a + b)) ∧ Fr0 w w' := by
  unfold wdv
  have HF := fun o1 o2 o3 => Lib.hid ((((Fr.refl (fun _ => False) w).alloc o1).alloc o2).alloc o3)
  obtain ⟨k, hk⟩ : ∃ k, k = (a % 18446744073709551616 + b % 18446744073709551616) / 18446744073709551616 := ⟨_, rfl⟩
  have H1 := fun U => add64_run (a % 18446744073709551616) (b % 18446744073709551616) 0 ((a + b) % 18446744073709551616) k (by omega) (by omega) (by omega) U
  have H2 := fun U => add64_run (a / 18446744073709551616) (b / 18446744073709551616) k ((a + b) / 18446744073709551616) 0 (by omega) (by omega) (by omega) U
  have H1' : ∀ U, (callFunc 78 #[u64v (a % 18446744073709551616), u64v (b % 18446744073709551616), .int .u64 0]).run Try.prog U = _ := H1
  have H2' : ∀ U, (callFunc 78 #[u64v (a / 18446744073709551616), u64v (b / 18446744073709551616), u64v k]).run Try.prog U = .ok (.value (.tuple #[u64v ((a + b) / 18446744073709551616), .int .u64 0])) U := H2
  have HB := fun o1 o2 o3 => Lib.hid (heap_an (w := (w.alloc o1).alloc o2) (k := w.heap.size + 1 + 1) o3 (by simp))
  clear hk h H1 H2
  generalize (a + b) % 18446744073709551616 = s at *
  generalize (a + b) / 18446744073709551616 = t at *
  generalize a % 18446744073709551616 = al at *
  generalize a / 18446744073709551616 = ah at *
  generalize b % 18446744073709551616 = bl at *
  generalize b / 18446744073709551616 = bh at *
  go_enter Try.func68, Try.ntmps68
  go_wp2_with (first | simp only [H1'] | simp only [H2'] | fail)
  exact bodyPost_ret (results_cell_row rfl _ _ (w.heap.size + 1 + 1) _ _ _ _ rfl (HB _ _ _).out Try.underlying77 rfl (by kernel_rfl)) rfl ⟨rfl, (HF _ _ _).out⟩
theorem wminus_calls (a b : Nat) (h : b ≤ a) (ha : a < 340282366920938463463374607431768211456) (w : World) : Calls Try.prog 70 #[wdv a, wdv b] w fun e w' => e = .returned (wdv (a - b)) ∧ Fr0 w w' := by
  unfold wdv
  have HF := fun o1 o2 o3 => Lib.hid ((((Fr.refl (fun _ => False) w).alloc o1).alloc o2).alloc o3)
  obtain ⟨k, hk⟩ : ∃ k, k = if a % 18446744073709551616 < b % 18446744073709551616 then 1 else 0 := ⟨_, rfl⟩
  have hk1 : k ≤ 1 ∧ (a - b) % 18446744073709551616 + b % 18446744073709551616 = a % 18446744073709551616 + 18446744073709551616 * k ∧ (a - b) / 18446744073709551616 + b / 18446744073709551616 + k = a / 18446744073709551616 := by
    split at hk <;> omega
  obtain ⟨k1, k2, k3⟩ := hk1
  have H1' : ∀ U, (callFunc 79 #[u64v (a % 18446744073709551616), u64v (b % 18446744073709551616), .int .u64 0]).run Try.prog U = .ok (.value (.tuple #[u64v ((a - b) % 18446744073709551616), u64v k])) U :=
    fun U => sub64_run (a % 18446744073709551616) (b % 18446744073709551616) 0 ((a - b) % 18446744073709551616) k (by omega) (by omega) (by omega) (by omega) (by omega) U
  have H2' : ∀ U, (callFunc 79 #[u64v (a / 18446744073709551616), u64v (b / 18446744073709551616), u64v k]).run Try.prog U = .ok (.value (.tuple #[u64v ((a - b) / 18446744073709551616), .int .u64 0])) U :=
    fun U => sub64_run (a / 18446744073709551616) (b / 18446744073709551616) k ((a - b) / 18446744073709551616) 0 (by omega) (by omega) (by omega) (by omega) (by omega) U
  have HB := fun o1 o2 o3 => Lib.hid (heap_an (w := (w.alloc o1).alloc o2) (k := w.heap.size + 1 + 1) o3 (by simp))
  clear hk h ha k1 k2 k3
  generalize (a - b) % 18446744073709551616 = s at *
  generalize (a - b) / 18446744073709551616 = t at *
  generalize a % 18446744073709551616 = al at *
  generalize a / 18446744073709551616 = ah at *
  generalize b % 18446744073709551616 = bl at *
  generalize b / 18446744073709551616 = bh at *
  go_enter Try.func70, Try.ntmps70
  go_wp2_with (first | simp only [H1'] | simp only [H2'] | fail)
  exact bodyPost_ret (results_cell_row rfl _ _ (w.heap.size + 1 + 1) _ _ _ _ rfl (HB _ _ _).out Try.underlying77 rfl (by kernel_rfl)) rfl ⟨rfl, (HF _ _ _).out⟩
theorem wless_calls (a b : Nat) (w : World) : Calls Try.prog 69 #[wdv a, wdv b] w fun e w' => e = .returned (.bool (decide (a < b))) ∧ Fr0 w w' := by
  unfold wdv
  have HF := fun o1 o2 => Lib.hid (((Fr.refl (fun _ => False) w).alloc o1).alloc o2)
  by_cases h1 : a / 18446744073709551616 < b / 18446744073709551616
  · rw [decide_eq_true (show a < b by omega)]
    have d1 : decide (((a / 18446744073709551616 : Nat) : Int) < ((b / 18446744073709551616 : Nat) : Int)) = true := decide_eq_true (by omega)
    have d1n : decide (a / 18446744073709551616 < b / 18446744073709551616) = true := decide_eq_true (by omega)
    clear h1
    generalize a % 18446744073709551616 = al at *
    generalize a / 18446744073709551616 = ah at *
    generalize b % 18446744073709551616 = bl at *
    generalize b / 18446744073709551616 = bh at *
    go_enter Try.func69, Try.ntmps69
    go_wp2_with fail
    go_ret
    exact ⟨rfl, (HF _ _).out⟩
  · have d1 : decide (((a / 18446744073709551616 : Nat) : Int) < ((b / 18446744073709551616 : Nat) : Int)) = false := decide_eq_false (by omega)
    have d1n : decide (a / 18446744073709551616 < b / 18446744073709551616) = false := decide_eq_false (by omega)
    by_cases h2 : a / 18446744073709551616 = b / 18446744073709551616
    · have d3 : decide (a % 18446744073709551616 < b % 18446744073709551616) = decide (a < b) := decide_eq_decide.2 (by omega)
      rw [← d3]
      rw [h2] at d1 d1n ⊢
      clear h1 h2 d3
      generalize a % 18446744073709551616 = al at *
      generalize b % 18446744073709551616 = bl at *
      generalize b / 18446744073709551616 = bh at *
      go_enter Try.func69, Try.ntmps69
      go_wp2_with fail
      go_ret
      exact ⟨rfl, (HF _ _).out⟩
    · rw [decide_eq_false (show ¬ a < b by omega)]
      have d2 : decide (((a / 18446744073709551616 : Nat) : Int) = ((b / 18446744073709551616 : Nat) : Int)) = false := decide_eq_false (by omega)
      have d2n : decide (a / 18446744073709551616 = b / 18446744073709551616) = false := decide_eq_false (by omega)
      have d2m : (a / 18446744073709551616 == b / 18446744073709551616) = false := by simpa using d2n
      have d2b : (((a / 18446744073709551616 : Nat) : Int) == ((b / 18446744073709551616 : Nat) : Int)) = false := by simpa using d2
      clear h1 h2
      generalize a % 18446744073709551616 = al at *
      generalize a / 18446744073709551616 = ah at *
      generalize b % 18446744073709551616 = bl at *
      generalize b / 18446744073709551616 = bh at *
      go_enter Try.func69, Try.ntmps69
      go_wp2_with fail
      go_ret
      exact ⟨rfl, (HF _ _).out⟩
end Go.Proofs.Ytdakeenjeieekaa
