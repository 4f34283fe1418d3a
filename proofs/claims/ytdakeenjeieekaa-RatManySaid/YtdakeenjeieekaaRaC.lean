/- Chapter 01: Check; wide numbers compared. -/
import Derived.Test.YtdakeenjeieekaaRaB
import Derived.Test.YtdakeenjeieekaaRegB
import Derived.Test.YtdakeenjeieekaaRegion
import Derived.Test.YtdakeenjeieekaaRegC
set_option linter.unusedVariables false
set_option linter.unusedSimpArgs false
namespace Go.Proofs.Ytdakeenjeieekaa
open Go.RowKit
attribute [local go_sem] Oper.semAt_some

abbrev rtv (n d : Int) : Value := .agg #[.int .i64 n, .int .i64 d]
abbrev rtc (n d : Int) : Array Value := #[.int .i64 n, .int .i64 d]
/-- A fraction. -/
def RtOk (n d : Int) : Prop := 1 ≤ d ∧ n ≠ -9223372036854775808 ∧ Nat.gcd n.natAbs d.natAbs = 1
instance (n d : Int) : Decidable (RtOk n d) := by unfold RtOk; infer_instance
def I64r (n : Int) : Prop := -9223372036854775808 ≤ n ∧ n ≤ 9223372036854775807
theorem rcheck_calls (n d : Int) (hn : I64r n) (hd : I64r d) (w : World) : Calls Try.prog 13 #[rtv n d] w fun e w' => e = .returned (.int .i64 (if RtOk n d then 0 else 2)) ∧ Fr0 w w' := by
  have hmx : Try.prog.follows .mixedOrders = true := by kernel_rfl
  have HB := Lib.hid (heap_alloc_new w (.cells (rtc n d) 23))
  have HF := Lib.hid ((Fr.refl (fun _ => False) w).alloc (.cells (rtc n d) 23))
  have c0 : (w.alloc (.cells (rtc n d) 23)).cell? ⟨w.heap.size, 0, none⟩ = some (.int .i64 n) := cell_of_blk HB.out 0
  have c1 : (w.alloc (.cells (rtc n d) 23)).cell? ⟨w.heap.size, 1, none⟩ = some (.int .i64 d) := cell_of_blk HB.out 1
  have HSZ := Lib.hid (fun U => rsize_calls n hn U)
  by_cases h1 : d < 1
  · have hr : ¬ RtOk n d := fun h => absurd h.1 (by omega)
    rw [if_neg hr]
    have h1d : decide (d < 1) = true := decide_eq_true h1
    clear h1 hr
    go_enter Try.func13, Try.ntmps13
    go_wp2_with fail
    generalize w.alloc (.cells (rtc n d) 23) = W at *
    have r0 := cg_cell (W := W) c0
    have r1 := cg_cell (W := W) c1
    refine wp_region_cg hmx (by kernel_rfl) ?_
    repeat (go_big_quiet_step (fail))
    refine wpQuiet_nil ?_
    intro w6 hf6
    go_wp2_with fail
    go_ret
    exact ⟨rfl, HF.out.trans hf6⟩
  have h1d : decide (d < 1) = false := decide_eq_false h1
  by_cases h2 : n = -9223372036854775808
  · have hr : ¬ RtOk n d := fun h => h.2.1 h2
    rw [if_neg hr]
    subst h2
    clear h1 hr
    go_enter Try.func13, Try.ntmps13
    go_wp2_with fail
    generalize w.alloc (.cells (rtc (-9223372036854775808) d) 23) = W at *
    have r0 := cg_cell (W := W) c0
    have r1 := cg_cell (W := W) c1
    refine wp_region_cg hmx (by kernel_rfl) ?_
    repeat (go_big_quiet_step (fail))
    refine wpQuiet_nil ?_
    intro w6 hf6
    go_wp2_with fail
    go_ret
    exact ⟨rfl, HF.out.trans hf6⟩
  have h2b : (n == -9223372036854775808) = false := by simpa using h2
  have h2d : decide (n = -9223372036854775808) = false := decide_eq_false h2
  have hdw : IntKind.u64.wrap d = ((d.natAbs : Nat) : Int) := by rw [IntKind.wrap_u64]; have := hd.2; omega
  have HGC := Lib.hid (fun U => rgcd_calls n.natAbs d.natAbs (by have := hn.1; have := hn.2; omega) (by have := hd.1; have := hd.2; omega) U)
  by_cases hg : Nat.gcd n.natAbs d.natAbs = 1
  · rw [if_pos (show RtOk n d from ⟨by omega, h2, hg⟩)]
    rw [hg] at HGC
    have hgb : (((1 : Nat) : Int) == 1) = true := rfl
    clear h1 h2 hg
    go_enter Try.func13, Try.ntmps13
    go_wp2_with fail
    generalize w.alloc (.cells (rtc n d) 23) = W at *
    have r0 := cg_cell (W := W) c0
    have r1 := cg_cell (W := W) c1
    refine wp_region_cg hmx (by kernel_rfl) ?_
    repeat (first
      | go_big_quiet_step (fail)
      | go_big_quiet_step (first
        | (go_at_call 38; exact quiet_cg ((HSZ.out _).mono fun e w' h => ⟨h.1, h.2 ▸ Fr.refl _ _⟩))
        | (go_at_call 42; exact quiet_cg (HGC.out _))))
    refine wpQuiet_nil ?_
    intro w6 hf6
    go_wp2_with fail
    go_ret
    exact ⟨rfl, HF.out.trans hf6⟩
  · rw [if_neg (show ¬ RtOk n d from fun h => hg h.2.2)]
    have hgb : ((Nat.gcd n.natAbs d.natAbs : Int) == 1) = false := by simp; omega
    have hgd : decide ((Nat.gcd n.natAbs d.natAbs : Int) = 1) = false := decide_eq_false (by omega)
    generalize Nat.gcd n.natAbs d.natAbs = g at *
    clear h1 h2 hg
    go_enter Try.func13, Try.ntmps13
    go_wp2_with fail
    generalize w.alloc (.cells (rtc n d) 23) = W at *
    have r0 := cg_cell (W := W) c0
    have r1 := cg_cell (W := W) c1
    refine wp_region_cg hmx (by kernel_rfl) ?_
    repeat (first
      | go_big_quiet_step (fail)
      | go_big_quiet_step (first
        | (go_at_call 38; exact quiet_cg ((HSZ.out _).mono fun e w' h => ⟨h.1, h.2 ▸ Fr.refl _ _⟩))
        | (go_at_call 42; exact quiet_cg (HGC.out _))))
    refine wpQuiet_nil ?_
    intro w6 hf6
    go_wp2_with fail
    go_ret
    exact ⟨rfl, HF.out.trans hf6⟩
end Go.Proofs.Ytdakeenjeieekaa
