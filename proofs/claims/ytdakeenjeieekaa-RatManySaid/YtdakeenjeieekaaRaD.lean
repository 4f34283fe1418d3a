/- Chapter 01: must, signed, told, made. -/
import Derived.Test.YtdakeenjeieekaaRaC
import Derived.Recover
set_option linter.unusedVariables false
set_option linter.unusedSimpArgs false
namespace Go.Proofs.Ytdakeenjeieekaa
open Go.RowKit
attribute [local go_sem] Oper.semAt_some

theorem two_facts {w : World} {b : Nat} {u v : Value} {t : TypeId} (h : w.heap[b]? = some (.cells #[u, v] t (0, 0))) :
    w.cell? ⟨b, 0, none⟩ = some u ∧ w.cell? ⟨b, 1, none⟩ = some v ∧ w.frozen? ⟨b, 0, none⟩ = false ∧ w.frozen? ⟨b, 1, none⟩ = false :=
  ⟨cell_of_blk h 0, cell_of_blk h 1, free_of_blk h 0, free_of_blk h 1⟩
theorem two_set {w : World} {b : Nat} {u v : Value} {t : TypeId} (h : w.heap[b]? = some (.cells #[u, v] t (0, 0))) (x y : Value) :
    ((w.setCell ⟨b, 0, none⟩ x).setCell ⟨b, 1, none⟩ y).heap[b]? = some (.cells #[x, y] t (0, 0)) := blk_setCell (blk_setCell h 0 x) 1 y
theorem two_fr {S : Nat → Prop} {a w : World} {b : Nat} (h : Fr S a w) (hb : ¬ b < a.heap.size) (x y : Value) : Fr S a ((w.setCell ⟨b, 0, none⟩ x).setCell ⟨b, 1, none⟩ y) :=
  (h.setCell (p := ⟨b, 0, none⟩) (fun k => absurd k hb) x).setCell (p := ⟨b, 1, none⟩) (fun k => absurd k hb) y
abbrev stopE (k : Int) : PanicEntry := { v := .iface 71 (.agg #[.int .i64 k]), recovered := false }
theorem rmust_yes (k : Int) (w : World) : Calls Try.prog 36 #[.bool true, .int .i64 k] w fun e w' => e = .returned (.tuple #[]) ∧ w = w' := by
  go_enter Try.func36, Try.ntmps36
  go_wp2_with fail
  go_end0
  exact ⟨rfl, rfl⟩
theorem rmust_no (k : Int) (w : World) : Calls Try.prog 36 #[.bool false, .int .i64 k] w fun e w' => e = .panicked [stopE k] ∧ w = w' := by
  go_enter Try.func36, Try.ntmps36
  go_wp2_with fail
  exact ⟨rfl, rfl, rfl⟩
theorem rsigned_yes (n : Nat) (below : Bool) (h : n ≤ 9223372036854775807) (w : World) : Calls Try.prog 76 #[u64v n, .bool below] w fun e w' => e = .returned (.int .i64 (if below then -(n : Int) else n)) ∧ w = w' := by
  have hd : decide ((n : Int) ≤ 9223372036854775807) = true := decide_eq_true (by omega)
  have hi : IntKind.i64.wrap (n : Int) = (n : Int) := by rw [IntKind.wrap_i64]; omega
  have hn : IntKind.i64.wrap (-(n : Int)) = -(n : Int) := by rw [IntKind.wrap_i64]; omega
  have HM := Lib.hid (fun U => rmust_yes 110 U)
  go_enter Try.func76, Try.ntmps76
  cases below
  · go_wp2_with (first | (go_at_call 36; (with_reducible refine (HM.out _).mono ?_); rintro _ _ ⟨rfl, rfl⟩) | fail)
    go_ret
    exact ⟨rfl, rfl⟩
  · go_wp2_with (first | (go_at_call 36; (with_reducible refine (HM.out _).mono ?_); rintro _ _ ⟨rfl, rfl⟩) | fail)
    go_ret
    exact ⟨rfl, rfl⟩
theorem rsigned_no (n : Nat) (below : Bool) (h : ¬ n ≤ 9223372036854775807) (w : World) : Calls Try.prog 76 #[u64v n, .bool below] w fun e w' => e = .panicked [stopE 110] ∧ w = w' := by
  have hd : decide ((n : Int) ≤ 9223372036854775807) = false := decide_eq_false (by omega)
  have HM := Lib.hid (fun U => rmust_no 110 U)
  go_enter Try.func76, Try.ntmps76
  go_wp2_with (first | (go_at_call 36; (with_reducible refine (HM.out _).mono ?_); rintro _ _ ⟨rfl, rfl⟩) | fail)
  exact ⟨rfl, rfl, rfl⟩
/-- A fraction of parts, or none. -/
def toldE (n : Nat) (below : Bool) (d : Nat) : Ending := if d ≤ 9223372036854775807 ∧ n ≤ 9223372036854775807 then .returned (rtv (if below then -(n : Int) else n) d) else .panicked [stopE 110]
theorem rtold_calls (n : Nat) (below : Bool) (d : Nat) (w : World) : Calls Try.prog 63 #[u64v n, .bool below, u64v d] w fun e w' => e = toldE n below d ∧ Fr0 w w' := by
  unfold toldE
  have HF := fun o => Lib.hid ((Fr.refl (fun _ => False) w).alloc o)
  have HF2 := fun o (v v' : Value) => Lib.hid ((((Fr.refl (fun _ => False) w).alloc o).setCell (p := ⟨w.heap.size, 0, none⟩) (fun h => absurd h (by simp)) v).setCell (p := ⟨w.heap.size, 1, none⟩) (fun h => absurd h (by simp)) v')
  by_cases h1 : d ≤ 9223372036854775807
  · have hd : decide ((d : Int) ≤ 9223372036854775807) = true := decide_eq_true (by omega)
    have hi : IntKind.i64.wrap (d : Int) = (d : Int) := by rw [IntKind.wrap_i64]; omega
    have HM := Lib.hid (fun U => rmust_yes 110 U)
    by_cases h2 : n ≤ 9223372036854775807
    · rw [if_pos ⟨h1, h2⟩]
      have HS := Lib.hid (fun U => rsigned_yes n below h2 U)
      go_enter Try.func63, Try.ntmps63
      cases below <;>
        (go_wp2_with (first | (go_at_call 36; (with_reducible refine (HM.out _).mono ?_); rintro _ _ ⟨rfl, rfl⟩) | (go_at_call 76; (with_reducible refine (HS.out _).mono ?_); rintro _ _ ⟨rfl, rfl⟩) | fail)
         exact bodyPost_ret (results_cell_row rfl _ _ w.heap.size _ _ _ _ rfl (heap_alloc_new w (.cells _ 23)) Try.underlying23 rfl (by kernel_rfl)) rfl ⟨rfl, (HF _).out⟩)
    · rw [if_neg (fun h => h2 h.2)]
      have HS := Lib.hid (fun U => rsigned_no n below h2 U)
      go_enter Try.func63, Try.ntmps63
      go_wp2_with (first | (go_at_call 36; (with_reducible refine (HM.out _).mono ?_); rintro _ _ ⟨rfl, rfl⟩) | (go_at_call 76; (with_reducible refine (HS.out _).mono ?_); rintro _ _ ⟨rfl, rfl⟩) | fail)
      exact ⟨rfl, rfl, (HF _).out⟩
  · rw [if_neg (fun h => h1 h.1)]
    have hd : decide ((d : Int) ≤ 9223372036854775807) = false := decide_eq_false (by omega)
    have HM := Lib.hid (fun U => rmust_no 110 U)
    go_enter Try.func63, Try.ntmps63
    go_wp2_with (first | (go_at_call 36; (with_reducible refine (HM.out _).mono ?_); rintro _ _ ⟨rfl, rfl⟩) | fail)
    exact ⟨rfl, rfl, (HF _).out⟩
/-- A fraction of any two numbers, or none. -/
def madeE (n : Nat) (below : Bool) (d : Nat) : Ending := toldE (n / Nat.gcd n d) below (d / Nat.gcd n d)
theorem rmade_calls (n : Nat) (below : Bool) (d : Nat) (hn : n < 18446744073709551616) (hd : d < 18446744073709551616) (h0 : 0 < d) (w : World) : Calls Try.prog 37 #[u64v n, .bool below, u64v d] w fun e w' => e = madeE n below d ∧ Fr0 w w' := by
  have hmx : Try.prog.follows .mixedOrders = true := by kernel_rfl
  have hg0 : 0 < Nat.gcd n d := Nat.gcd_pos_of_pos_right _ h0
  have HG := Lib.hid (fun U => rgcd_calls n d hn hd U)
  have HF := Lib.hid ((Fr.refl (fun _ => False) w).alloc (.cells (rtc 0 0) 23))
  have HB := Lib.hid (heap_alloc_new w (.cells (rtc 0 0) 23))
  have HT := Lib.hid (fun U => rtold_calls (n / Nat.gcd n d) below (d / Nat.gcd n d) U)
  have q1 : (n : Int).tdiv ((Nat.gcd n d : Nat) : Int) = ((n / Nat.gcd n d : Nat) : Int) := by rw [Int.tdiv_eq_ediv_of_nonneg (by omega)]; simp
  have q2 : (d : Int).tdiv ((Nat.gcd n d : Nat) : Int) = ((d / Nat.gcd n d : Nat) : Int) := by rw [Int.tdiv_eq_ediv_of_nonneg (by omega)]; simp
  have l1 := Nat.div_le_self n (Nat.gcd n d)
  have l2 := Nat.div_le_self d (Nat.gcd n d)
  unfold madeE
  generalize n / Nat.gcd n d = p at *
  generalize d / Nat.gcd n d = q at *
  generalize hg : Nat.gcd n d = g at *
  have q3 : IntKind.u64.wrap ((p : Nat) : Int) = (p : Int) := by rw [IntKind.wrap_u64]; omega
  have q4 : IntKind.u64.wrap ((q : Nat) : Int) = (q : Int) := by rw [IntKind.wrap_u64]; omega
  have hgn : ¬ ((g : Int) = 0) := by omega
  have hgb : ((g : Int) == 0) = false := by simpa using hgn
  clear hg hg0 l1 l2
  unfold toldE at HT ⊢
  go_enter Try.func37, Try.ntmps37
  split at HT
  · rw [if_pos (by assumption)]
    generalize (if below = true then -(p : Int) else (p : Int)) = s at *
    go_wp2_with (first | (go_at_call 42; (with_reducible refine (HG.out _).mono ?_); rintro _ w2 ⟨rfl, hf2⟩) | fail)
    refine wp_region_class (fun U => ∃ x : Wx w2, U = x.u) 7 hmx (by kernel_rfl) ⟨⟨w2.drew, (Fr.refl _ w2).drew⟩, rfl⟩ ?_
    simp only [List.take_succ_cons, List.take_zero, List.drop_succ_cons, List.drop_zero]
    repeat (go_big_quiet_step (fail))
    refine wpQuiet_nil ?_
    rintro U ⟨y, rfl⟩
    go_wp2_with (first | (go_at_call 63; (with_reducible refine (HT.out _).mono ?_); rintro _ w3 ⟨rfl, hf3⟩; have hb3 := ((hf2.trans y.fr).trans hf3).blk HB.out (fun h => h); obtain ⟨c0, c1, f0, f1⟩ := two_facts hb3) | fail)
    exact bodyPost_ret (results_cell_row rfl _ _ w.heap.size _ _ _ _ rfl (two_set hb3 _ _) Try.underlying23 rfl (by kernel_rfl)) rfl ⟨rfl, two_fr (((HF.out.trans hf2).trans y.fr).trans hf3) (by simp) _ _⟩
  · rw [if_neg (by assumption)]
    go_wp2_with (first | (go_at_call 42; (with_reducible refine (HG.out _).mono ?_); rintro _ w2 ⟨rfl, hf2⟩) | fail)
    refine wp_region_class (fun U => ∃ x : Wx w2, U = x.u) 7 hmx (by kernel_rfl) ⟨⟨w2.drew, (Fr.refl _ w2).drew⟩, rfl⟩ ?_
    simp only [List.take_succ_cons, List.take_zero, List.drop_succ_cons, List.drop_zero]
    repeat (go_big_quiet_step (fail))
    refine wpQuiet_nil ?_
    rintro U ⟨y, rfl⟩
    go_wp2_with (first | (go_at_call 63; (with_reducible refine (HT.out _).mono ?_); rintro _ w3 ⟨rfl, hf3⟩) | fail)
    exact ⟨rfl, rfl, ((HF.out.trans hf2).trans y.fr).trans hf3⟩
end Go.Proofs.Ytdakeenjeieekaa
