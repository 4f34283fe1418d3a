/- Chapter 12: Same; When of what may not be asked. -/
import Derived.Test.YtmnadploikcljaaBkG
import Derived.ChangeKeysEq
set_option linter.unusedVariables false
set_option linter.unusedSimpArgs false
namespace Go.Proofs.Ytmnadploikcljaa
open Go.RowKit
attribute [local go_sem] Oper.semAt_some

theorem eq_bk (B : Bk) (d : Nat) (w : World) : (Op.equalIn (d + 10) 97 (.agg (bkc B)) (.agg (bkc B))).run Try.prog w = .ok true w := by
  obtain ⟨i, hi⟩ : ∃ i, Try.prog.info? 94 = some i := Option.isSome_iff_exists.1 (by kernel_rfl)
  have hc : Try.prog.cellsOf 94 = 3 := by kernel_rfl
  have harr : ∀ (d : Nat) (xs ys : Array Value) (w : World), (Op.equalIn (d + 1) 95 (.agg xs) (.agg ys)).run Try.prog w = (Op.eqItems d 94 3 xs ys [0, 1]).run Try.prog w := fun d xs ys w => by
    have := run_equalIn_array (w := w) d xs ys Try.underlying95 hi
    rw [hc] at this
    exact this
  have h60 := Try.underlying97
  have h23 := Try.underlying23
  have h57 := Try.underlying94
  have h2 := Try.underlying2
  simp [go_sem, harr, Op.eqItems, h60, h23, h57, h2]
theorem same_eq (a b : Nat) (B : Bk) (w : World) (ha : IsBk w a B) (hb : IsBk w b B) (hr : B.s.rate ≠ 0) :
    Calls Try.prog 42 #[.pointer (some ⟨a, 0, none⟩), .pointer (some ⟨b, 0, none⟩)] w fun e w' => e = .returned (.bool true) ∧ Fr0 w w' := by
  have HNA := Lib.hid (bnone_calls a B w ha)
  have HNB := Lib.hid (bnone_calls b B w hb)
  have hrb : (B.s.rate == 0) = false := by simpa using hr
  rw [hrb] at HNA HNB
  clear hrb hr
  obtain ⟨c0, c1, c2, c3, c4, c5, c6, c7, c8, c9, c10, c11⟩ := ha.cells
  obtain ⟨d0, d1, d2, d3, d4, d5, d6, d7, d8, d9, d10, d11⟩ := hb.cells
  have heq := eq_bk B
  go_enter Try.func42, Try.ntmps42
  go_wp2_with (first
    | (go_at_call_of 48 (Value.pointer (some (⟨a, 0, none⟩ : Addr))); refine HNA.out.mono ?_; rintro e w' ⟨rfl, rfl⟩)
    | (go_at_call_of 48 (Value.pointer (some (⟨b, 0, none⟩ : Addr))); refine HNB.out.mono ?_; rintro e w' ⟨rfl, rfl⟩))
  go_quiet (fail)
  go_wp2_with fail
  go_ret
  exact ⟨rfl, (Fr.refl _ w).drewN nq⟩
theorem same_nil (a : Nat) (B : Bk) (v : Value) (w : World) (ha : IsBk w a B) (hr : B.s.rate ≠ 0) (hv : NoBk w v) :
    Calls Try.prog 42 #[.pointer (some ⟨a, 0, none⟩), v] w fun e w' => e = .returned (.bool false) ∧ w = w' := by
  have HNA := Lib.hid (bnone_calls a B w ha)
  have HNB := Lib.hid (none_no v w hv)
  have hrb : (B.s.rate == 0) = false := by simpa using hr
  rw [hrb] at HNA
  clear hrb hr hv
  go_enter Try.func42, Try.ntmps42
  go_wp2_with (first
    | (go_at_call_of 48 (Value.pointer (some (⟨a, 0, none⟩ : Addr))); refine HNA.out.mono ?_; rintro e w' ⟨rfl, rfl⟩)
    | (go_at_call 48; refine HNB.out.mono ?_; rintro e w' ⟨rfl, rfl⟩))
  go_ret
  exact ⟨rfl, rfl⟩
theorem same_none (u v : Value) (w : World) (hu : NoBk w u) (hv : NoBk w v) :
    Calls Try.prog 42 #[u, v] w fun e w' => e = .returned (.bool true) ∧ w = w' := by
  have HNA := Lib.hid (none_no u w hu)
  have HNB := Lib.hid (none_no v w hv)
  clear hu hv
  go_enter Try.func42, Try.ntmps42
  go_wp2_with (first
    | (go_at_call 48; with_reducible refine HNA.out.mono ?_; rintro e w' ⟨rfl, rfl⟩)
    | (go_at_call 48; with_reducible refine HNB.out.mono ?_; rintro e w' ⟨rfl, rfl⟩))
  go_ret
  exact ⟨rfl, rfl⟩

theorem when_not (b : Nat) (B : Bk) (t z : Int) (w : World) (hb : IsBk w b B) (hr : B.s.rate ≠ 0) (hm : ¬ B.may t) :
    Calls Try.prog 35 #[.pointer (some ⟨b, 0, none⟩), .int .i64 t, .int .i64 z] w fun e w' => e = .returned (.tuple #[.int .i64 0, .int .i64 2]) ∧ Fr0 w w' := by
  have HA := Lib.hid (fun w' (h : Fr0 w w') => asked_calls b B t w' (hb.kept0 h) hr)
  rw [show askA B t = 2 from if_neg hm] at HA
  refine (callsIn_wide (n := 5)).1 ?_
  refine callsIn_of_wp_marks Try.func35 rfl trivial ?_ rfl
  simp only [Try.ntmps35, List.size_toArray, List.length_cons, List.length_nil, Nat.reduceAdd, Nat.reduceSub, Array.replicate_succ, Array.replicate_zero, List.push_toArray, List.append_toArray, List.nil_append, List.cons_append]
  gi_wp2_with (first
    | (refine ⟨trivial, ?_⟩; gi_at_call 49; refine (callsIn_wide.2 (HA.out _ (((Fr.refl _ w).alloc _).alloc _))).mono ?_; rintro e w' ⟨rfl, rfl⟩))
  exact ⟨_, results_tmp2 rfl _ _ _, rfl, ((Fr.refl _ w).alloc _).alloc _⟩
theorem when_size (b : Nat) (B : Bk) (t z : Int) (w : World) (hb : IsBk w b B) (hr : B.s.rate ≠ 0) (hm : B.may t) (hz : ¬ (B.s.least ≤ z ∧ z ≤ B.s.most)) :
    Calls Try.prog 35 #[.pointer (some ⟨b, 0, none⟩), .int .i64 t, .int .i64 z] w fun e w' => e = .returned (.tuple #[.int .i64 0, .int .i64 220]) ∧ Fr0 w w' := by
  have HA := Lib.hid (fun w' (h : Fr0 w w') => asked_calls b B t w' (hb.kept0 h) hr)
  rw [show askA B t = 0 from if_pos hm] at HA
  have HWI := Lib.hid (bwithin_calls z B.s.least B.s.most)
  rw [decide_eq_false hz] at HWI
  have hcs : ∀ U, Fr0 w U → U.cell? ⟨b, 3, none⟩ = some (.int .i64 B.s.most) ∧ U.cell? ⟨b, 4, none⟩ = some (.int .i64 B.s.least) := fun U h => ⟨(hb.kept0 h).cells.c3, (hb.kept0 h).cells.c4⟩
  obtain ⟨d3, d4⟩ := hcs _ (((Fr.refl (fun _ => False) w).alloc (.cells #[.int .i64 t] 2)).alloc (.cells #[.int .i64 z] 2))
  clear hcs hz
  refine (callsIn_wide (n := 5)).1 ?_
  refine callsIn_of_wp_marks Try.func35 rfl trivial ?_ rfl
  simp only [Try.ntmps35, List.size_toArray, List.length_cons, List.length_nil, Nat.reduceAdd, Nat.reduceSub, Array.replicate_succ, Array.replicate_zero, List.push_toArray, List.append_toArray, List.nil_append, List.cons_append]
  gi_wp2_with (first
    | (refine ⟨trivial, ?_⟩; gi_at_call 49; refine (callsIn_wide.2 (HA.out _ (((Fr.refl _ w).alloc _).alloc _))).mono ?_; rintro e w' ⟨rfl, rfl⟩))
  refine wpIn_wide.2 ?_
  go_quiet ((go_at_call 51; refine Calls.quiet_of_same ((HWI.out _).mono fun e w' h => ⟨h.1, h.2.symm⟩)))
  go_wp2_with fail
  gi_wp2
  exact ⟨_, results_tmp2 rfl _ _ _, rfl, (((Fr.refl _ w).alloc _).alloc _).drewN nq⟩
theorem when_no (v : Value) (t z : Int) (w : World) (h : NoBk w v) :
    Calls Try.prog 35 #[v, .int .i64 t, .int .i64 z] w fun e w' => e = .returned (.tuple #[.int .i64 0, .int .i64 1]) ∧ Fr0 w w' := by
  have HA := Lib.hid (fun w' (hf : Fr0 w w') => asked_no v t w' (h.kept hf))
  clear h
  refine (callsIn_wide (n := 5)).1 ?_
  refine callsIn_of_wp_marks Try.func35 rfl trivial ?_ rfl
  simp only [Try.ntmps35, List.size_toArray, List.length_cons, List.length_nil, Nat.reduceAdd, Nat.reduceSub, Array.replicate_succ, Array.replicate_zero, List.push_toArray, List.append_toArray, List.nil_append, List.cons_append]
  gi_wp2_with (first
    | (refine ⟨trivial, ?_⟩; gi_at_call 49; refine (callsIn_wide.2 (HA.out _ (((Fr.refl _ w).alloc _).alloc _))).mono ?_; rintro e w' ⟨rfl, rfl⟩))
  exact ⟨_, results_tmp2 rfl _ _ _, rfl, ((Fr.refl _ w).alloc _).alloc _⟩
end Go.Proofs.Ytmnadploikcljaa
