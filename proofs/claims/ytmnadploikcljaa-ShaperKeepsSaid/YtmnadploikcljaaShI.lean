/- Chapter 13: Same. -/
import Derived.Test.YtmnadploikcljaaShH
set_option linter.unusedVariables false
set_option linter.unusedSimpArgs false
namespace Go.Proofs.Ytmnadploikcljaa
open Go.RowKit

theorem bk_ext {B C : Bk} (h1 : B.s.peak = C.s.peak) (h2 : B.s.rate = C.s.rate) (h3 : B.s.burst = C.s.burst) (h4 : B.s.most = C.s.most) (h5 : B.s.least = C.s.least) (a1 : B.k0.has = C.k0.has) (a2 : B.k0.most = C.k0.most) (a3 : B.k0.more = C.k0.more) (b1 : B.k1.has = C.k1.has) (b2 : B.k1.most = C.k1.most) (b3 : B.k1.more = C.k1.more) (n : B.now = C.now) : B = C := by
  obtain ⟨⟨p, q, r, s, u⟩, ⟨x, y, z⟩, ⟨x2, y2, z2⟩, o⟩ := B
  obtain ⟨⟨p', q', r', s', u'⟩, ⟨x', y', z'⟩, ⟨x2', y2', z2'⟩, o'⟩ := C
  dsimp only at *
  subst h1 h2 h3 h4 h5 a1 a2 a3 b1 b2 b3 n
  rfl
theorem eq_bk2 (B C : Bk) (d : Nat) (w : World) : (Op.equalIn (d + 10) 97 (.agg (bkc B)) (.agg (bkc C))).run Try.prog w = .ok (decide (B = C)) w := by
  by_cases h : B = C
  · subst h
    rw [decide_eq_true rfl]
    exact eq_bk B d w
  rw [decide_eq_false h]
  obtain ⟨i, hi⟩ : ∃ i, Try.prog.info? 94 = some i := Option.isSome_iff_exists.1 (by kernel_rfl)
  have hc : Try.prog.cellsOf 94 = 3 := by kernel_rfl
  have harr : ∀ (d : Nat) (xs ys : Array Value) (w : World), (Op.equalIn (d + 1) 95 (.agg xs) (.agg ys)).run Try.prog w = (Op.eqItems d 94 3 xs ys [0, 1]).run Try.prog w := fun d xs ys w => by
    have := run_equalIn_array (w := w) d xs ys Try.underlying95 hi
    rw [hc] at this
    exact this
  have h60 := Try.underlying97
  have h23 := Try.underlying23
  have h57 := Try.underlying94
  have h2 := Try.underlying2
  simp [go_sem, harr, Op.eqItems, h60, h23, h57, h2]
  intro q1 q2 q3 q4 q5 q6 q7 q8 q9 q10 q11 q12
  exact h (bk_ext q1 q2 q3 q4 q5 q6 q7 q8 q9 q10 q11 q12)
theorem same_any (a b : Nat) (B C : Bk) (w : World) (ha : IsBk w a B) (hb : IsBk w b C) (hr : B.s.rate ≠ 0) (hr2 : C.s.rate ≠ 0) :
    Calls Try.prog 42 #[.pointer (some ⟨a, 0, none⟩), .pointer (some ⟨b, 0, none⟩)] w fun e w' => e = .returned (.bool (decide (B = C))) ∧ Fr0 w w' := by
  have HNA := Lib.hid (bnone_calls a B w ha)
  have HNB := Lib.hid (bnone_calls b C w hb)
  have hrb : (B.s.rate == 0) = false := by simpa using hr
  have hrc : (C.s.rate == 0) = false := by simpa using hr2
  rw [hrb] at HNA
  rw [hrc] at HNB
  clear hrb hr hrc hr2
  obtain ⟨c0, c1, c2, c3, c4, c5, c6, c7, c8, c9, c10, c11⟩ := ha.cells
  obtain ⟨d0, d1, d2, d3, d4, d5, d6, d7, d8, d9, d10, d11⟩ := hb.cells
  have heq := eq_bk2 B C
  go_enter Try.func42, Try.ntmps42
  go_wp2_with (first
    | (go_at_call_of 48 (Value.pointer (some (⟨a, 0, none⟩ : Addr))); refine HNA.out.mono ?_; rintro e w' ⟨rfl, rfl⟩)
    | (go_at_call_of 48 (Value.pointer (some (⟨b, 0, none⟩ : Addr))); refine HNB.out.mono ?_; rintro e w' ⟨rfl, rfl⟩))
  go_quiet (fail)
  go_wp2_with fail
  go_ret
  exact ⟨rfl, (Fr.refl _ w).drewN nq⟩
end Go.Proofs.Ytmnadploikcljaa
