/- Chapter 12: a Take whatever the tick; when a packet keeps to it. -/
import Derived.Test.YtmnadploikcljaaBkH
set_option linter.unusedVariables false
set_option linter.unusedSimpArgs false
namespace Go.Proofs.Ytmnadploikcljaa
open Go.RowKit

structure BkFacts (B : Bk) (t : Int) : Prop where
  rate : B.s.rate ≠ 0
  now : 0 ≤ B.now
  ok0 : B.k0.Ok (t - B.now)
  ok1 : B.k1.Ok (t - B.now)
  least : 1 ≤ B.s.least
  most : B.s.most ≤ 2000
  m0 : 1 ≤ B.k0.more ∧ B.k0.more ≤ 1000000
  m1 : 1 ≤ B.k1.more ∧ B.k1.more ≤ 1000000
theorem BkOf.rate {s : Sp} {l : List (Int × Int)} {B : Bk} (h : BkOf s l B) : B.s.rate ≠ 0 := by
  have := h.right.r1
  rw [h.spec]
  omega
theorem BkOf.facts {s : Sp} {l : List (Int × Int)} {B : Bk} (h : BkOf s l B) {t : Int} (hm : B.may t) : BkFacts B t := by
  obtain ⟨q1, q2, q3, q4, q5, q6, q7, q8⟩ := h.right
  obtain ⟨m1, m2⟩ := hm
  obtain ⟨n1, n2⟩ := h.now
  obtain ⟨a1, a2⟩ := h.k0
  obtain ⟨b1, b2⟩ := h.k1
  have c0 := h.h0.le
  have c1 := h.h1.le
  have p0 := h.p0
  have p1 := h.p1
  have x0 := mul_le_of (a := s.rate) (b := t - B.now) (x := 1000000) (y := 2147483647) (by omega) (by omega) (by omega) (by omega)
  have x1 := mul_le_of (a := s.peak) (b := t - B.now) (x := 1000000) (y := 2147483647) (by omega) (by omega) (by omega) (by omega)
  exact ⟨h.rate, n1, ⟨by omega, by omega, by rw [a2]; omega⟩, ⟨by omega, by omega, by rw [b2]; omega⟩, by rw [h.spec]; omega, by rw [h.spec]; omega, by omega, by omega⟩
def Bk.tk (B : Bk) (t z : Int) : Bk := if B.may t then B.take t z else B
def lTk (s : Sp) (l : List (Int × Int)) (B : Bk) (t z : Int) : List (Int × Int) := if B.may t then lTake s l t z else l
def okTk (s : Sp) (l : List (Int × Int)) (B : Bk) (t z : Int) : Prop := B.may t ∧ Keeps s (l ++ [(t, z)])
instance (s : Sp) (l : List (Int × Int)) (B : Bk) (t z : Int) : Decidable (okTk s l B t z) := by unfold okTk; infer_instance
theorem BkOf.tk {s : Sp} {l : List (Int × Int)} {B : Bk} (h : BkOf s l B) (t z : Int) : BkOf s (lTk s l B t z) (B.tk t z) := by
  unfold lTk Bk.tk
  by_cases hm : B.may t
  · rw [if_pos hm, if_pos hm]; exact (h.take hm z).1
  · rw [if_neg hm, if_neg hm]; exact h
theorem takeOf_calls {s : Sp} {l : List (Int × Int)} {B : Bk} (h : BkOf s l B) (b : Nat) (t z : Int) (w : World) (hb : IsBk w b B) :
    Calls Try.prog 31 #[.pointer (some ⟨b, 0, none⟩), .int .i64 t, .int .i64 z] w fun e w' => e = .returned (.tuple #[.bool (decide (okTk s l B t z)), .int .i64 (askA B t)]) ∧ IsBk w' b (B.tk t z) ∧ Fr (· = b) w w' := by
  unfold askA Bk.tk
  by_cases hm : B.may t
  · have f := h.facts hm
    rw [if_pos hm, if_pos hm]
    refine (take_calls b B t z w hb f.rate hm f.now f.ok0 f.ok1 f.least).mono fun e w' ⟨he, h1, h2⟩ => ⟨?_, h1, h2⟩
    rw [he, show decide (okTk s l B t z) = decide ((B.adv t).fits z) from decide_eq_decide.2 ⟨fun hk => (h.take hm z).2.1 hk.2, fun hf => ⟨hm, (h.take hm z).2.2 hf⟩⟩]
  · have hd : decide (okTk s l B t z) = false := decide_eq_false (fun hk => hm hk.1)
    rw [if_neg hm, if_neg hm, hd]
    exact (take_not b B t z w hb h.rate hm).mono fun e w' ⟨he, h1⟩ => ⟨he, hb.kept0 h1, h1.any⟩

theorem lacks_iff {k : K3} (hm : 1 ≤ k.more) {z d : Int} (hd : 0 ≤ d) : k.lacks z ≤ d ↔ z ≤ k.has + k.more * d := by
  unfold K3.lacks
  rw [← Int.lt_add_one_iff, Int.ediv_lt_iff_lt_mul (by omega), Int.add_mul, Int.one_mul, Int.mul_comm d]
  have := Int.mul_nonneg (show 0 ≤ k.more by omega) hd
  omega
theorem adv_adv {k : K3} (hm : 0 ≤ k.more) (hle : k.has ≤ k.most) {a c : Int} (ha : 0 ≤ a) (hc : 0 ≤ c) : (k.adv a).adv c = k.adv (a + c) := by
  have e : k.more * (a + c) = k.more * a + k.more * c := Int.mul_add ..
  have h1 := Int.mul_nonneg hm hc
  simp only [K3.adv, K3.mk.injEq, and_true]
  rw [e]
  omega
/-- From a tick on that may be, a packet keeps to it just from When on. -/
theorem BkOf.when {s : Sp} {l : List (Int × Int)} {B : Bk} (h : BkOf s l B) {t z u : Int} (hm : B.may t) (hz : s.least ≤ z ∧ z ≤ s.most) (hu : t ≤ u) : (B.adv u).fits z ↔ B.whenT t z ≤ u := by
  have f := h.facts hm
  obtain ⟨m1, m2⟩ := hm
  have hq := h.right
  have ea : ∀ k : K3, 0 ≤ k.more → k.has ≤ k.most → (k.adv (t - B.now)).adv (u - t) = k.adv (u - B.now) := fun k h1 h2 => by
    rw [adv_adv h1 h2 (by omega) (by omega)]
    congr 1
    omega
  have e0 := ea B.k0 (by have := f.m0; omega) (by have := h.h0.le; have := h.k0.1; omega)
  have e1 := ea B.k1 (by have := f.m1; omega) (by have := h.h1.le; have := h.k1.1; omega)
  have i0 := lacks_iff (k := B.k0.adv (t - B.now)) f.m0.1 (z := z) (d := u - t) (by omega)
  have i1 := lacks_iff (k := B.k1.adv (t - B.now)) f.m1.1 (z := z) (d := u - t) (by omega)
  have a0 : (B.adv u).k0.has = min B.k0.most ((B.k0.adv (t - B.now)).has + (B.k0.adv (t - B.now)).more * (u - t)) := by
    show (B.k0.adv (u - B.now)).has = _
    rw [← e0]; rfl
  have a1 : (B.adv u).k1.has = min B.k1.most ((B.k1.adv (t - B.now)).has + (B.k1.adv (t - B.now)).more * (u - t)) := by
    show (B.k1.adv (u - B.now)).has = _
    rw [← e1]; rfl
  have hs : (B.adv u).s = s := h.spec
  unfold Bk.fits
  rw [a0, a1, hs, h.k0.1, h.k1.1]
  obtain ⟨q1, q2, q3, q4, q5, q6, q7, q8⟩ := hq
  unfold Bk.whenT
  constructor
  · rintro ⟨_, h2, h3⟩
    have := i0.2 (by omega)
    have := i1.2 (by omega)
    omega
  · intro hw
    have := i0.1 (by omega)
    have := i1.1 (by omega)
    omega
theorem whenT_range {s : Sp} {l : List (Int × Int)} {B : Bk} (h : BkOf s l B) {t z : Int} (hm : B.may t) (hz : s.least ≤ z ∧ z ≤ s.most) : t ≤ B.whenT t z ∧ B.whenT t z ≤ t + 2000 := by
  have f := h.facts hm
  have hq := h.right
  obtain ⟨q1, q2, q3, q4, q5, q6, q7, q8⟩ := hq
  have ha := h.adv hm.1 hm.2
  have r0 := lacks_range (k := B.k0.adv (t - B.now)) (z := z) ha.p0 f.m0 (by omega)
  have r1 := lacks_range (k := B.k1.adv (t - B.now)) (z := z) ha.p1 f.m1 (by omega)
  unfold Bk.whenT
  omega
/-- What When answers, of a bucket that is there. -/
def whA (B : Bk) (t z : Int) : Int × Int := if B.may t then (if B.s.least ≤ z ∧ z ≤ B.s.most then (B.whenT t z, 0) else (0, 220)) else (0, 2)
theorem whenOf_calls {s : Sp} {l : List (Int × Int)} {B : Bk} (h : BkOf s l B) (b : Nat) (t z : Int) (w : World) (hb : IsBk w b B) :
    Calls Try.prog 35 #[.pointer (some ⟨b, 0, none⟩), .int .i64 t, .int .i64 z] w fun e w' => e = .returned (.tuple #[.int .i64 (whA B t z).1, .int .i64 (whA B t z).2]) ∧ Fr0 w w' := by
  unfold whA
  by_cases hm : B.may t
  · have f := h.facts hm
    rw [if_pos hm]
    by_cases hz : B.s.least ≤ z ∧ z ≤ B.s.most
    · rw [if_pos hz]
      exact when_calls b B t z w hb f.rate hm f.now f.ok0 f.ok1 hz f.least f.most f.m0 f.m1
    · rw [if_neg hz]
      exact when_size b B t z w hb f.rate hm hz
  · rw [if_neg hm]
    exact when_not b B t z w hb h.rate hm
def hasA (B : Bk) (t : Int) : Int × Int × Int := if B.may t then ((B.adv t).k0.has, (B.adv t).k1.has, 0) else (0, 0, 2)
theorem hasOf_calls {s : Sp} {l : List (Int × Int)} {B : Bk} (h : BkOf s l B) (b : Nat) (t : Int) (w : World) (hb : IsBk w b B) :
    Calls Try.prog 30 #[.pointer (some ⟨b, 0, none⟩), .int .i64 t] w fun e w' => e = .returned (.tuple #[.int .i64 (hasA B t).1, .int .i64 (hasA B t).2.1, .int .i64 (hasA B t).2.2]) ∧ Fr0 w w' := by
  unfold hasA
  by_cases hm : B.may t
  · have f := h.facts hm
    rw [if_pos hm]
    exact has_calls b B t w hb f.rate hm f.now f.ok0 f.ok1
  · rw [if_neg hm]
    exact has_not b B t w hb h.rate hm

/-- The spec of 'known'. -/
abbrev knP : Sp := ⟨10, 2, 20, 8, 1⟩
theorem knP_right : knP.Right := by decide
theorem some12_calls (w : World) : Calls Try.prog 24 #[] w fun e w' => e = .returned (spv knP) ∧ Fr0 w w' := by
  go_enter Try.func24, Try.ntmps24
  go_wp2_with fail
  exact bodyPost_ret (v := spv knP) (results_cell_row rfl _ _ w.heap.size _ _ _ _ rfl (heap_alloc_new w (.cells #[.int .i64 10, .int .i64 2, .int .i64 20, .int .i64 8, .int .i64 1] 23)) Try.underlying23 rfl (by kernel_rfl)) rfl ⟨rfl, (Fr.refl _ w).alloc _⟩
end Go.Proofs.Ytmnadploikcljaa
