/- Chapter 12: the plain law of a bucket: what there is, is what the spec leaves. -/
import Derived.Test.YtmnadploikcljaaPl
set_option linter.unusedVariables false
set_option linter.unusedSimpArgs false
namespace Go.Proofs.Ytmnadploikcljaa
open Go.RowKit

/-- Bytes of a kind. -/
structure K3 where
  has : Int
  most : Int
  more : Int
deriving DecidableEq
def K3.adv (k : K3) (t : Int) : K3 := ⟨min k.most (k.has + k.more * t), k.most, k.more⟩
/-- h is what there is of a kind, behind these sendings, at a tick. -/
structure IsHas (cap rate : Int) (l : List (Int × Int)) (now h : Int) : Prop where
  le : h ≤ cap
  all : ∀ k, k < l.length → sumF l k l.length + h ≤ cap + rate * (now - at_ l k)
  is : h = cap ∨ ∃ k, k < l.length ∧ sumF l k l.length + h = cap + rate * (now - at_ l k)
theorem IsHas.nil (cap rate now : Int) : IsHas cap rate [] now cap := ⟨Int.le_refl _, fun k hk => absurd hk (by simp), .inl rfl⟩
theorem IsHas.adv {cap rate : Int} {l : List (Int × Int)} {now h : Int} (hh : IsHas cap rate l now h) (hr : 0 ≤ rate) {t : Int} (ht : 0 ≤ t) : IsHas cap rate l (now + t) (min cap (h + rate * t)) := by
  have hm := Int.mul_nonneg hr ht
  have key : ∀ x : Int, rate * (now + t - x) = rate * (now - x) + rate * t := fun x => by rw [← Int.mul_add]; congr 1; omega
  refine ⟨by omega, fun k hk => ?_, ?_⟩
  · have := hh.all k hk
    rw [key]
    omega
  · rcases hh.is with h1 | ⟨k, hk, h1⟩
    · exact .inl (by omega)
    · by_cases hc : cap ≤ h + rate * t
      · exact .inl (by omega)
      · exact .inr ⟨k, hk, by rw [key]; omega⟩
theorem IsHas.take {cap rate : Int} {l : List (Int × Int)} {now h : Int} (hh : IsHas cap rate l now h) {z : Int} (hz : 0 ≤ z) : IsHas cap rate (l ++ [(now, z)]) now (h - z) := by
  have hlen : (l ++ [(now, z)]).length = l.length + 1 := by simp
  have e : ∀ k, k < l.length → sumF (l ++ [(now, z)]) k (l.length + 1) = sumF l k l.length + z ∧ at_ (l ++ [(now, z)]) k = at_ l k := fun k hk =>
    ⟨sumF_new l (now, z) k (by omega), at_app l _ k hk⟩
  have e1 : sumF (l ++ [(now, z)]) l.length (l.length + 1) = z ∧ at_ (l ++ [(now, z)]) l.length = now := by
    refine ⟨?_, at_new l _⟩
    rw [sumF_new l (now, z) _ (Nat.le_refl _), sumF_self, Int.zero_add]
  refine ⟨by have := hh.le; omega, fun k hk => ?_, ?_⟩
  · rw [hlen] at hk ⊢
    by_cases hkl : k < l.length
    · rw [(e k hkl).1, (e k hkl).2]
      have := hh.all k hkl
      omega
    · obtain rfl : k = l.length := by omega
      rw [e1.1, e1.2, Int.sub_self, Int.mul_zero]
      have := hh.le
      omega
  · rcases hh.is with h1 | ⟨k, hk, h1⟩
    · refine .inr ⟨l.length, by omega, ?_⟩
      rw [hlen, e1.1, e1.2, Int.sub_self, Int.mul_zero]
      omega
    · refine .inr ⟨k, by omega, ?_⟩
      rw [hlen, (e k hk).1, (e k hk).2]
      omega

/-- A bucket: its spec, both kinds, its tick. -/
structure Bk where
  s : Sp
  k0 : K3
  k1 : K3
  now : Int
deriving DecidableEq
/-- The bucket behind these sendings. -/
structure BkOf (s : Sp) (l : List (Int × Int)) (B : Bk) : Prop where
  spec : B.s = s
  right : s.Right
  keeps : Keeps s l
  last : ∀ k, k < l.length → at_ l k ≤ B.now
  now : 0 ≤ B.now ∧ B.now ≤ 2147483647
  k0 : B.k0.most = s.burst ∧ B.k0.more = s.rate
  k1 : B.k1.most = s.most ∧ B.k1.more = s.peak
  h0 : IsHas s.burst s.rate l B.now B.k0.has
  h1 : IsHas s.most s.peak l B.now B.k1.has
  p0 : 0 ≤ B.k0.has
  p1 : 0 ≤ B.k1.has
def bkNew (s : Sp) : Bk := ⟨s, ⟨s.burst, s.burst, s.rate⟩, ⟨s.most, s.most, s.peak⟩, 0⟩
theorem bkOf_new {s : Sp} (h : s.Right) : BkOf s [] (bkNew s) := by
  have h' := h
  obtain ⟨q1, q2, q3, q4, q5, q6, q7, q8⟩ := h
  exact ⟨rfl, h', fun i hi => absurd hi (by simp), fun k hk => absurd hk (by simp), by simp [bkNew], ⟨rfl, rfl⟩, ⟨rfl, rfl⟩, IsHas.nil _ _ _, IsHas.nil _ _ _, by show 0 ≤ s.burst; omega, by show 0 ≤ s.most; omega⟩
def Bk.adv (B : Bk) (t : Int) : Bk := ⟨B.s, B.k0.adv (t - B.now), B.k1.adv (t - B.now), t⟩
theorem BkOf.adv {s : Sp} {l : List (Int × Int)} {B : Bk} (h : BkOf s l B) {t : Int} (h0 : B.now ≤ t) (h1 : t ≤ 2147483647) : BkOf s l (B.adv t) := by
  obtain ⟨q1, q2, q3, q4, q5, q6, q7, q8⟩ := h.right
  have a0 := h.h0.adv (by omega) (t := t - B.now) (by omega)
  have a1 := h.h1.adv (by omega) (t := t - B.now) (by omega)
  have m0 := Int.mul_nonneg (show 0 ≤ s.rate by omega) (show 0 ≤ t - B.now by omega)
  have m1 := Int.mul_nonneg (show 0 ≤ s.peak by omega) (show 0 ≤ t - B.now by omega)
  have p0 := h.p0
  have p1 := h.p1
  rw [show B.now + (t - B.now) = t by omega] at a0 a1
  refine ⟨h.spec, h.right, h.keeps, fun k hk => by have := h.last k hk; show _ ≤ t; omega, ⟨by have := h.now; show 0 ≤ t; omega, h1⟩, ⟨h.k0.1, h.k0.2⟩, ⟨h.k1.1, h.k1.2⟩, ?_, ?_, ?_, ?_⟩
  · simp only [Bk.adv, K3.adv, h.k0.1, h.k0.2]; exact a0
  · simp only [Bk.adv, K3.adv, h.k1.1, h.k1.2]; exact a1
  · simp only [Bk.adv, K3.adv, h.k0.1, h.k0.2]; omega
  · simp only [Bk.adv, K3.adv, h.k1.1, h.k1.2]; omega
/-- May a packet be taken? -/
def Bk.fits (B : Bk) (z : Int) : Prop := (B.s.least ≤ z ∧ z ≤ B.s.most) ∧ z ≤ B.k0.has ∧ z ≤ B.k1.has
instance (B : Bk) (z : Int) : Decidable (B.fits z) := by unfold Bk.fits; infer_instance
theorem BkOf.fits {s : Sp} {l : List (Int × Int)} {B : Bk} (h : BkOf s l B) (z : Int) : Keeps s (l ++ [(B.now, z)]) ↔ B.fits z := by
  rw [keeps_snoc s l _ h.keeps, good_new]
  obtain ⟨q1, q2, q3, q4, q5, q6, q7, q8⟩ := h.right
  have hr := h.right
  have hn := h.now
  have hz := alw_zero hr
  unfold Bk.fits
  rw [h.spec]
  constructor
  · rintro ⟨_, h2, _, h4, h5⟩
    dsimp only at h2 h4 h5
    rw [hz] at h4
    refine ⟨h2, ?_, ?_⟩
    · rcases h.h0.is with e | ⟨k, hk, e⟩
      · omega
      · have := h5 k hk
        have ha : alw s (B.now - at_ l k) ≤ s.burst + s.rate * (B.now - at_ l k) := by unfold alw; omega
        omega
    · rcases h.h1.is with e | ⟨k, hk, e⟩
      · omega
      · have := h5 k hk
        have ha : alw s (B.now - at_ l k) ≤ s.most + s.peak * (B.now - at_ l k) := by unfold alw; omega
        omega
  · rintro ⟨h2, h3, h4⟩
    refine ⟨hn, h2, fun hl => h.last _ (by omega), ?_, fun k hk => ?_⟩
    · dsimp only; rw [hz]; omega
    · have a0 := h.h0.all k hk
      have a1 := h.h1.all k hk
      dsimp only
      unfold alw
      omega
def Bk.less (B : Bk) (z : Int) : Bk := ⟨B.s, ⟨B.k0.has - z, B.k0.most, B.k0.more⟩, ⟨B.k1.has - z, B.k1.most, B.k1.more⟩, B.now⟩
theorem BkOf.less {s : Sp} {l : List (Int × Int)} {B : Bk} (h : BkOf s l B) {z : Int} (hf : B.fits z) : BkOf s (l ++ [(B.now, z)]) (B.less z) := by
  obtain ⟨q1, q2, q3, q4, q5, q6, q7, q8⟩ := h.right
  have hk := (h.fits z).2 hf
  obtain ⟨hz, f0, f1⟩ := hf
  rw [h.spec] at hz
  refine ⟨h.spec, h.right, hk, fun k hk => ?_, h.now, h.k0, h.k1, h.h0.take (by omega), h.h1.take (by omega), by simp only [Bk.less]; omega, by simp only [Bk.less]; omega⟩
  by_cases hkl : k < l.length
  · rw [at_app l _ k hkl]; exact h.last k hkl
  · obtain rfl : k = l.length := by simp at hk; omega
    rw [at_new]
    exact Int.le_refl _
/-- What Take makes of a bucket, of a tick that may be. -/
def Bk.take (B : Bk) (t z : Int) : Bk := if (B.adv t).fits z then (B.adv t).less z else B.adv t
/-- May a bucket be asked for at a tick? -/
def Bk.may (B : Bk) (t : Int) : Prop := B.now ≤ t ∧ t ≤ 2147483647
instance (B : Bk) (t : Int) : Decidable (B.may t) := by unfold Bk.may; infer_instance
/-- The document's list behind a Take. -/
def lTake (s : Sp) (l : List (Int × Int)) (t z : Int) : List (Int × Int) := if Keeps s (l ++ [(t, z)]) then l ++ [(t, z)] else l
theorem BkOf.take {s : Sp} {l : List (Int × Int)} {B : Bk} (h : BkOf s l B) {t : Int} (hm : B.may t) (z : Int) : BkOf s (lTake s l t z) (B.take t z) ∧ (Keeps s (l ++ [(t, z)]) ↔ (B.adv t).fits z) := by
  have ha := h.adv hm.1 hm.2
  have hf := ha.fits z
  have hn : (B.adv t).now = t := rfl
  rw [hn] at hf
  refine ⟨?_, hf⟩
  unfold lTake Bk.take
  by_cases hk : Keeps s (l ++ [(t, z)])
  · rw [if_pos hk, if_pos (hf.1 hk)]
    have := ha.less (hf.1 hk)
    rwa [hn] at this
  · rw [if_neg hk, if_neg (fun h => hk (hf.2 h))]
    exact ha
end Go.Proofs.Ytmnadploikcljaa
