/- Chapter 01: fractions that lie in blocks of their own; what is added and taken away again (plain). -/
import Derived.Test.YtdakeenjeieekaaRaSc
set_option linter.unusedVariables false
set_option linter.unusedSimpArgs false
namespace Go.Proofs.Ytdakeenjeieekaa
open Go.RowKit

/-- Fractions in blocks. -/
def Rs (l : List (Nat × Int × Int)) (w : World) : Prop := ∀ x ∈ l, w.heap[x.1]? = some (.cells (rtc x.2.1 x.2.2) 23 (0, 0))
theorem Rs.kept {l : List (Nat × Int × Int)} {w w' : World} (h : Rs l w) (hf : Fr0 w w') : Rs l w' := fun x hx => hf.blk (h x hx) (fun h => h)
theorem Rs.push {l : List (Nat × Int × Int)} {w w' : World} (h : Rs l w) (hf : Fr0 w w') (n d : Int) : Rs ((w'.heap.size, n, d) :: l) (w'.alloc (.cells (rtc n d) 23)) := by
  intro x hx
  rcases List.mem_cons.1 hx with rfl | hx
  · exact heap_alloc_new w' _
  · exact blk_alloc (h.kept hf x hx) _
theorem Rs.c {l : List (Nat × Int × Int)} {w : World} (h : Rs l w) (b : Nat) (n d : Int) (hm : (b, n, d) ∈ l) : w.cell? ⟨b, 0, none⟩ = some (.int .i64 n) ∧ w.cell? ⟨b, 1, none⟩ = some (.int .i64 d) :=
  ⟨cell_of_blk (h (b, n, d) hm) 0, cell_of_blk (h (b, n, d) hm) 1⟩
theorem Rs.nil (w : World) : Rs [] w := fun x hx => by cases hx

def rP (r : Ra) : Int × Int := (rN r, rD r)
abbrev vq (a : Int × Int) : Rat := rq a.1 a.2
def addT (a b : Int × Int) : Ra := twoR a b (rR (vq a + vq b))
def subT (a b : Int × Int) : Ra := twoR a b (rR (vq a - vq b))
def mulT (a b : Int × Int) : Ra := twoR a b (rR (vq a * vq b))
def divT (a b : Int × Int) : Ra := twoR a b (divR a b)
abbrev I64p (a : Int × Int) : Prop := I64r a.1 ∧ I64r a.2
abbrev Okp (a : Int × Int) : Prop := RtOk a.1 a.2
theorem i64_zero : I64p (0, 0) := ⟨⟨by decide, by decide⟩, ⟨by decide, by decide⟩⟩
theorem rR_range (x : Rat) : I64p (rP (rR x)) := by
  cases h : rR x with
  | ok p =>
    obtain ⟨n, d⟩ := p
    exact (rR_good h).2
  | error k => exact i64_zero
theorem twoR_range (a b : Int × Int) {r : Ra} (h : I64p (rP r)) : I64p (rP (twoR a b r)) := by
  unfold twoR; split
  · exact h
  · exact i64_zero
theorem addT_range (a b : Int × Int) : I64p (rP (addT a b)) := twoR_range a b (rR_range _)
theorem subT_range (a b : Int × Int) : I64p (rP (subT a b)) := twoR_range a b (rR_range _)
theorem mulT_range (a b : Int × Int) : I64p (rP (mulT a b)) := twoR_range a b (rR_range _)
theorem divT_range (a b : Int × Int) : I64p (rP (divT a b)) := twoR_range a b (by unfold divR; split; exact i64_zero; exact rR_range _)
theorem twoR_inv {a b : Int × Int} {x : Rat} (h : rE (twoR a b (rR x)) = 0) : Okp a ∧ Okp b ∧ Okp (rP (twoR a b (rR x))) ∧ vq (rP (twoR a b (rR x))) = x := by
  unfold twoR at h ⊢
  by_cases hok : RtOk a.1 a.2 ∧ RtOk b.1 b.2
  · rw [if_pos hok] at h ⊢
    refine ⟨hok.1, hok.2, ?_⟩
    cases hr : rR x with
    | ok p =>
      obtain ⟨n, d⟩ := p
      exact ⟨(rR_good hr).1, (rR_ok hr).1.symm⟩
    | error k =>
      rw [hr] at h
      have := rR_err hr
      subst this
      cases h
  · rw [if_neg hok] at h
    cases h
theorem addT_comm (a b : Int × Int) : addT a b = addT b a := by
  unfold addT twoR
  rw [Rat.add_comm]
  simp only [And.comm]
theorem mulT_comm (a b : Int × Int) : mulT a b = mulT b a := by
  unfold mulT twoR
  rw [Rat.mul_comm]
  simp only [And.comm]
theorem rR_vq {a : Int × Int} (h : Okp a) (hi : I64p a) : rR (vq a) = .ok a := by
  have h1 := h.2.1
  obtain ⟨⟨i1, i2⟩, i3, i4⟩ := hi
  exact rR_rq h.p (by omega) i4
theorem addT_inv {a b : Int × Int} (h : rE (addT a b) = 0) : Okp a ∧ Okp b ∧ Okp (rP (addT a b)) ∧ vq (rP (addT a b)) = vq a + vq b := twoR_inv h
theorem mulT_inv {a b : Int × Int} (h : rE (mulT a b) = 0) : Okp a ∧ Okp b ∧ Okp (rP (mulT a b)) ∧ vq (rP (mulT a b)) = vq a * vq b := twoR_inv h
theorem addT_ok {a b : Int × Int} (h1 : Okp a) (h2 : Okp b) : addT a b = rR (vq a + vq b) := twoR_ok h1 h2
theorem mulT_ok {a b : Int × Int} (h1 : Okp a) (h2 : Okp b) : mulT a b = rR (vq a * vq b) := twoR_ok h1 h2
theorem subT_ok {a b : Int × Int} (h1 : Okp a) (h2 : Okp b) : subT a b = rR (vq a - vq b) := twoR_ok h1 h2
theorem divT_ok {a b : Int × Int} (h1 : Okp a) (h2 : Okp b) : divT a b = divR a b := twoR_ok h1 h2
theorem field_sub {a b : Int × Int} (ia : I64p a) (h : rE (addT a b) = 0) : subT (rP (addT a b)) b = .ok a := by
  obtain ⟨h1, h2, h3, h4⟩ := addT_inv h
  rw [subT_ok h3 h2, h4, Rat.add_sub_cancel]
  exact rR_vq h1 ia
theorem field_div {a b : Int × Int} (ia : I64p a) (h : rE (mulT a b) = 0) (hb : b.1 ≠ 0) : divT (rP (mulT a b)) b = .ok a := by
  obtain ⟨h1, h2, h3, h4⟩ := mulT_inv h
  rw [divT_ok h3 h2]
  unfold divR
  rw [if_neg hb]
  show rR (vq (rP (mulT a b)) / vq b) = _
  rw [h4, Rat.mul_div_cancel (rq_ne_zero hb h2.1)]
  exact rR_vq h1 ia
theorem field_over {a b c : Int × Int} (h1 : rE (addT a b) = 0) (h2 : rE (mulT a c) = 0) (h3 : rE (mulT b c) = 0) :
    mulT (rP (addT a b)) c = addT (rP (mulT a c)) (rP (mulT b c)) := by
  obtain ⟨a1, a2, a3, a4⟩ := addT_inv h1
  obtain ⟨b1, b2, b3, b4⟩ := mulT_inv h2
  obtain ⟨c1, c2, c3, c4⟩ := mulT_inv h3
  rw [mulT_ok a3 b2, addT_ok b3 c3, a4, b4, c4, Rat.add_mul]
theorem field_assoc {a b c : Int × Int} (h1 : rE (addT a b) = 0) (h2 : rE (addT b c) = 0) : addT (rP (addT a b)) c = addT a (rP (addT b c)) := by
  obtain ⟨a1, a2, a3, a4⟩ := addT_inv h1
  obtain ⟨b1, b2, b3, b4⟩ := addT_inv h2
  rw [addT_ok a3 b2, addT_ok a1 b3, a4, b4, Rat.add_assoc]
end Go.Proofs.Ytdakeenjeieekaa
