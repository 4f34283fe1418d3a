/- From the print's words to this place's own: a row of kinds that is read, as cells; what is made, as a frame. No program in sight. -/
import Derived.Test.YtpelkgoipijiiaaBase
import Derived.Test.YtpelkgoipijiiaaWWords
set_option linter.unusedVariables false
set_option linter.unusedSimpArgs false
namespace Go.Proofs.Ytpelkgoipijiiaa
open Go.RowKit Go.Proofs.YtpelkgoipijiiaaW.PrintWords

theorem rd_of_kd {α : Type} {d : Kd α} {w : World} {A : Option Addr} {n : Nat} {xs : List α} (enc : α → List Value) (hs : 0 < d.sz) (he : ∀ x cs, d.K w x cs → cs = enc x) (hl : ∀ x, (enc x).length = d.sz) (h : Kd.C d w A n xs) : Rd (fun _ => False) w A (xs.flatMap enc) := by
  obtain ⟨hn, _, hr⟩ := h
  rcases Nat.eq_zero_or_pos n with h0 | h0
  · subst h0
    rw [List.length_eq_zero_iff.1 hn]
    exact .inl rfl
  · obtain ⟨⟨b, off, sp⟩, rfl, hc⟩ := hr h0
    have hx0 : 0 < xs.length := by omega
    obtain ⟨c0, hc0, hk0, hcc⟩ := hc 0 xs[0] (List.getElem?_eq_getElem hx0)
    have hsp : sp = none := by
      have := hcc 0 c0[0] (List.getElem?_eq_getElem (by omega))
      simp only [Nat.zero_mul, Nat.add_zero, Addr.add, if_true, World.cell?] at this
      cases sp with
      | none => rfl
      | some s => split at this <;> simp at this
    subst hsp
    have hadd : ∀ j, (⟨b, off, none⟩ : Addr).add j = ⟨b, off + j, none⟩ := fun j => by unfold Addr.add; split <;> simp_all
    refine .inr ⟨b, off, rfl, fun h => h, ?_⟩
    have key : ∀ (ys : List α) (k : Nat), (∀ j p, ys[j]? = some p → ∃ c, c.length = d.sz ∧ d.K w p c ∧ ∀ i u, c[i]? = some u → w.cell? ⟨b, off + ((k + j) * d.sz + i), none⟩ = some u) →
        ∀ i (hi : i < (ys.flatMap enc).length), w.cell? ⟨b, off + (k * d.sz + i), none⟩ = some (ys.flatMap enc)[i] := by
      intro ys
      induction ys with
      | nil => intro k _ i hi; simp at hi
      | cons y ys ih =>
        intro k hk i hi
        obtain ⟨c, hcl, hK, hu⟩ := hk 0 y rfl
        have hce := he _ _ hK
        subst hce
        simp only [List.flatMap_cons]
        by_cases hlt : i < (enc y).length
        · rw [List.getElem_append_left hlt]
          have := hu i _ (List.getElem?_eq_getElem hlt)
          rwa [Nat.add_zero] at this
        · rw [List.getElem_append_right (by omega)]
          have h2 := ih (k + 1) (fun j p hp => by
            obtain ⟨c', a1, a2, a3⟩ := hk (j + 1) p (by simpa using hp)
            refine ⟨c', a1, a2, fun i u hi => ?_⟩
            have := a3 i u hi
            rwa [show k + (j + 1) = k + 1 + j by omega] at this) (i - (enc y).length) (by simp only [List.flatMap_cons, List.length_append] at hi; omega)
          rw [← h2]
          congr 2
          rw [hl y]
          rw [hl y] at hlt
          rw [Nat.add_mul]
          omega
    intro i hi
    have := key xs 0 (fun j p hp => by
      obtain ⟨c, a1, a2, a3⟩ := hc j p hp
      refine ⟨c, a1, a2, fun i u hu => ?_⟩
      have := a3 i u hu
      rwa [hadd, ← Nat.zero_add j] at this) i hi
    rwa [Nat.zero_mul, Nat.zero_add] at this
/-- The other way: what reads as cells reads as a row of kinds. -/
theorem kd_of_rd {α : Type} {d : Kd α} {w : World} {S : Nat → Prop} {A : Option Addr} {xs : List α} (enc : α → List Value) (he : ∀ x, d.K w x (enc x)) (hl : ∀ x, (enc x).length = d.sz) (hs : 0 < d.sz) (hn : xs.length ≤ 9223372036854775807) (h : Rd S w A (xs.flatMap enc)) : Kd.C d w A xs.length xs := by
  have hlen : ∀ ys : List α, (ys.flatMap enc).length = ys.length * d.sz := by
    intro ys
    induction ys with
    | nil => simp
    | cons y ys ih => rw [List.flatMap_cons, List.length_append, ih, hl, List.length_cons, Nat.add_mul]; omega
  refine ⟨rfl, hn, fun h0 => ?_⟩
  have hpos : 0 < (xs.flatMap enc).length := by rw [hlen]; exact Nat.mul_pos h0 hs
  obtain ⟨b, off, rfl⟩ := h.some_ hpos
  refine ⟨_, rfl, fun j p hp => ?_⟩
  obtain ⟨hj, rfl⟩ := List.getElem?_eq_some_iff.1 hp
  refine ⟨enc xs[j], hl _, he _, fun i u hu => ?_⟩
  obtain ⟨hi, rfl⟩ := List.getElem?_eq_some_iff.1 hu
  have hadd : ∀ j, (⟨b, off, none⟩ : Addr).add j = ⟨b, off + j, none⟩ := fun j => by unfold Addr.add; split <;> simp_all
  have hi2 : i < d.sz := by rw [← hl xs[j]]; exact hi
  have hlt : j * d.sz + i < (xs.flatMap enc).length := by
    rw [hlen]
    calc j * d.sz + i < j * d.sz + d.sz := by omega
      _ = (j + 1) * d.sz := by rw [Nat.add_mul]; omega
      _ ≤ xs.length * d.sz := Nat.mul_le_mul_right _ hj
  have key : ∀ (ys : List α) (j : Nat) (p : α), ys[j]? = some p → (ys.flatMap enc)[j * d.sz + i]? = (enc p)[i]? := by
    intro ys
    induction ys with
    | nil => intro j p hp; simp at hp
    | cons y ys ih =>
      intro j p hp
      have hly := hl y
      simp only [List.flatMap_cons]
      cases j with
      | zero =>
        obtain rfl : y = p := by simpa using hp
        rw [Nat.zero_mul, Nat.zero_add, List.getElem?_append_left (by omega)]
      | succ j =>
        have e : (j + 1) * d.sz + i - (enc y).length = j * d.sz + i := by rw [hly, Nat.add_mul]; omega
        rw [List.getElem?_append_right (by rw [hly, Nat.add_mul]; omega), e]
        exact ih j p (by simpa using hp)
  have := key xs j _ hp
  rw [List.getElem?_eq_getElem hlt, List.getElem?_eq_getElem hi] at this
  rw [hadd, h.at_ _ hlt]
  exact this
end Go.Proofs.Ytpelkgoipijiiaa
