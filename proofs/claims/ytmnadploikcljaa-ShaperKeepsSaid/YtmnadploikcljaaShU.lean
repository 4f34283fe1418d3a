/- Chapter 13: what goes at Next; rows of a call's own beside a shaper. -/
import Derived.Test.YtmnadploikcljaaShSa
set_option linter.unusedVariables false
set_option linter.unusedSimpArgs false
namespace Go.Proofs.Ytmnadploikcljaa
open Go.RowKit

theorem next_range {X : Sh} (h : X.Ok) (hL : 0 < X.L.length) (hn : X.B.now ≤ 2147483647) : X.B.now ≤ nextA X ∧ nextA X ≤ X.B.now + 2000 := by
  have hz := h.size (at_ X.L 0, sz_ X.L 0) (by rw [at_eq X.L 0 hL, sz_eq X.L 0 hL]; exact List.getElem_mem hL)
  exact whenT_range h.of ⟨Int.le_refl _, hn⟩ hz
theorem next_keeps {X : Sh} (h : X.Ok) (hL : 0 < X.L.length) (hn : X.B.now ≤ 2147483647) {u : Int} (hu : X.B.now ≤ u ∧ u ≤ 2147483647) : Keeps X.s (X.t ++ [(u, sz_ X.L 0)]) ↔ nextA X ≤ u := by
  have hz := h.size (at_ X.L 0, sz_ X.L 0) (by rw [at_eq X.L 0 hL, sz_eq X.L 0 hL]; exact List.getElem_mem hL)
  rw [keeps_adv h.of (show X.B.may u from hu)]
  exact h.of.when ⟨Int.le_refl _, hn⟩ hz hu.1
theorem goN_pos {s : Sp} {t : Int} {l L : List (Int × Int)} (hL : 0 < L.length) : 0 < goN s t l L ↔ Keeps s (l ++ [(t, sz_ L 0)]) := by
  cases L with
  | nil => simp at hL
  | cons x D =>
    have e : sz_ (x :: D) 0 = x.2 := rfl
    rw [e]
    unfold goN
    split
    · rename_i h; exact ⟨fun _ => h, fun _ => by omega⟩
    · rename_i h; exact ⟨fun h2 => absurd h2 (by omega), fun h2 => absurd h2 h⟩
/-- At Next something goes, and what waits is what went and what still waits. -/
theorem go_next {X X' : Sh} {O : List (Int × Int)} {er : Int} (h : X.Ok) (hL : 0 < X.L.length) (hn : X.B.now ≤ 2147483647) (hm : nextA X ≤ 2147483647) (hg : GoS X (nextA X) X' O er) :
    er = 0 ∧ 0 < O.length ∧ X.L = O ++ X'.L ∧ X'.s = X.s ∧ X'.B.now = nextA X := by
  have hr := next_range h hL hn
  have hmay : X.B.may (nextA X) := ⟨hr.1, hm⟩
  unfold GoS at hg
  rw [if_pos hmay] at hg
  obtain ⟨h1, h2, B, hB, rfl⟩ := hg
  have hk : 0 < goN X.s (nextA X) X.t X.L := (goN_pos hL).2 ((next_keeps h hL hn ⟨hr.1, hm⟩).2 (Int.le_refl _))
  refine ⟨h1, ?_, ?_, rfl, hB⟩
  · rw [h2, List.length_take]; omega
  · rw [h2]; exact (List.take_append_drop _ _).symm
theorem own_not_shE {e : TypeId} (he : e ≠ 65 ∧ e ≠ 97) {base n b m : Nat} {v : Value} {xs : List Value} {w : World} {X : Sh} (h : w.ownsRow base e 2 v n xs) (hs : IsSh w b m X) {q : Nat} (hq : v.ownBlock = some q) : ¬ ShS b m q := by
  obtain ⟨_, cs, hc⟩ := own_blk h hq
  obtain ⟨A, c, hs⟩ := hs
  have hbk : w.heap[m]? = some (.cells (bkc X.B) 97 (0, 0)) := hs.bk
  rintro (rfl | rfl)
  · rw [hs.blk] at hc; exact he.1 (by simp at hc; exact hc.2.symm)
  · rw [hbk] at hc; exact he.2 (by simp at hc; exact hc.2.symm)
/-- A row of the call's own that grows: the shaper's list lies apart from it as ever. -/
theorem sh_pushE {e : TypeId} (he : e ≠ 65 ∧ e ≠ 97) {T : Nat → Prop} {w w' : World} {base n b m : Nat} {v v' : Value} {xs : List Value} {X : Sh} (ho : w.ownsRow base e 2 v n xs) (hs : IsShT (fun q => T q ∨ some q = v.ownBlock) w b m X)
    (hg : w.grownBy w' v.ownBlock) (hat : v'.ownBlock = v.ownBlock ∨ v'.ownBlock = some w.heap.size) : IsShT (fun q => T q ∨ some q = v'.ownBlock) w' b m X := by
  have hgr : Fr (fun q => some q = v.ownBlock) w w' := (Fr.refl _ w).grown hg (fun q _ e => e.symm)
  have h1 : IsShT (fun q => (T q ∨ some q = v'.ownBlock) ∨ some q = v.ownBlock) w b m X := hs.mono (fun k hk e => by
    rcases e with (e | e) | e
    · exact .inl e
    · rcases hat with h | h
      · exact .inr (e.trans h)
      · have := e.trans h
        simp at this
        omega
    · exact .inr e)
  obtain ⟨A, c, h2, h3⟩ := h1
  have h4 := (h2.ls.rd.both h3).kept (hgr.mono (T := fun k => ShS b m k ∨ ((T k ∨ some k = v'.ownBlock) ∨ some k = v.ownBlock)) (fun q _ e => .inr (.inr e)))
  refine ⟨A, c, h2.keptS hgr (fun h => own_not_shE he ho hs.sh h.symm (.inl rfl)) (fun h => own_not_shE he ho hs.sh h.symm (.inr rfl)) (h4.mono (fun _ _ h => .inl h)), h4.mono (fun _ _ h => .inr (.inl h))⟩
theorem own_not_sh {base n b m : Nat} {v : Value} {xs : List Value} {w : World} {X : Sh} (h : w.ownsRow base 33 2 v n xs) (hs : IsSh w b m X) {q : Nat} (hq : v.ownBlock = some q) : ¬ ShS b m q := own_not_shE (by decide) h hs hq
theorem sh_push {T : Nat → Prop} {w w' : World} {base n b m : Nat} {v v' : Value} {xs : List Value} {X : Sh} (ho : w.ownsRow base 33 2 v n xs) (hs : IsShT (fun q => T q ∨ some q = v.ownBlock) w b m X)
    (hg : w.grownBy w' v.ownBlock) (hat : v'.ownBlock = v.ownBlock ∨ v'.ownBlock = some w.heap.size) : IsShT (fun q => T q ∨ some q = v'.ownBlock) w' b m X := sh_pushE (by decide) ho hs hg hat
/-- A row's block was there. -/
theorem own_lt {base n : Nat} {v : Value} {xs : List Value} {w : World} {e size : Nat} (h : w.ownsRow base e size v n xs) : ∀ k, w.heap.size ≤ k → ¬ some k = v.ownBlock := fun k hk e => by
  obtain ⟨_, cs, hc⟩ := own_blk h e.symm
  have := lt_of_block hc
  omega
theorem bytesW_zero {l : List (Int × Int)} (h : Pos l) : 0 < bytesW l ↔ 0 < l.length := by
  have := h.range
  omega
/-- Behind those that go, none does. -/
theorem goN_max {s : Sp} {t : Int} : ∀ {L l : List (Int × Int)}, goN s t l L < L.length → ¬ Keeps s ((l ++ tag t (L.take (goN s t l L))) ++ [(t, sz_ L (goN s t l L))])
  | [], l, h => by simp at h
  | x :: D, l, h => by
    by_cases hk : Keeps s (l ++ [(t, x.2)])
    · have e : goN s t l (x :: D) = goN s t (l ++ [(t, x.2)]) D + 1 := by rw [goN_cons, if_pos hk]
      rw [e] at h ⊢
      have h2 := goN_max (L := D) (l := l ++ [(t, x.2)]) (by simpa using h)
      have e2 : sz_ (x :: D) (goN s t (l ++ [(t, x.2)]) D + 1) = sz_ D (goN s t (l ++ [(t, x.2)]) D) := rfl
      have e3 : l ++ tag t ((x :: D).take (goN s t (l ++ [(t, x.2)]) D + 1)) = (l ++ [(t, x.2)]) ++ tag t (D.take (goN s t (l ++ [(t, x.2)]) D)) := by
        rw [List.take_succ_cons]; simp [tag]
      rw [e2, e3]
      exact h2
    · have e : goN s t l (x :: D) = 0 := by rw [goN_cons, if_neg hk]
      rw [e]
      have e2 : sz_ (x :: D) 0 = x.2 := rfl
      rw [e2]
      simpa [tag] using hk
end Go.Proofs.Ytmnadploikcljaa
