/- Chapter 13: a shaper beside the document's: a call of each kind, of both. -/
import Derived.Test.YtmnadploikcljaaShR
import Derived.Test.YtmnadploikcljaaShSa
set_option linter.unusedVariables false
set_option linter.unusedSimpArgs false
namespace Go.Proofs.Ytmnadploikcljaa
open Go.RowKit

/-- A document's shaper as a value: its lists lie apart from S. -/
structure IsRs (w : World) (S : Nat → Prop) (v : Value) (g : Rs) : Prop where
  ex : ∃ A c A2 c2, v = rsv g.s A g.l.length c g.now g.room A2 g.L.length c2 ∧ Rd S w A (sends g.l) ∧ g.l.length ≤ c ∧ Rd S w A2 (sends g.L) ∧ g.L.length ≤ c2 ∧ c2 ≤ maxLen
theorem IsRs.kept {w w' : World} {S : Nat → Prop} {v : Value} {g : Rs} (h : IsRs w S v g) (hf : Fr S w w') : IsRs w' S v g := by
  obtain ⟨A, c, A2, c2, h1, h2, h3, h4, h5⟩ := h.ex
  exact ⟨A, c, A2, c2, h1, h2.kept hf, h3, h4.kept hf, h5⟩
theorem IsRs.mono {w : World} {S T : Nat → Prop} {v : Value} {g : Rs} (h : IsRs w S v g) (ht : ∀ k, k < w.heap.size → T k → S k) : IsRs w T v g := by
  obtain ⟨A, c, A2, c2, h1, h2, h3, h4, h5⟩ := h.ex
  exact ⟨A, c, A2, c2, h1, h2.mono ht, h3, h4.mono ht, h5⟩
/-- What the document's shaper must be that its calls are known. -/
structure Rs.Ok (g : Rs) : Prop where
  siz : Siz g.L
  spec : 0 ≤ g.s.least ∧ g.s.most ≤ 2000
  len : g.l.length + g.L.length ≤ 98
  bk : 0 < g.L.length → ∃ B, BkOf g.s g.l B ∧ B.now = g.now
def Rs.may (g : Rs) (t : Int) : Prop := g.now ≤ t ∧ t ≤ 2147483647
instance (g : Rs) (t : Int) : Decidable (g.may t) := by unfold Rs.may; infer_instance
def Rs.goK (g : Rs) (t : Int) : Nat := goN g.s t g.l g.L
def Rs.go (g : Rs) (t : Int) : Rs := if g.may t then ⟨g.s, g.l ++ tag t (g.L.take (g.goK t)), t, g.room, g.L.drop (g.goK t)⟩ else g
def Rs.goO (g : Rs) (t : Int) : List (Int × Int) := if g.may t then g.L.take (g.goK t) else []
def Rs.goE (g : Rs) (t : Int) : Int := if g.may t then 0 else 2
theorem rsput_any (S : Nat → Prop) (v : Value) (g : Rs) (id z : Int) (w : World) (h : IsRs w S v g) (ho : g.Ok) (hS : ∀ k, w.heap.size ≤ k → ¬ S k) :
    Calls Try.prog 37 #[v, .agg #[.int .i64 id, .int .i64 z]] w fun e w' => (∃ v', e = .returned (.tuple #[v', .int .i64 (g.putE id z)]) ∧ IsRs w' S v' (g.put id z)) ∧ Fr0 w w' := by
  obtain ⟨A, c, A2, c2, rfl, hA, hc, hA2, hc2, hcm⟩ := h.ex
  have hR := hA2.mono (T := fun _ => False) (fun _ _ h => h.elim)
  have hl := ho.len
  have keep : ∀ {x : Int}, x ≠ 0 → g.putE id z = x → ∀ (e : Ending) (w' : World), (e = .returned (.tuple #[rsv g.s A g.l.length c g.now g.room A2 g.L.length c2, .int .i64 x]) ∧ Fr0 w w') → (∃ v', e = .returned (.tuple #[v', .int .i64 (g.putE id z)]) ∧ IsRs w' S v' (g.put id z)) ∧ Fr0 w w' := by
    rintro x hx0 hx e w' ⟨h1, h2⟩
    refine ⟨⟨_, by rw [hx]; exact h1, ?_⟩, h2⟩
    have : g.put id z = g := by unfold Rs.put; rw [if_neg (by rw [hx]; exact hx0)]
    rw [this]
    exact ⟨A, c, A2, c2, rfl, hA.kept (Fr0.any h2), hc, hA2.kept (Fr0.any h2), hc2, hcm⟩
  by_cases h1 : id < 0
  · exact (rsput_id1 g.s A g.l.length c g.now g.room A2 c2 g.L id z w h1).mono (keep (by decide) (by unfold Rs.putE; rw [if_pos (by omega)]))
  by_cases h2 : 4611686018427387904 < id
  · exact (rsput_id2 g.s A g.l.length c g.now g.room A2 c2 g.L id z w h1 h2).mono (keep (by decide) (by unfold Rs.putE; rw [if_pos (by omega)]))
  have e1 : ¬ ¬ (0 ≤ id ∧ id ≤ 4611686018427387904) := by omega
  by_cases h3 : z < g.s.least
  · exact (rsput_sz1 g.s A g.l.length c g.now g.room A2 c2 g.L id z w h1 h2 h3).mono (keep (by decide) (by unfold Rs.putE; rw [if_neg e1, if_pos (by omega)]))
  by_cases h4 : g.s.most < z
  · exact (rsput_sz2 g.s A g.l.length c g.now g.room A2 c2 g.L id z w h1 h2 h3 h4).mono (keep (by decide) (by unfold Rs.putE; rw [if_neg e1, if_pos (by omega)]))
  have e2 : ¬ ¬ (g.s.least ≤ z ∧ z ≤ g.s.most) := by omega
  have hz : 0 ≤ z ∧ z ≤ 2000 := by have := ho.spec; omega
  by_cases h5 : g.room < bytesW g.L + z
  · exact (rsput_room g.s A g.l.length c g.now g.room A2 c2 g.L id z w hR ho.siz (by omega) hz h1 h2 h3 h4 h5).mono (keep (by decide) (by unfold Rs.putE; rw [if_neg e1, if_neg e2, if_pos h5]))
  · have he : g.putE id z = 0 := by unfold Rs.putE; rw [if_neg e1, if_neg e2, if_neg h5]
    have hA2n : A2 = none → g.L.length = 0 := fun e => by
      subst e
      rcases Nat.eq_zero_or_pos g.L.length with h | h
      · exact h
      · obtain ⟨_, _, e⟩ := hA2.some_ (by rw [sends_length]; omega)
        cases e
    refine (rsput_ok g.s A g.l.length c g.now g.room A2 c2 g.L id z w hR ho.siz (by omega) hz h1 h2 h3 h4 hA2n h5).mono ?_
    rintro e w' ⟨⟨A', c', e', hc1, hc2', _, hrd⟩, hf⟩
    refine ⟨⟨_, by rw [he]; exact e', ?_⟩, hf⟩
    have : g.put id z = { g with L := g.L ++ [(id, z)] } := by unfold Rs.put; rw [if_pos he]
    rw [this]
    exact ⟨A, c, A', c', by simp, hA.kept (Fr0.any hf), hc, hrd S hS, by simpa using hc1, hc2'⟩
theorem goN_take {s : Sp} {t : Int} {l L O D : List (Int × Int)} (h : L = O ++ D) (hk : O.length = goN s t l L) : O = L.take (goN s t l L) ∧ D = L.drop (goN s t l L) := by
  rw [← hk]; subst h; simp
theorem rsgo_any (S : Nat → Prop) (v : Value) (g : Rs) (t : Int) (w : World) (h : IsRs w S v g) (ho : g.Ok) (hS : ∀ k, w.heap.size ≤ k → ¬ S k) :
    Calls Try.prog 38 #[v, .int .i64 t] w fun e w' => (∃ v' A c, e = .returned (.tuple #[v', .slice A (g.goO t).length c, .int .i64 (g.goE t)]) ∧ Rd (fun k => k < w.heap.size) w' A (sends (g.goO t)) ∧ IsRs w' S v' (g.go t)) ∧ Fr0 w w' := by
  obtain ⟨A, c, A2, c2, rfl, hA, hc, hA2, hc2, hcm⟩ := h.ex
  by_cases hm : g.may t
  · have e1 : g.goO t = g.L.take (g.goK t) := if_pos hm
    have e2 : g.goE t = 0 := if_pos hm
    have e3 : g.go t = ⟨g.s, g.l ++ tag t (g.L.take (g.goK t)), t, g.room, g.L.drop (g.goK t)⟩ := if_pos hm
    rw [e1, e2, e3]
    refine (rsgo_yes S g.s A c g.l g.now g.room A2 c2 g.L t w hS hA hc hA2 ⟨hc2, hcm⟩ (by have := ho.len; omega) hm ho.bk).mono ?_
    rintro e w' ⟨⟨O, D, A', c', A2', c2', A8, c8, h1, h2, h3, h4, h5, h6, h7, h8, h9⟩, hf⟩
    obtain ⟨h10, h11⟩ := goN_take h1 h2
    have h10' : O = g.L.take (g.goK t) := h10
    have h11' : D = g.L.drop (g.goK t) := h11
    rw [← h10', ← h11']
    exact ⟨⟨_, A8, c8, h3, h4, A', c', A2', c2', rfl, h5, h6, h7, h8, h9⟩, hf⟩
  · have e1 : g.goO t = [] := if_neg hm
    have e2 : g.goE t = 2 := if_neg hm
    have e3 : g.go t = g := if_neg hm
    rw [e1, e2, e3]
    refine (rsgo_not g.s A g.l.length c g.now g.room A2 g.L.length c2 t w hm).mono ?_
    rintro e w' ⟨h1, h2⟩
    exact ⟨⟨_, none, 0, h1, Rd.nil _ _ _, A, c, A2, c2, rfl, hA.kept (Fr0.any h2), hc, hA2.kept (Fr0.any h2), hc2, hcm⟩, h2⟩
/-- The document's shaper of a shaper. -/
def Sh.rs (X : Sh) : Rs := ⟨X.s, X.t, X.B.now, X.room, X.L⟩
theorem Sh.Ok.rs {X : Sh} (h : X.Ok) (hl : X.t.length + X.L.length ≤ 98) : X.rs.Ok := by
  obtain ⟨q1, q2, q3, q4, q5, q6, q7, q8⟩ := h.of.right
  exact ⟨h.pos.siz, by show 0 ≤ X.s.least ∧ X.s.most ≤ 2000; omega, hl, fun _ => ⟨X.B, h.of, rfl⟩⟩
theorem rs_putE (X : Sh) (id z : Int) : X.rs.putE id z = putE X id z := by
  unfold Rs.putE putE Sh.rs
  dsimp only
  by_cases h : X.room < bytesW X.L + z
  · rw [if_pos h, if_pos (show X.room - bytesW X.L < z by omega)]
  · rw [if_neg h, if_neg (show ¬ X.room - bytesW X.L < z by omega)]
theorem rs_put (X : Sh) (id z : Int) : X.rs.put id z = (putX X id z).rs := by
  unfold Rs.put putX
  rw [rs_putE]
  split <;> rfl
theorem GoS.rs {X X' : Sh} {t : Int} {O : List (Int × Int)} {er : Int} (h : GoS X t X' O er) : er = X.rs.goE t ∧ O = X.rs.goO t ∧ X.rs.go t = X'.rs := by
  unfold GoS at h
  unfold Rs.goE Rs.goO Rs.go
  split at h
  · rename_i hm
    obtain ⟨rfl, rfl, B, hB, rfl⟩ := h
    have hm' : X.rs.may t := hm
    rw [if_pos hm', if_pos hm', if_pos hm']
    exact ⟨rfl, rfl, by unfold Sh.rs goX Rs.goK; dsimp only; rw [hB]⟩
  · rename_i hm
    obtain ⟨rfl, rfl, e⟩ := h
    have hm' : ¬ X.rs.may t := hm
    rw [if_neg hm', if_neg hm', if_neg hm', e]
    exact ⟨rfl, rfl, rfl⟩
end Go.Proofs.Ytmnadploikcljaa
