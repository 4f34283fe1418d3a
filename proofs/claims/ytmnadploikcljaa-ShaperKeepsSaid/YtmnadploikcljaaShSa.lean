/- Chapter 13: Go, of the code, in one word. -/
import Derived.Test.YtmnadploikcljaaShM
set_option linter.unusedVariables false
set_option linter.unusedSimpArgs false
namespace Go.Proofs.Ytmnadploikcljaa
open Go.RowKit

theorem goN_cons (s : Sp) (t : Int) (T : List (Int × Int)) (x : Int × Int) (D : List (Int × Int)) : goN s t T (x :: D) = if Keeps s (T ++ [(t, x.2)]) then goN s t (T ++ [(t, x.2)]) D + 1 else 0 := rfl
theorem tag_one (t : Int) (x : Int × Int) : tag t [x] = [(t, x.2)] := rfl
/-- Go, of the code. -/
def GoS (X : Sh) (t : Int) (X' : Sh) (O : List (Int × Int)) (er : Int) : Prop :=
  if X.B.may t then er = 0 ∧ O = X.L.take (goN X.s t X.t X.L) ∧ ∃ B : Bk, B.now = t ∧ X' = goX X t (goN X.s t X.t X.L) B else er = 2 ∧ O = [] ∧ X' = X
theorem sgo_any (T : Nat → Prop) (b m : Nat) (X : Sh) (t : Int) (w : World) (h : IsShT T w b m X) :
    Calls Try.prog 12 #[.pointer (some ⟨b, 0, none⟩), .int .i64 t] w fun e w' => ∃ X' O er A c, e = .returned (.tuple #[.slice A O.length c, .int .i64 er]) ∧ O.length ≤ X.L.length ∧ Rd (fun k => k < w.heap.size) w' A (sends O) ∧ GoS X t X' O er ∧ IsShT T w' b m X' ∧ Fr (ShS b m) w w' := by
  refine (sgo_callsT T b m X t w h).mono ?_
  intro e w' hp
  unfold GoPostT at hp
  split at hp
  · rename_i hm
    obtain ⟨v, B, rfl, h1, h2, h3, h4⟩ := hp
    obtain ⟨A, c, rfl, _, _⟩ := own_form h1
    refine ⟨_, X.L.take (goN X.s t X.t X.L), 0, A, c, rfl, by simp [List.length_take]; omega, ?_, by unfold GoS; rw [if_pos hm]; exact ⟨rfl, rfl, B, h2, rfl⟩, h3, h4⟩
    exact own_rd (fun k => k < w.heap.size) h1 (fun k hk _ e => by omega)
  · rename_i hm
    obtain ⟨rfl, hf⟩ := hp
    exact ⟨X, [], 2, none, 0, rfl, by simp, Rd.nil _ _ _, by unfold GoS; rw [if_neg hm]; exact ⟨rfl, rfl, rfl⟩, h.kept0 hf, Fr0.any hf⟩
end Go.Proofs.Ytmnadploikcljaa
