/- Chapter 15: packets, rings, lines: the plain words. No program in sight (but for the cells). -/
import Derived.Test.YtfiiikgjgcnjgaaCpy
import Derived.Test.YtfiiikgjgcnjgaaMem
set_option linter.unusedVariables false
set_option linter.unusedSimpArgs false
namespace Go.Proofs.Ytfiiikgjgcnjgaa
open Go.RowKit

/-- A packet. -/
structure Pk where
  id : Int
  flow : Int
  size : Int
deriving DecidableEq
abbrev pkc (p : Pk) : List Value := [.int .i64 p.id, .int .i64 p.flow, .int .i64 p.size]
abbrev pkv (p : Pk) : Value := .agg #[.int .i64 p.id, .int .i64 p.flow, .int .i64 p.size]
abbrev pk0 : Pk := ⟨0, 0, 0⟩
/-- Packets as cells. -/
def pks (l : List Pk) : List Value := l.flatMap pkc
theorem pks_length (l : List Pk) : (pks l).length = l.length * 3 := by
  induction l with
  | nil => rfl
  | cons p l ih =>
    have e : pks (p :: l) = .int .i64 p.id :: .int .i64 p.flow :: .int .i64 p.size :: pks l := rfl
    rw [e]
    simp only [List.length_cons, ih]
    omega
theorem pks_append (a b : List Pk) : pks (a ++ b) = pks a ++ pks b := by simp [pks]
theorem pks_one (l : List Pk) : ∀ u ∈ pks l, u.oneCell' = true := by
  intro u hu
  simp only [pks, List.mem_flatMap] at hu
  obtain ⟨p, _, hu⟩ := hu
  simp only [List.mem_cons, List.not_mem_nil, or_false] at hu
  rcases hu with rfl | rfl | rfl <;> rfl
theorem pks_at : ∀ (l : List Pk) (i : Nat) (h : i < l.length), (pks l)[i * 3]? = some (.int .i64 l[i].id) ∧ (pks l)[i * 3 + 1]? = some (.int .i64 l[i].flow) ∧ (pks l)[i * 3 + 2]? = some (.int .i64 l[i].size)
  | p :: l, 0, _ => ⟨rfl, rfl, rfl⟩
  | p :: l, i + 1, h => by
    have := pks_at l i (by simpa using h)
    have e : pks (p :: l) = .int .i64 p.id :: .int .i64 p.flow :: .int .i64 p.size :: pks l := rfl
    rw [e, show (i + 1) * 3 = i * 3 + 1 + 1 + 1 by omega]
    simpa using this
/-- A packet set in a row of packets. -/
theorem pks_set : ∀ (l : List Pk) (i : Nat) (p : Pk) (h : i < l.length), ((((pks l).set (i * 3) (.int .i64 p.id)).set (i * 3 + 1) (.int .i64 p.flow)).set (i * 3 + 2) (.int .i64 p.size)) = pks (l.set i p)
  | q :: l, 0, p, _ => rfl
  | q :: l, i + 1, p, h => by
    have := pks_set l i p (by simpa using h)
    have e : pks (q :: l) = .int .i64 q.id :: .int .i64 q.flow :: .int .i64 q.size :: pks l := rfl
    have e2 : pks (q :: l.set i p) = .int .i64 q.id :: .int .i64 q.flow :: .int .i64 q.size :: pks (l.set i p) := rfl
    rw [List.set_cons_succ, e, e2, show (i + 1) * 3 = i * 3 + 1 + 1 + 1 by omega, ← this]
    simp [List.set]
/-- A line: what was lost, its room, its ring, the first place, how many. -/
structure Ln where
  lp : Int
  lb : Int
  room : Int
  ring : List Pk
  first : Nat
  many : Nat
deriving DecidableEq
/-- The packet n places behind the first one. -/
def Ln.pk (X : Ln) (n : Nat) : Pk := X.ring.getD ((X.first + n) % X.ring.length) pk0
/-- All of them, in order. -/
def Ln.all (X : Ln) : List Pk := (List.range X.many).map X.pk
theorem Ln.all_length (X : Ln) : X.all.length = X.many := by simp [Ln.all]
structure Ln.Ok (X : Ln) : Prop where
  len : 1 ≤ X.ring.length
  many : X.many ≤ X.ring.length
  first : X.first < X.ring.length
/-- The bytes of packets. -/
def bytesOf (l : List Pk) : Int := (l.map Pk.size).sum
theorem bytesOf_app (a b : List Pk) : bytesOf (a ++ b) = bytesOf a + bytesOf b := by simp [bytesOf]
end Go.Proofs.Ytfiiikgjgcnjgaa
