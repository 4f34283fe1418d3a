/- Chapter 02: the document's Within, Joint and Sum, out of their printed forms. -/
import Derived.Test.YtedgnmpdmjcadaaSpV
import Derived.Test.YtedgnmpdmjcadaaKd
import Derived.Test.YtedgnmpdmjcadaaQRefx
set_option linter.unusedVariables false
set_option linter.unusedSimpArgs false
namespace Go.Proofs.Ytedgnmpdmjcadaa
open Go.RowKit Go.Proofs.YtedgnmpdmjcadaaW.PrintWords QRef

def ofSp (s : Sp) : S23 := ⟨s.peak, s.rate, s.burst, s.most, s.least⟩
theorem more_f (a b : Int) : postroadref02_more.f a b = some (max a b) := by
  unfold postroadref02_more.f
  split <;> congr 1 <;> omega
theorem fewer_f (a b : Int) : postroadref02_fewer.f a b = some (min a b) := by
  unfold postroadref02_fewer.f
  split <;> congr 1 <;> omega
theorem rd_ofSp (l : List Sp) (i : Nat) (hi : i < l.length) : rd_T23 (l.map ofSp) (i : Int) = ofSp l[i] := by
  unfold rd_T23
  rw [Int.toNat_natCast, List.getD_eq_getElem?_getD, List.getElem?_map, List.getElem?_eq_getElem hi]
  rfl
theorem kd_sps {w : World} {S : Nat → Prop} {A : Option Addr} {l : List Sp} (hn : l.length ≤ 9223372036854775807) (h : Rd S w A (sps l)) : Kd.C k23 w A (l.map ofSp).length (l.map ofSp) := by
  refine kd_of_rd (S := S) (fun x : S23 => [.int .i64 x.f0, .int .i64 x.f1, .int .i64 x.f2, .int .i64 x.f3, .int .i64 x.f4]) (fun x => k23_mk w x) (fun x => rfl) (by decide) (by simpa using hn) ?_
  rw [List.flatMap_map]
  exact h
/-- A spec as a tuple. -/
def tup (s : Sp) : Int × Int × Int × Int × Int := (s.peak, s.rate, s.burst, s.most, s.least)

theorem rjoint_l (l : List Sp) (hl : l.length ≤ 1000000) : ∀ (d i k : Nat) (a : Sp), i + d = l.length → d < k → postroadref02_Joint.l0 k (l.map ofSp) (i : Int) a.peak a.rate a.burst a.most a.least = some (tup ((l.drop i).foldl joinS a)) := by
  intro d
  induction d with
  | zero =>
    intro i k a h1 h2
    obtain ⟨k, rfl⟩ : ∃ m, k = m + 1 := ⟨k - 1, by omega⟩
    simp only [postroadref02_Joint.l0]
    rw [if_neg (by simp; omega), List.drop_eq_nil_of_le (by omega)]
    rfl
  | succ d ih =>
    intro i k a h1 h2
    obtain ⟨k, rfl⟩ : ∃ m, k = m + 1 := ⟨k - 1, by omega⟩
    have hi : i < l.length := by omega
    simp only [postroadref02_Joint.l0]
    rw [if_pos (by simp; omega), if_pos (by omega), rd_ofSp l i hi]
    simp only [ofSp, more_f, fewer_f, Option.bind_some]
    have hw : wrap64 ((i : Int) + 1) = ((i + 1 : Nat) : Int) := by unfold wrap64; omega
    rw [hw, List.drop_eq_getElem_cons hi, List.foldl_cons]
    exact ih (i + 1) k (joinS a l[i]) (by omega) (by omega)
theorem rjoint_calls (A : Option Addr) (c : Nat) (l : List Sp) (w : World) (hR : Rd (fun _ => False) w A (sps l)) (hl : l.length ≤ 1000000) (h0 : l ≠ []) (hc : l.length ≤ c) :
    Calls Try.prog 26 #[.slice A l.length c] w fun e w' => e = .returned (spv (jn l)) ∧ Fr0 w w' := by
  cases l with
  | nil => exact absurd rfl h0
  | cons s l =>
    have hd := rd_ofSp (s :: l) 0 (by simp)
    have hf : postroadref02_Joint.f (l.length + 2) ((s :: l).map ofSp) = some (tup (jn (s :: l))) := by
      unfold postroadref02_Joint.f
      rw [if_pos (by simp <;> omega)]
      rw [show (0 : Int) = ((0 : Nat) : Int) from rfl, hd]
      exact rjoint_l (s :: l) hl l.length 1 (l.length + 2) s (by simp; omega) (by omega)
    have := postroadref02_Joint.calls (l.length + 2) A c ((s :: l).map ofSp) _ _ _ _ _ w (kd_sps (by omega) hR) (by simpa using hc) hf
    rw [List.length_map] at this
    exact this.mono fun e w' ⟨he, hb⟩ => ⟨he, Fr0.of_below hb⟩

theorem plus_small {k : Nat} {a : Sp} (h : Small k a) (hk : k ≤ 1000000) {b : Sp} (hb : b.Right) : wrap64 (a.peak + b.peak) = a.peak + b.peak ∧ wrap64 (a.rate + b.rate) = a.rate + b.rate ∧ wrap64 (a.burst + b.burst) = a.burst + b.burst := by
  obtain ⟨⟨a1, a2⟩, ⟨a3, a4⟩, a5, a6⟩ := h
  obtain ⟨q1, q2, q3, q4, q5, q6, q7, q8⟩ := hb
  unfold wrap64
  omega
theorem rright_f (s : Sp) : postroadref02_Right.f s.peak s.rate s.burst s.most s.least = some (decide s.Right) := by
  have hr := s.right_iff
  unfold postroadref02_Right.f
  repeat' split
  all_goals
    congr 1
    first
      | exact decide_eq_decide.2 (by rw [hr]; omega)
      | exact (decide_eq_false (by rw [hr]; omega)).symm
def smT (s : Sp) : Int × Int × Int × Int × Int × Bool := if s.Right then (s.peak, s.rate, s.burst, s.most, s.least, true) else (0, 0, 0, 0, 0, false)
theorem rsum_l (l : List Sp) (hl : l.length ≤ 1000000) (ha : AllR l) : ∀ (d i k : Nat) (a : Sp), i + d = l.length → d < k → Small i a → postroadref02_Sum.l0 k (l.map ofSp) (i : Int) a.peak a.rate a.burst a.most a.least = some (smT ((l.drop i).foldl plusS a)) := by
  intro d
  induction d with
  | zero =>
    intro i k a h1 h2 hs
    obtain ⟨k, rfl⟩ : ∃ m, k = m + 1 := ⟨k - 1, by omega⟩
    simp only [postroadref02_Sum.l0]
    rw [if_neg (by simp; omega), List.drop_eq_nil_of_le (by omega), rright_f]
    simp only [Option.bind_some, List.foldl_nil, smT, decide_eq_true_eq]
    split <;> simp [*]
  | succ d ih =>
    intro i k a h1 h2 hs
    obtain ⟨k, rfl⟩ : ∃ m, k = m + 1 := ⟨k - 1, by omega⟩
    have hi : i < l.length := by omega
    have hri := ha l[i] (List.getElem_mem hi)
    obtain ⟨w1, w2, w3⟩ := plus_small hs (by omega) hri
    simp only [postroadref02_Sum.l0]
    rw [if_pos (by simp; omega), if_pos (by omega), rd_ofSp l i hi]
    simp only [ofSp, more_f, fewer_f, Option.bind_some]
    have hw : wrap64 ((i : Int) + 1) = ((i + 1 : Nat) : Int) := by unfold wrap64; omega
    rw [hw, w1, w2, w3, List.drop_eq_getElem_cons hi, List.foldl_cons]
    exact ih (i + 1) k (plusS a l[i]) (by omega) (by omega) (small_plus hs hri)
theorem rsum_calls (A : Option Addr) (c : Nat) (l : List Sp) (w : World) (hR : Rd (fun _ => False) w A (sps l)) (hl : l.length ≤ 1000000) (h0 : l ≠ []) (ha : AllR l) (hc : l.length ≤ c) :
    Calls Try.prog 25 #[.slice A l.length c] w fun e w' => e = .returned (if (sm l).Right then .tuple #[spv (sm l), .bool true] else .tuple #[spv noS, .bool false]) ∧ Fr0 w w' := by
  cases l with
  | nil => exact absurd rfl h0
  | cons s l =>
    have hd := rd_ofSp (s :: l) 0 (by simp)
    have hf : postroadref02_Sum.f (l.length + 2) ((s :: l).map ofSp) = some (smT (sm (s :: l))) := by
      unfold postroadref02_Sum.f
      rw [if_pos (by simp <;> omega)]
      rw [show (0 : Int) = ((0 : Nat) : Int) from rfl, hd]
      exact rsum_l (s :: l) hl ha l.length 1 (l.length + 2) s (by simp; omega) (by omega) (small_one (ha s (by simp)))
    unfold smT at hf
    split at hf
    · rename_i hr
      rw [if_pos hr]
      have := postroadref02_Sum.calls (l.length + 2) A c ((s :: l).map ofSp) _ _ _ _ _ _ w (kd_sps (by omega) hR) (by simpa using hc) hf
      rw [List.length_map] at this
      exact this.mono fun e w' ⟨he, hb⟩ => ⟨he, Fr0.of_below hb⟩
    · rename_i hr
      rw [if_neg hr]
      have := postroadref02_Sum.calls (l.length + 2) A c ((s :: l).map ofSp) _ _ _ _ _ _ w (kd_sps (by omega) hR) (by simpa using hc) hf
      rw [List.length_map] at this
      exact this.mono fun e w' ⟨he, hb⟩ => ⟨he, Fr0.of_below hb⟩
theorem rwithin_calls (a b : Sp) (w : World) : Calls Try.prog 24 #[spv a, spv b] w fun e w' => e = .returned (.bool (decide (Inn a b))) ∧ Fr0 w w' := by
  have hf : postroadref02_Within.f a.peak a.rate a.burst a.most a.least b.peak b.rate b.burst b.most b.least = some (decide (Inn a b)) := by
    have hr := Inn.iff a b
    unfold postroadref02_Within.f
    repeat' split
    all_goals
      congr 1
      first
        | exact decide_eq_decide.2 (by rw [hr]; omega)
        | exact (decide_eq_false (by rw [hr]; omega)).symm
  exact (postroadref02_Within.calls _ _ _ _ _ _ _ _ _ _ _ w hf).mono fun e w' ⟨he, hb⟩ => ⟨he, Fr0.of_below hb⟩
end Go.Proofs.Ytedgnmpdmjcadaa
