/- The iterator of package check: each goes over the bytes of parts. -/
import Derived.Test.YtkggkbcnlpjbjaaSumA
set_option linter.unusedVariables false
set_option linter.unusedSimpArgs false
namespace Go.Proofs.Ytkggkbcnlpjbjaa
open Go.RowKit Go.Shelf
attribute [local go_sem] Oper.semAt_some

theorem flatten_at (parts : List (List UInt8)) (k : Nat) (h : k < parts.length) :
    parts.flatten = (parts.take k).flatten ++ (parts[k] ++ (parts.drop (k + 1)).flatten) ∧ (parts.take (k + 1)).flatten = (parts.take k).flatten ++ parts[k] := by
  refine ⟨?_, ?_⟩
  · have e := List.take_append_drop k parts
    rw [List.drop_eq_getElem_cons h] at e
    have e2 := congrArg List.flatten e
    rw [List.flatten_append, List.flatten_cons] at e2
    exact e2.symm
  · rw [List.take_succ_eq_append_getElem h, List.flatten_append]
    simp only [List.flatten_cons, List.flatten_nil, List.append_nil]

set_option maxHeartbeats 1000000 in
theorem each1_in (F : Fence) (n : Nat) (hF : F.fn 32) (hro : F.round = none) (hn : 1 ≤ n) (l Bp : Nat) (S : Nat → Prop) (v : Value) (parts : List (List UInt8)) (J Jx : List UInt8 → World → Prop)
    (hY : ∀ pre x W, J pre W → pre.length < parts.flatten.length → YieldAt F (n - 1) Try.prog l #[.int .u8 (x.toNat : Int)] W fun e W' =>
      (e = .returned (.bool true) ∧ J (pre ++ [x]) W' ∧ Ck S W W') ∨ (e = .returned (.bool false) ∧ Jx (pre ++ [x]) W'))
    (hm : parts.length ≤ maxLen) (hm2 : ∀ p ∈ parts, p.length ≤ maxLen)
    (W : World) (hBp : W.cell? ⟨Bp, 0, none⟩ = some v) (hS : ¬ S Bp) (hR : RdBB S W v parts) (h0 : J [] W) :
    CallsIn F n Try.prog 32 #[.func (.yield l) #[] #[], .pointer (some ⟨Bp, 0, none⟩)] W fun e W' => (∃ v, e = .returned v) ∧
      ((∃ ys, ys = parts.flatten ∧ J ys W') ∨ (∃ pre, pre <+: parts.flatten ∧ Jx pre W')) := by
  obtain ⟨A, c, vs, rfl, hvl, hA, hrows⟩ := hR
  unfold maxLen at hm hm2
  have H0 := Lib.hid hvl; clear hvl
  refine callsIn_of_wp Try.func32 rfl hF ?_ hro
  simp only [Try.ntmps32, List.size_toArray, List.length_cons, List.length_nil, Nat.reduceAdd, Nat.reduceSub, Array.replicate_succ, Array.replicate_zero, List.push_toArray, List.append_toArray, List.nil_append, List.cons_append]
  gi_wp2
  gi_loopw [9] (fun i wr => ∃ k : Nat, k ≤ parts.length ∧ i = .int .i64 k ∧ J (parts.take k).flatten wr ∧ Ck S W wr)
    (fun i wr => parts.length - (intOf i).toNat)
  case atStart => exact ⟨0, Nat.zero_le _, rfl, by simpa using h0, Ck.refl _ _⟩
  case round =>
    obtain ⟨k, hk, rfl, hJ, hck⟩ := hrel
    by_cases hlt : k < parts.length
    · have hvl := H0.out
      have hA' := hA.ck hck
      obtain ⟨b, off, rfl⟩ := hA'.some_ (by omega)
      have hc := hA'.at_ k (by omega)
      obtain ⟨A1, c1, e1, hA1⟩ := (hrows k (by omega) hlt).ck hck
      rw [e1] at hc
      obtain ⟨hf1, hf2⟩ := flatten_at parts k hlt
      have hm3 := hm2 _ (List.getElem_mem hlt)
      generalize parts[k] = row at *
      generalize (parts.take k).flatten = pre at *
      have H1 := Lib.hid hf1; have H2 := Lib.hid hf2
      clear e1 hvl hf1 hf2 hm2 hrows
      obtain ⟨wo, rfl⟩ : ∃ wo : World, wo = wr := ⟨_, rfl⟩
      gi_wp2
      gi_loopw [15] (fun i wr => ∃ j : Nat, j ≤ row.length ∧ i = .int .i64 j ∧ J (pre ++ row.take j) wr ∧ Ck S wo wr) (fun i wr => row.length - (intOf i).toNat)
      case atStart => exact ⟨0, Nat.zero_le _, rfl, by simpa using hJ, Ck.refl _ _⟩
      case round =>
        obtain ⟨j, hj, rfl, hJ2, hck2⟩ := hrel
        by_cases hlt2 : j < row.length
        · have hA2 := hA1.ck hck2
          obtain ⟨b1, off1, rfl⟩ := hA2.some_ (by rw [u8s_length]; omega)
          have hc2 := hA2.at_ j (by rw [u8s_length]; omega)
          have e2 : (u8s row)[j]'(by rw [u8s_length]; omega) = .int .u8 (row[j].toNat : Int) := by simp [u8s]
          rw [e2] at hc2
          have hsn : row.take (j + 1) = row.take j ++ [row[j]] := List.take_succ_eq_append_getElem hlt2
          have H3 := Lib.hid hsn
          obtain ⟨fn, tmps, assign, body, hy, hR⟩ := hY (pre ++ row.take j) row[j] wr hJ2 (by rw [H1.out]; simp; omega)
          generalize row[j] = x at *
          clear e2 hsn
          gi_wp2
          refine hR.mono ?_
          rintro e W3 (⟨rfl, hJ3, hk3⟩ | ⟨rfl, hJx3⟩)
          · gi_wp2
            go_roundw
            case rel => exact ⟨j + 1, by omega, by go_num, by rw [H3.out, ← List.append_assoc]; exact hJ3, hck2.trans hk3⟩
            case measure => simp [intOf]; omega
          · gi_wp2
            refine bodyPost_ret (results_none rfl _ _ _) rfl ?_
            refine ⟨⟨_, rfl⟩, .inr ⟨_, ?_, hJx3⟩⟩
            rw [H1.out, List.append_assoc, ← H3.out]
            exact (List.prefix_append_right_inj _).2 ((List.take_prefix _ _).trans (List.prefix_append _ _))
        · have hj2 : j = row.length := by omega
          subst hj2
          gi_wp2
          go_roundw
          case rel => exact ⟨k + 1, by omega, by go_num, by rw [H2.out]; simpa using hJ2, hck.trans hck2⟩
          case measure => simp [intOf]; omega
    · have hk2 : k = parts.length := by omega
      subst hk2
      gi_wp2
      go_end0
      exact ⟨⟨_, rfl⟩, .inl ⟨_, rfl, by simpa using hJ⟩⟩

/-- The iterator's word, for whoever ranges over it. -/
theorem each1_stops (F : Fence) (n : Nat) (hF : F.fn 32) (hro : F.round = none) (hn : 1 ≤ n) (Bp : Nat) (S : Nat → Prop) (v : Value) (parts : List (List UInt8))
    (hm : parts.length ≤ maxLen) (hm2 : ∀ p ∈ parts, p.length ≤ maxLen)
    (w : World) (hBp : w.cell? ⟨Bp, 0, none⟩ = some v) (hS : ¬ S Bp) (hR : RdBB S w v parts) :
    SeqStopsK F n Try.prog 32 #[.pointer (some ⟨Bp, 0, none⟩)] (fun x : UInt8 => #[.int .u8 (x.toNat : Int)]) (Ck S) (fun xs => xs = parts.flatten) (fun pre => pre <+: parts.flatten) parts.flatten.length w := by
  intro l J Jx W hW hJ hJx hY h0
  refine each1_in F n hF hro hn l Bp S v parts J Jx hY hm hm2 W ?_ hS (hR.ck ?_) h0
  · exact (hW.cell (World.block_lt_of_cell? _ _ hBp)).trans hBp
  · exact Ck.of_fr (Fr0.of_below hW).any

end Go.Proofs.Ytkggkbcnlpjbjaa
