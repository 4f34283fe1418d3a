/- Chapter 02: the document's Breaks. -/
import Derived.Test.YtedgnmpdmjcadaaSpE
set_option linter.unusedVariables false
set_option linter.unusedSimpArgs false
namespace Go.Proofs.Ytedgnmpdmjcadaa
open Go.RowKit

theorem Rd.sub {S : Nat → Prop} {w : World} {A : Option Addr} {vs us : List Value} (h : Rd S w A vs) (hp : us <+: vs) : Rd S w A us := by
  rcases h with h | ⟨b, off, e, hs, h⟩
  · subst h
    exact .inl (List.prefix_nil.1 hp)
  · refine .inr ⟨b, off, e, hs, fun i hi => ?_⟩
    rw [h i (Nat.lt_of_lt_of_le hi hp.length_le), hp.getElem hi]
theorem sends_append (a b : List (Int × Int)) : sends (a ++ b) = sends a ++ sends b := by simp [sends]
theorem sends_take (l : List (Int × Int)) (m : Nat) : sends (l.take m) <+: sends l := by
  refine ⟨sends (l.drop m), ?_⟩
  rw [← sends_append, List.take_append_drop]
theorem at_take (l : List (Int × Int)) (m i : Nat) (h : i < m) : at_ (l.take m) i = at_ l i := by
  simp [at_, List.getElem?_take, h]
theorem sz_take (l : List (Int × Int)) (m i : Nat) (h : i < m) : sz_ (l.take m) i = sz_ l i := by
  simp [sz_, List.getElem?_take, h]
theorem sumF_take (l : List (Int × Int)) (m k n : Nat) (h : n ≤ m) : sumF (l.take m) k n = sumF l k n := by
  simp [sumF, List.take_take, Nat.min_eq_left h]
theorem good_take (s : Sp) (l : List (Int × Int)) (m i : Nat) (h : i < m) : Good s (l.take m) i ↔ Good s l i := by
  rw [good_iff, good_iff, at_take l m i h, sz_take l m i h]
  have e1 : ∀ k, k < i + 1 → (sumF (l.take m) k (i + 1) ≤ alw s (at_ l i - at_ (l.take m) k) ↔ sumF l k (i + 1) ≤ alw s (at_ l i - at_ l k)) := fun k hk => by
    rw [at_take l m k (by omega), sumF_take l m k (i + 1) (by omega)]
  have e2 : 0 < i → at_ (l.take m) (i - 1) = at_ l (i - 1) := fun h0 => at_take l m (i - 1) (by omega)
  constructor
  · rintro ⟨a, b, c, d⟩
    exact ⟨a, b, fun h0 => by rw [← e2 h0]; exact c h0, fun k hk => (e1 k hk).1 (d k hk)⟩
  · rintro ⟨a, b, c, d⟩
    exact ⟨a, b, fun h0 => by rw [e2 h0]; exact c h0, fun k hk => (e1 k hk).2 (d k hk)⟩
theorem keeps_take (s : Sp) (l : List (Int × Int)) (n : Nat) (hn : n < l.length) (hg : ∀ i, i < n → Good s l i) : Keeps s (l.take (n + 1)) ↔ Good s l n := by
  have hlen : (l.take (n + 1)).length = n + 1 := by simp; omega
  constructor
  · intro h
    exact (good_take s l (n + 1) n (by omega)).1 (h n (by omega))
  · intro h i hi
    rw [hlen] at hi
    rw [good_take s l (n + 1) i hi]
    by_cases e : i = n
    · subst e; exact h
    · exact hg i (by omega)

attribute [local irreducible] at_ sz_ sumF alw

set_option maxHeartbeats 1000000 in
theorem rbreaks_calls (s : Sp) (A : Option Addr) (c : Nat) (l : List (Int × Int)) (w : World) (hR : Rd (fun _ => False) w A (sends l)) (hl : l.length ≤ 140737488351232) (hc : l.length ≤ c) (hcm : c ≤ maxLen) (hr : s.Right) :
    Calls Try.prog 16 #[spv s, .slice A l.length c] w fun e w' => e = .returned (.int .i64 (brk s l)) ∧ Fr0 w w' := by
  have HR := Lib.hid hR
  clear hR
  have HB := Lib.hid (heap_alloc_new w (.cells (spc s) 23))
  have HF1 := Lib.hid ((Fr.refl (fun _ => False) w).alloc (.cells (spc s) 23))
  go_enter Try.func16, Try.ntmps16
  go_wp2_with fail
  generalize w.alloc (.cells #[.int .i64 s.peak, .int .i64 s.rate, .int .i64 s.burst, .int .i64 s.most, .int .i64 s.least] 23) = w1 at *
  go_loopw [5] (fun cnt wr => ∃ n : Nat, n ≤ l.length ∧ cnt = .int .i64 (n : Int) ∧ Hid (∀ j, j < n → Good s l j) ∧ Hid (Fr0 w1 wr)) (fun cnt _ => l.length - (intOf cnt).toNat)
  case atStart => exact ⟨0, by omega, rfl, fun j h => absurd h (by omega), Fr.refl _ _⟩
  case round =>
    obtain ⟨n, hn, rfl, HG, HF⟩ := hrel
    have hsp := sp_cells (HF.out.blk HB.out (fun h => h))
    by_cases hlt : n < l.length
    · have hd : decide ((n : Int) < (l.length : Int)) = true := decide_eq_true (by omega)
      have hw1 : IntKind.i64.wrap ((n : Int) + 1) = (n : Int) + 1 := by rw [IntKind.wrap_i64]; omega
      have hi1 : (0 : Int) ≤ (n : Int) + 1 := by omega
      have hi2 : (n : Int) + 1 ≤ (c : Int) := by omega
      have hRW := HR.out.kept (HF1.out.trans HF.out)
      have htl : (l.take (n + 1)).length = n + 1 := by simp; omega
      have HKS : Hid (∀ U, Fr0 wr U → Calls Try.prog 15 #[spv s, .slice A (n + 1) c] U fun e w' => e = .returned (.bool (decide (Keeps s (l.take (n + 1))))) ∧ Fr0 U w') := Lib.hid fun U hU => by
        have := rkeeps_calls s A c (l.take (n + 1)) U ((hRW.kept hU).sub (sends_take l (n + 1))) (by rw [htl]; omega) hr
        rwa [htl] at this
      have HKT := Lib.hid (keeps_take s l n hlt HG.out)
      have HK : ∀ U, Fr0 wr U → ((U.cell? ⟨w.heap.size, 0, none⟩ = some (.int .i64 s.peak) ∧ U.cell? ⟨w.heap.size, 1, none⟩ = some (.int .i64 s.rate) ∧ U.cell? ⟨w.heap.size, 2, none⟩ = some (.int .i64 s.burst) ∧ U.cell? ⟨w.heap.size, 3, none⟩ = some (.int .i64 s.most) ∧ U.cell? ⟨w.heap.size, 4, none⟩ = some (.int .i64 s.least)) ∧ Fr0 wr U) := fun U h =>
        ⟨⟨h.cell hsp.1 (fun h => h), h.cell hsp.2.1 (fun h => h), h.cell hsp.2.2.1 (fun h => h), h.cell hsp.2.2.2.1 (fun h => h), h.cell hsp.2.2.2.2 (fun h => h)⟩, h⟩
      clear hRW
      by_cases hg : Good s l n
      · have hkt := decide_eq_true (HKT.out.2 hg)
        have HGN := Lib.hid hg
        rw [hkt] at HKS
        clear hkt hg htl
        go_wp2_with fail
        go_region_held3 (fun U => (U.cell? ⟨w.heap.size, 0, none⟩ = some (.int .i64 s.peak) ∧ U.cell? ⟨w.heap.size, 1, none⟩ = some (.int .i64 s.rate) ∧ U.cell? ⟨w.heap.size, 2, none⟩ = some (.int .i64 s.burst) ∧ U.cell? ⟨w.heap.size, 3, none⟩ = some (.int .i64 s.most) ∧ U.cell? ⟨w.heap.size, 4, none⟩ = some (.int .i64 s.least)) ∧ Fr0 wr U) (exact HK _ (by repeat (first | assumption | exact Fr.refl _ _ | exact And.right (by assumption) | refine Fr.drew ?_ | refine Fr.trans ?_ (by assumption))))
          (first
            | (go_at_call 15; refine (HKS.out _ (And.right (by assumption))).mono ?_; rintro e wA ⟨rfl, hfA⟩))
        all_goals
          have HFA := Lib.hid ((Fr.refl (fun _ => False) wr).drew.trans hfA)
          clear hfA HK hsp
          go_wp2_with fail
          go_roundw
          case rel =>
            refine ⟨n + 1, by omega, by go_num, fun j hj => ?_, HF.out.trans HFA.out⟩
            by_cases e : j = n
            · subst e; exact HGN.out
            · exact HG.out j (by omega)
          case measure => simp [intOf]; omega
      · have hkt := decide_eq_false (mt HKT.out.1 hg)
        have HBK := Lib.hid (Brk.eq (s := s) (l := l) (n := n) ⟨hn, HG.out, fun _ => hg⟩)
        rw [hkt] at HKS
        clear hkt hg htl
        go_wp2_with fail
        go_region_held3 (fun U => (U.cell? ⟨w.heap.size, 0, none⟩ = some (.int .i64 s.peak) ∧ U.cell? ⟨w.heap.size, 1, none⟩ = some (.int .i64 s.rate) ∧ U.cell? ⟨w.heap.size, 2, none⟩ = some (.int .i64 s.burst) ∧ U.cell? ⟨w.heap.size, 3, none⟩ = some (.int .i64 s.most) ∧ U.cell? ⟨w.heap.size, 4, none⟩ = some (.int .i64 s.least)) ∧ Fr0 wr U) (exact HK _ (by repeat (first | assumption | exact Fr.refl _ _ | exact And.right (by assumption) | refine Fr.drew ?_ | refine Fr.trans ?_ (by assumption))))
          (first
            | (go_at_call 15; refine (HKS.out _ (And.right (by assumption))).mono ?_; rintro e wA ⟨rfl, hfA⟩))
        all_goals
          have HFA := Lib.hid ((Fr.refl (fun _ => False) wr).drew.trans hfA)
          clear hfA HK hsp
          go_wp2_with fail
          go_ret
          rw [HBK.out]
          exact ⟨rfl, HF1.out.trans (HF.out.trans HFA.out)⟩
    · have hd : decide ((n : Int) < (l.length : Int)) = false := decide_eq_false (by omega)
      have hd2 : decide (n < l.length) = false := decide_eq_false hlt
      have HBK := Lib.hid (Brk.eq (s := s) (l := l) (n := n) ⟨hn, HG.out, fun h => absurd h hlt⟩)
      go_wp2_with fail
      go_quiet (fail)
      go_wp2_with fail
      go_ret
      rw [HBK.out]
      exact ⟨rfl, HF1.out.trans (HF.out.drewN nq)⟩
end Go.Proofs.Ytedgnmpdmjcadaa
