/- Chapter 02: the document's Keeps and Breaks. -/
import Derived.Test.YtmnadploikcljaaSpD
set_option linter.unusedVariables false
set_option linter.unusedSimpArgs false
namespace Go.Proofs.Ytmnadploikcljaa
open Go.RowKit

theorem sumF_snoc (l : List (Int × Int)) (k n : Nat) (h : k ≤ n) (hn : n < l.length) : sumF l k (n + 1) = sumF l k n + sz_ l n := by
  rw [sz_eq l n hn]
  simp only [sumF]
  rw [List.take_succ_eq_append_getElem hn, List.drop_append_of_le_length (by simp; omega)]
  simp
/-- The plain conditions on sending i. -/
structure Fits (s : Sp) (l : List (Int × Int)) (i : Nat) : Prop where
  tick : 0 ≤ at_ l i ∧ at_ l i ≤ 2147483647
  size : s.least ≤ sz_ l i ∧ sz_ l i ≤ s.most
  order : 0 < i → at_ l (i - 1) ≤ at_ l i
theorem Good.fits {s : Sp} {l : List (Int × Int)} {i : Nat} (h : Good s l i) : Fits s l i := ⟨h.tick, h.size, h.order⟩
theorem fits_mono {s : Sp} {l : List (Int × Int)} {n : Nat} (h : ∀ j, j < n → Fits s l j) : ∀ i k, i ≤ k → k < n → at_ l i ≤ at_ l k := by
  have key : ∀ d i, i + d < n → at_ l i ≤ at_ l (i + d) := by
    intro d
    induction d with
    | zero => intro i _; exact Int.le_refl _
    | succ d ih =>
      intro i hi
      have h1 := ih i (by omega)
      have h2 := (h (i + (d + 1)) hi).order (by omega)
      rw [show i + (d + 1) - 1 = i + d by omega] at h2
      omega
  intro i k h1 h2
  have := key (k - i) i (by omega)
  rwa [show i + (k - i) = k by omega] at this
theorem keeps_of (s : Sp) (l : List (Int × Int)) (h1 : ∀ i, i < l.length → Fits s l i) (h2 : ∀ i k, i ≤ k → k < l.length → sumF l i (k + 1) ≤ alw s (at_ l k - at_ l i)) : Keeps s l :=
  fun i hi => ⟨(h1 i hi).tick, (h1 i hi).size, (h1 i hi).order, fun k hk => h2 k i hk hi⟩

attribute [local irreducible] at_ sz_ sumF alw

set_option maxHeartbeats 1000000 in
theorem rkeeps_calls (s : Sp) (A : Option Addr) (c : Nat) (l : List (Int × Int)) (w : World) (hR : Rd (fun _ => False) w A (sends l)) (hl : l.length ≤ 140737488351232) (hr : s.Right) :
    Calls Try.prog 13 #[spv s, .slice A l.length c] w fun e w' => e = .returned (.bool (decide (Keeps s l))) ∧ Fr0 w w' := by
  have HR := Lib.hid hR
  clear hR
  have HB := Lib.hid (heap_alloc_new w (.cells (spc s) 23))
  have HF1 := Lib.hid ((Fr.refl (fun _ => False) w).alloc (.cells (spc s) 23))
  have HNO : ∀ i, i < l.length → ¬ Good s l i → decide (Keeps s l) = false := fun i hi h => decide_eq_false (fun hk => h (hk i hi))
  have HNO := Lib.hid HNO
  go_enter Try.func13, Try.ntmps13
  go_wp2_with fail
  generalize w.alloc (.cells #[.int .i64 s.peak, .int .i64 s.rate, .int .i64 s.burst, .int .i64 s.most, .int .i64 s.least] 23) = w1 at *
  go_loopw [5] (fun cnt wr => ∃ i : Nat, i ≤ l.length ∧ cnt = .int .i64 (i : Int) ∧ Hid (∀ j, j < i → Fits s l j) ∧ Hid (Fr0 w1 wr)) (fun cnt _ => l.length - (intOf cnt).toNat)
  case atStart => exact ⟨0, by omega, rfl, fun j h => absurd h (by omega), Fr.refl _ _⟩
  case round =>
    obtain ⟨i, hi, rfl, HG, HF⟩ := hrel
    obtain ⟨b0, b1, b2, b3, b4⟩ := sp_cells (HF.out.blk HB.out (fun h => h))
    by_cases hlt : i < l.length
    · have hR := HR.out.kept (HF1.out.trans HF.out)
      obtain ⟨b, off, rfl⟩ := hR.some_ (by rw [sends_length]; omega)
      obtain ⟨c0, c1⟩ := rdl_cells hR i hlt
      have HRW := Lib.hid hR
      have hi1 : (0 : Int) ≤ (i : Int) := by omega
      have hi2 : (i : Int) < (l.length : Int) := by omega
      clear hR
      go_wp2_with fail
      by_cases g1 : at_ l i < 0
      · have HN := Lib.hid (HNO.out i hlt (fun h => by have := h.tick; omega))
        have d1 : decide (at_ l i < 0) = true := decide_eq_true g1
        go_quiet (fail)
        go_wp2_with fail
        go_ret
        rw [HN.out]
        exact ⟨rfl, HF1.out.trans (HF.out.drewN nq)⟩
      · have d1 : decide (at_ l i < 0) = false := decide_eq_false g1
        by_cases g2 : 2147483647 < at_ l i
        · have HN := Lib.hid (HNO.out i hlt (fun h => by have := h.tick; omega))
          have d2 : decide (2147483647 < at_ l i) = true := decide_eq_true g2
          go_quiet (fail)
          go_wp2_with fail
          go_ret
          rw [HN.out]
          exact ⟨rfl, HF1.out.trans (HF.out.drewN nq)⟩
        · have d2 : decide (2147483647 < at_ l i) = false := decide_eq_false g2
          by_cases g3 : sz_ l i < s.least
          · have HN := Lib.hid (HNO.out i hlt (fun h => by have := h.size; omega))
            have d3 : decide (sz_ l i < s.least) = true := decide_eq_true g3
            go_quiet (fail)
            go_wp2_with fail
            go_ret
            rw [HN.out]
            exact ⟨rfl, HF1.out.trans (HF.out.drewN nq)⟩
          · have d3 : decide (sz_ l i < s.least) = false := decide_eq_false g3
            by_cases g4 : s.most < sz_ l i
            · have HN := Lib.hid (HNO.out i hlt (fun h => by have := h.size; omega))
              have d4 : decide (s.most < sz_ l i) = true := decide_eq_true g4
              go_quiet (fail)
              go_wp2_with fail
              go_ret
              rw [HN.out]
              exact ⟨rfl, HF1.out.trans (HF.out.drewN nq)⟩
            · have d4 : decide (s.most < sz_ l i) = false := decide_eq_false g4
              have fin : ∀ nq, Fits s l i → (∀ j, j < i + 1 → Fits s l j) ∧ Fr0 w1 (wr.drewN nq) := fun nq h => ⟨fun j hj => by
                by_cases h2 : j = i
                · subst h2; exact h
                · exact HG.out j (by omega), HF.out.drewN nq⟩
              have FIN := Lib.hid fin
              clear fin
              rcases Nat.eq_zero_or_pos i with hz | hz
              · have HZ := Lib.hid hz
                have e0 : decide ((0 : Int) < (i : Int)) = false := decide_eq_false (by omega)
                have e1 : decide (0 < i) = false := decide_eq_false (by omega)
                clear hz
                go_quiet (fail)
                go_wp2_with fail
                go_roundw
                case rel => exact ⟨i + 1, by omega, by go_num, (FIN.out nq ⟨by omega, by omega, fun h => by have := HZ.out; omega⟩).1, (FIN.out nq ⟨by omega, by omega, fun h => by have := HZ.out; omega⟩).2⟩
                case measure => simp [intOf]; omega
              · have hp := rdl_cells HRW.out (i - 1) (by omega)
                have hwp : IntKind.i64.wrap ((i : Int) - 1) = ((i - 1 : Nat) : Int) := by rw [IntKind.wrap_i64]; omega
                have hp1 : (0 : Int) ≤ ((i - 1 : Nat) : Int) := by omega
                have hp2 : ((i - 1 : Nat) : Int) < (l.length : Int) := by omega
                have e0 : decide ((0 : Int) < (i : Int)) = true := decide_eq_true (by omega)
                have HFT := Lib.hid (fun (h : at_ l (i - 1) ≤ at_ l i) => (⟨⟨by omega, by omega⟩, ⟨by omega, by omega⟩, fun _ => h⟩ : Fits s l i))
                have HNG := Lib.hid (fun (h : at_ l i < at_ l (i - 1)) => HNO.out i hlt (fun hg => by have := hg.order (by omega); omega))
                obtain ⟨c2, c3⟩ := hp
                generalize i - 1 = p at *
                by_cases g5 : at_ l i < at_ l p
                · have d5 : decide (at_ l i < at_ l p) = true := decide_eq_true g5
                  have HN := Lib.hid (HNG.out g5)
                  go_quiet (fail)
                  go_wp2_with fail
                  go_ret
                  rw [HN.out]
                  exact ⟨rfl, HF1.out.trans (HF.out.drewN nq)⟩
                · have d5 : decide (at_ l i < at_ l p) = false := decide_eq_false g5
                  have HFTI := Lib.hid (HFT.out (by omega))
                  go_quiet (fail)
                  go_wp2_with fail
                  go_roundw
                  case rel => exact ⟨i + 1, by omega, by go_num, (FIN.out nq HFTI.out).1, (FIN.out nq HFTI.out).2⟩
                  case measure => simp [intOf]; omega
    · have hil : i = l.length := by omega
      have HFT : Hid (∀ j, j < l.length → Fits s l j) := Lib.hid (fun j hj => HG.out j (by omega))
      clear HG b0 b1 b2 b3 b4
      go_wp2_with fail
      obtain ⟨wo, rfl⟩ : ∃ wo : World, wo = wr := ⟨_, rfl⟩
      have HFO := Lib.hid HF.out
      go_loopw [6] (fun cnt wr => ∃ n : Nat, n ≤ l.length ∧ cnt = .int .i64 (n : Int) ∧ Hid (∀ a k, a < n → a ≤ k → k < l.length → sumF l a (k + 1) ≤ alw s (at_ l k - at_ l a)) ∧ Hid (Fr0 w1 wr)) (fun cnt _ => l.length - (intOf cnt).toNat)
      case atStart => exact ⟨0, by omega, rfl, fun a k h => absurd h (by omega), HFO.out⟩
      case round =>
        obtain ⟨n, hn, rfl, HS, HFN⟩ := hrel
        by_cases hlt2 : n < l.length
        · go_wp2_with fail
          obtain ⟨wm, rfl⟩ : ∃ wm : World, wm = wr := ⟨_, rfl⟩
          have hHFT := HFT.out
          have HMO := Lib.hid (fits_mono hHFT)
          clear hHFT
          go_loopw [7, 8] (fun bt kk wr => ∃ k : Nat, n ≤ k ∧ k ≤ l.length ∧ kk = .int .i64 (k : Int) ∧ bt = .int .i64 (sumF l n k) ∧ 0 ≤ sumF l n k ∧ sumF l n k ≤ 2147483657000000 ∧ Hid (∀ q, n ≤ q → q < k → sumF l n (q + 1) ≤ alw s (at_ l q - at_ l n)) ∧ Hid (Fr0 w1 wr)) (fun _ kk _ => l.length - (intOf kk).toNat)
          case atStart => exact ⟨n, by omega, by omega, rfl, by rw [sumF_self], by rw [sumF_self]; omega, by rw [sumF_self]; omega, fun q h1 h2 => absurd h1 (by omega), HFN.out⟩
          case round =>
            obtain ⟨k, hnk, hkl, rfl, rfl, hs0, hs1, HA, HFI⟩ := hrel
            by_cases hlt3 : k < l.length
            · have hR := HR.out.kept (HF1.out.trans HFI.out)
              obtain ⟨b, off, rfl⟩ := hR.some_ (by rw [sends_length]; omega)
              obtain ⟨c0, c1⟩ := rdl_cells hR k hlt3
              obtain ⟨c2, c3⟩ := rdl_cells hR n hlt2
              clear hR c3
              have hst : sumF l n (k + 1) = sumF l n k + sz_ l k := sumF_snoc l n k hnk hlt3
              have hfk := HFT.out k hlt3
              have hfn := HFT.out n hlt2
              have hsz := hfk.size
              have hmo := HMO.out n k hnk hlt3
              have htk := hfk.tick
              have htn := hfn.tick
              have hr4 := hr.r4
              have hr6 := hr.r6
              have HST := Lib.hid hst
              clear hst hfk hfn
              go_wp2_with fail
              rw [show sumF l n k + sz_ l k = sumF l n (k + 1) from HST.out.symm]
              have hs2 : 0 ≤ sumF l n (k + 1) ∧ sumF l n (k + 1) ≤ 2147483657000000 + 2000 := by rw [HST.out]; omega
              have hwd : IntKind.i64.wrap (at_ l k - at_ l n) = at_ l k - at_ l n := by rw [IntKind.wrap_i64]; omega
              have hj0 : (0 : Int) ≤ (k : Int) := by omega
              have hj1 : (k : Int) < (l.length : Int) := by omega
              have hj2 : (0 : Int) ≤ (n : Int) := by omega
              have hj3 : (n : Int) < (l.length : Int) := by omega
              have hsp := sp_cells (HFI.out.blk HB.out (fun h => h))
              have HK : ∀ U, Fr0 wr U → ((U.cell? ⟨w.heap.size, 0, none⟩ = some (.int .i64 s.peak) ∧ U.cell? ⟨w.heap.size, 1, none⟩ = some (.int .i64 s.rate) ∧ U.cell? ⟨w.heap.size, 2, none⟩ = some (.int .i64 s.burst) ∧ U.cell? ⟨w.heap.size, 3, none⟩ = some (.int .i64 s.most) ∧ U.cell? ⟨w.heap.size, 4, none⟩ = some (.int .i64 s.least)) ∧
                  U.cell? ⟨b, off + n * 2, none⟩ = some (.int .i64 (at_ l n)) ∧ U.cell? ⟨b, off + k * 2, none⟩ = some (.int .i64 (at_ l k)) ∧ Fr0 wr U) := fun U h =>
                ⟨⟨h.cell hsp.1 (fun h => h), h.cell hsp.2.1 (fun h => h), h.cell hsp.2.2.1 (fun h => h), h.cell hsp.2.2.2.1 (fun h => h), h.cell hsp.2.2.2.2 (fun h => h)⟩, h.cell c2 (fun h => h), h.cell c0 (fun h => h), h⟩
              have HAL := Lib.hid (fun w => rallows_calls s (at_ l k - at_ l n) w hr (by omega) (by omega))
              have hra := alw_range hr (t := at_ l k - at_ l n) (by omega) (by omega)
              go_region_held3 (fun U => (U.cell? ⟨w.heap.size, 0, none⟩ = some (.int .i64 s.peak) ∧ U.cell? ⟨w.heap.size, 1, none⟩ = some (.int .i64 s.rate) ∧ U.cell? ⟨w.heap.size, 2, none⟩ = some (.int .i64 s.burst) ∧ U.cell? ⟨w.heap.size, 3, none⟩ = some (.int .i64 s.most) ∧ U.cell? ⟨w.heap.size, 4, none⟩ = some (.int .i64 s.least)) ∧
                  U.cell? ⟨b, off + n * 2, none⟩ = some (.int .i64 (at_ l n)) ∧ U.cell? ⟨b, off + k * 2, none⟩ = some (.int .i64 (at_ l k)) ∧ Fr0 wr U) (exact HK _ (by repeat (first | assumption | exact Fr.refl _ _ | exact And.right (And.right (And.right (by assumption))) | refine Fr.drew ?_ | refine Fr.trans ?_ (by assumption))))
                (first
                  | (go_at_call 32; refine (HAL.out _).mono ?_; rintro e wA ⟨rfl, hfA⟩))
              all_goals
                have HFA := Lib.hid ((Fr.refl (fun _ => False) wr).drew.trans hfA)
                clear hfA hsp HK c0 c1 c2
                by_cases hb : alw s (at_ l k - at_ l n) < sumF l n (k + 1)
                · have hN := HNO.out k hlt3 (fun h => by have := h.bytes n hnk; omega)
                  have HN := Lib.hid hN
                  clear hN
                  have hbd : decide (alw s (at_ l k - at_ l n) < sumF l n (k + 1)) = true := decide_eq_true hb
                  go_wp2_with fail
                  go_ret
                  rw [HN.out]
                  exact ⟨rfl, HF1.out.trans (HFI.out.trans HFA.out)⟩
                · go_wp2_with fail
                  go_roundw
                  case rel =>
                    refine ⟨_, _, _, ⟨k + 1, by omega, by omega, rfl, rfl, hs2.1, by omega, fun q h1 h2 => ?_, HFI.out.trans HFA.out⟩, rfl, rfl, by go_num⟩
                    by_cases h : q = k
                    · subst h; omega
                    · exact HA.out q h1 (by omega)
                  case measure => simp [intOf]; omega
            · have HAE := Lib.hid (fun q h1 h2 => HA.out q h1 (show q < k by omega))
              go_wp2_with fail
              refine ⟨⟨n + 1, by omega, by go_num, fun a q h1 h2 h3 => ?_, HFI.out⟩, by simp [intOf]; omega⟩
              by_cases h : a = n
              · subst h; exact HA.out q h2 (by omega)
              · exact HS.out a q (by omega) h2 h3
        · have HKP := Lib.hid (keeps_of s l HFT.out (fun a k h1 h2 => HS.out a k (by omega) h1 h2))
          go_wp2_with fail
          go_ret
          rw [decide_eq_true HKP.out]
          exact ⟨rfl, HF1.out.trans HFN.out⟩
end Go.Proofs.Ytmnadploikcljaa
