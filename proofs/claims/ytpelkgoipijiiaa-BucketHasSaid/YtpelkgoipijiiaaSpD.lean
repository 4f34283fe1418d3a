/- Chapter 02: Breaks, Keeps. -/
import Derived.Test.YtpelkgoipijiiaaSpP
set_option linter.unusedVariables false
set_option linter.unusedSimpArgs false
namespace Go.Proofs.Ytpelkgoipijiiaa
open Go.RowKit

/-- The whole numbers of sendings are int64s. -/
def I64s (l : List (Int × Int)) : Prop := ∀ p ∈ l, (-9223372036854775808 ≤ p.1 ∧ p.1 ≤ 9223372036854775807) ∧ (-9223372036854775808 ≤ p.2 ∧ p.2 ≤ 9223372036854775807)

attribute [local irreducible] at_ sz_ sumF alw

set_option maxHeartbeats 1000000 in
theorem breaks_calls (s : Sp) (A : Option Addr) (c : Nat) (l : List (Int × Int)) (w : World) (hR : Rd (fun _ => False) w A (sends l)) (hl : l.length ≤ 140737488351232) :
    Calls Try.prog 33 #[spv s, .slice A l.length c] w fun e w' => e = .returned (if s.Right then .tuple #[.int .i64 (brk s l), .int .i64 0] else .tuple #[.int .i64 0, .int .i64 2]) ∧ Fr0 w w' := by
  have HR := Lib.hid hR
  clear hR
  have HB := Lib.hid (heap_alloc_new w (.cells (spc s) 23))
  have HC := Lib.hid (check_calls s)
  by_cases hr : s.Right
  · have hc : chk s = 0 := if_pos hr
    rw [hc] at HC
    rw [if_pos hr]
    clear hc
    go_enter Try.func33, Try.ntmps33
    go_wp2_with fail
    go_step3
    go_wp2_with (go_at_call 25; refine (HC.out _).mono ?_; rintro e w1 ⟨rfl, hf1⟩; have HB1 := Lib.hid (hf1.blk HB.out (fun h => h)); have HF1 := Lib.hid (((Fr.refl (fun _ => False) w).alloc _).trans hf1); clear hf1)
    go_step3
    go_wp2_with fail
    clear HC HB
    go_loopw [4, 6, 7, 8, 9, 17] (fun n _ _ _ _ cnt wr => ∃ i : Nat, i ≤ l.length ∧ n = .int .i64 (l.length : Int) ∧ cnt = .int .i64 (i : Int) ∧ Hid (∀ j, j < i → Good s l j) ∧ Hid (Fr0 w1 wr)) (fun _ _ _ _ _ cnt _ => l.length - (intOf cnt).toNat)
    case atStart => exact ⟨0, by omega, rfl, rfl, fun j h => absurd h (by omega), Fr.refl _ _⟩
    case round =>
      obtain ⟨i, hi, rfl, rfl, HG, HF⟩ := hrel
      obtain ⟨b0, b1, b2, b3, b4⟩ := sp_cells (HF.out.blk HB1.out (fun h => h))
      by_cases hlt : i < l.length
      · have hR := HR.out.kept (HF1.out.trans HF.out)
        obtain ⟨b, off, rfl⟩ := hR.some_ (by rw [sends_length]; omega)
        obtain ⟨c0, c1⟩ := rdl_cells hR i hlt
        go_wp2_with fail
        have hX := heap_alloc_new wr (.cells #[.int .i64 (at_ l i), .int .i64 (sz_ l i)] 36)
        have hfw := (Fr.refl (fun _ => False) wr).alloc (.cells #[.int .i64 (at_ l i), .int .i64 (sz_ l i)] 36)
        have HF2 := Lib.hid (HF.out.trans hfw)
        obtain ⟨b0, b1, b2, b3, b4⟩ := sp_cells (HF2.out.blk HB1.out (fun h => h))
        have hR := hR.kept hfw
        generalize hWd : wr.alloc (.cells #[.int .i64 (at_ l i), .int .i64 (sz_ l i)] 36) = W at *
        generalize hx : wr.heap.size = x at *
        have d0 : W.cell? ⟨x, 0, none⟩ = some (.int .i64 (at_ l i)) := cell_of_blk hX 0
        have d1 : W.cell? ⟨x, 1, none⟩ = some (.int .i64 (sz_ l i)) := cell_of_blk hX 1
        have HX := Lib.hid hX
        have HRW := Lib.hid hR
        clear hX hfw hWd hR hx c0 c1
        have HWT := Lib.hid (fun w => within_calls (at_ l i) 0 2147483647 w)
        have HWS := Lib.hid (fun w => within_calls (sz_ l i) s.least s.most w)
        by_cases gT : 0 ≤ at_ l i ∧ at_ l i ≤ 2147483647
        · rw [decide_eq_true gT] at HWT
          by_cases gS : s.least ≤ sz_ l i ∧ sz_ l i ≤ s.most
          · rw [decide_eq_true gS] at HWS
            by_cases gO : 0 < i ∧ at_ l i < at_ l (i - 1)
            · have HBRK := Lib.hid (Brk.eq (s := s) (l := l) (n := i) ⟨hi, HG.out, fun _ h => by have := h.order gO.1; omega⟩)
              have hp := rdl_cells HRW.out (i - 1) (by omega)
              have hwp : IntKind.i64.wrap ((i : Int) - 1) = ((i - 1 : Nat) : Int) := by rw [IntKind.wrap_i64]; omega
              have hp1 : (0 : Int) ≤ ((i - 1 : Nat) : Int) := by omega
              have hp2 : ((i - 1 : Nat) : Int) < (l.length : Int) := by omega
              obtain ⟨gO1, gO2⟩ := gO
              have hi0 : decide ((0 : Int) < (i : Int)) = true := decide_eq_true (by omega)
              obtain ⟨c0, c1⟩ := hp
              generalize i - 1 = p at *
              go_quiet (first
                | (go_at_call_of 39 (Value.int IntKind.i64 (at_ l i)); refine Calls.quiet_of_same ((HWT.out _).mono fun e w' h => ⟨h.1, h.2.symm⟩))
                | (go_at_call_of 39 (Value.int IntKind.i64 (sz_ l i)); refine Calls.quiet_of_same ((HWS.out _).mono fun e w' h => ⟨h.1, h.2.symm⟩)))
              go_wp2_with fail
              rw [Exit.noGoto_ret]
              go_ret2
              rw [HBRK.out]
              exact ⟨rfl, HF1.out.trans (HF2.out.drewN nq)⟩
            · have hord : 0 < i → at_ l (i - 1) ≤ at_ l i := fun h => by omega
              have HM := Lib.hid (at_mono HG.out hord)
              have HORD := Lib.hid hord
              have hcase : Hid (i = 0) ∨ Hid (0 < i) := by
                rcases Nat.eq_zero_or_pos i with h | h
                · exact .inl h
                · exact .inr h
              rcases hcase with hz | hz
              case' inl =>
                have hi0 : decide ((0 : Int) < (i : Int)) = false := decide_eq_false (by have := hz.out; omega)
                have hi1 : decide (0 < i) = false := decide_eq_false (by have := hz.out; omega)
                clear gO hord
                go_quiet (first
                  | (go_at_call_of 39 (Value.int IntKind.i64 (at_ l i)); refine Calls.quiet_of_same ((HWT.out _).mono fun e w' h => ⟨h.1, h.2.symm⟩))
                  | (go_at_call_of 39 (Value.int IntKind.i64 (sz_ l i)); refine Calls.quiet_of_same ((HWS.out _).mono fun e w' h => ⟨h.1, h.2.symm⟩)))
              case' inr =>
                have hz' := hz.out
                have hp := rdl_cells HRW.out (i - 1) (by omega)
                have hwp : IntKind.i64.wrap ((i : Int) - 1) = ((i - 1 : Nat) : Int) := by rw [IntKind.wrap_i64]; omega
                have hp1 : (0 : Int) ≤ ((i - 1 : Nat) : Int) := by omega
                have hp2 : ((i - 1 : Nat) : Int) < (l.length : Int) := by omega
                have hi0 : decide ((0 : Int) < (i : Int)) = true := decide_eq_true (by omega)
                have hoo := hord hz'
                obtain ⟨c0, c1⟩ := hp
                clear gO hord
                generalize i - 1 = p at *
                have hde : decide (at_ l i < at_ l p) = false := decide_eq_false (by omega)
                go_quiet (first
                  | (go_at_call_of 39 (Value.int IntKind.i64 (at_ l i)); refine Calls.quiet_of_same ((HWT.out _).mono fun e w' h => ⟨h.1, h.2.symm⟩))
                  | (go_at_call_of 39 (Value.int IntKind.i64 (sz_ l i)); refine Calls.quiet_of_same ((HWS.out _).mono fun e w' h => ⟨h.1, h.2.symm⟩)))
                clear hde hoo c0 c1 hp1 hp2 hwp hz'
              all_goals
                clear hz HWT HWS d1
                go_wp2_with fail
                have HV := Lib.hid (HF2.out.drewN nq)
                have HBV := Lib.hid (HV.out.blk HB1.out (fun h => h))
                have HXV := Lib.hid (((Fr.refl (fun _ => False) W).drewN nq).blk HX.out (fun h => h))
                have HRV := Lib.hid (HRW.out.kept ((Fr.refl (fun _ => False) W).drewN nq))
                clear b0 b1 b2 b3 b4 d0
                generalize W.drewN nq = V at *
                obtain ⟨wo, rfl⟩ : ∃ wo : World, wo = wr := ⟨_, rfl⟩
                go_loopw [4, 8, 9] (fun n bt kk wr => ∃ k : Nat, ∃ z : Int, n = .int .i64 (l.length : Int) ∧ z + 1 = k ∧ k ≤ i + 1 ∧ kk = .int .i64 z ∧ bt = .int .i64 (sumF l k (i + 1)) ∧ 0 ≤ sumF l k (i + 1) ∧ sumF l k (i + 1) ≤ 2147483657000000 ∧ Hid (∀ j, k ≤ j → j ≤ i → sumF l j (i + 1) ≤ alw s (at_ l i - at_ l j)) ∧ Hid (Fr0 V wr)) (fun _ _ kk _ => (intOf kk + 1).toNat)
                case atStart => exact ⟨i + 1, (i : Int), rfl, by omega, by omega, rfl, by rw [sumF_self], by rw [sumF_self]; omega, by rw [sumF_self]; omega, fun j h1 h2 => absurd h1 (by omega), Fr.refl _ _⟩
                case round =>
                  obtain ⟨k, z, rfl, hzk, hki, rfl, rfl, hs0, hs1, HA, HFI⟩ := hrel
                  by_cases hk0 : k = 0
                  · subst hk0
                    have hgood : Good s l i := ⟨gT, gS, fun h => HM.out (i - 1) (by omega), fun j hj => HA.out j (by omega) hj⟩
                    have HGN := Lib.hid hgood
                    clear hgood
                    obtain rfl : z = -1 := by omega
                    go_wp2_with fail
                    refine ⟨⟨i + 1, by omega, rfl, by go_num, fun j hj => ?_, HV.out.trans HFI.out⟩, by simp [intOf]; omega⟩
                    by_cases h : j = i
                    · subst h; exact HGN.out
                    · exact HG.out j (by omega)
                  · obtain ⟨j, rfl⟩ : ∃ j, k = j + 1 := ⟨k - 1, by omega⟩
                    obtain rfl : z = (j : Int) := by omega
                    have hjl : j < l.length := by omega
                    obtain ⟨c0, c1⟩ := rdl_cells (HRV.out.kept HFI.out) j hjl
                    have hst : sumF l j (i + 1) = sz_ l j + sumF l (j + 1) (i + 1) := by rw [sumF_step l j (i + 1) (by omega) (by omega), sz_eq l j hjl]
                    have hgj : (0 ≤ at_ l j) ∧ s.least ≤ sz_ l j ∧ sz_ l j ≤ s.most := by
                      by_cases h : j = i
                      · subst h; exact ⟨gT.1, gS⟩
                      · have := HG.out j (by omega)
                        exact ⟨this.tick.1, this.size⟩
                    have hmo := HM.out j (by omega)
                    have hr4 := hr.r4
                    have hr6 := hr.r6
                    have HST := Lib.hid hst
                    clear hst
                    go_wp2_with fail
                    rw [show sumF l (j + 1) (i + 1) + sz_ l j = sumF l j (i + 1) by rw [HST.out, Int.add_comm]]
                    have hs2 : 0 ≤ sumF l j (i + 1) ∧ sumF l j (i + 1) ≤ 2147483657000000 + 2000 := by rw [HST.out]; omega
                    have hwd : IntKind.i64.wrap (at_ l i - at_ l j) = at_ l i - at_ l j := by rw [IntKind.wrap_i64]; omega
                    have hj0 : (0 : Int) ≤ (j : Int) := by omega
                    have hj1 : (j : Int) < (l.length : Int) := by omega
                    have hsp := sp_cells (HFI.out.blk HBV.out (fun h => h))
                    have hd0 : wr.cell? ⟨x, 0, none⟩ = some (.int .i64 (at_ l i)) := cell_of_blk (HFI.out.blk HXV.out (fun h => h)) 0
                    have HK : ∀ U, Fr0 wr U → ((U.cell? ⟨w.heap.size, 0, none⟩ = some (.int .i64 s.peak) ∧ U.cell? ⟨w.heap.size, 1, none⟩ = some (.int .i64 s.rate) ∧ U.cell? ⟨w.heap.size, 2, none⟩ = some (.int .i64 s.burst) ∧ U.cell? ⟨w.heap.size, 3, none⟩ = some (.int .i64 s.most) ∧ U.cell? ⟨w.heap.size, 4, none⟩ = some (.int .i64 s.least)) ∧
                        U.cell? ⟨x, 0, none⟩ = some (.int .i64 (at_ l i)) ∧ U.cell? ⟨b, off + j * 2, none⟩ = some (.int .i64 (at_ l j)) ∧ Fr0 wr U) := fun U h =>
                      ⟨⟨h.cell hsp.1 (fun h => h), h.cell hsp.2.1 (fun h => h), h.cell hsp.2.2.1 (fun h => h), h.cell hsp.2.2.2.1 (fun h => h), h.cell hsp.2.2.2.2 (fun h => h)⟩, h.cell hd0 (fun h => h), h.cell c0 (fun h => h), h⟩
                    have HAL := Lib.hid (fun w => allows_calls s (at_ l i - at_ l j) w hr (by omega) (by omega))
                    have hra := alw_range hr (t := at_ l i - at_ l j) (by omega) (by omega)
                    go_region_held3 (fun U => (U.cell? ⟨w.heap.size, 0, none⟩ = some (.int .i64 s.peak) ∧ U.cell? ⟨w.heap.size, 1, none⟩ = some (.int .i64 s.rate) ∧ U.cell? ⟨w.heap.size, 2, none⟩ = some (.int .i64 s.burst) ∧ U.cell? ⟨w.heap.size, 3, none⟩ = some (.int .i64 s.most) ∧ U.cell? ⟨w.heap.size, 4, none⟩ = some (.int .i64 s.least)) ∧
                        U.cell? ⟨x, 0, none⟩ = some (.int .i64 (at_ l i)) ∧ U.cell? ⟨b, off + j * 2, none⟩ = some (.int .i64 (at_ l j)) ∧ Fr0 wr U) (exact HK _ (by repeat (first | assumption | exact Fr.refl _ _ | exact And.right (And.right (And.right (by assumption))) | refine Fr.drew ?_ | refine Fr.trans ?_ (by assumption))))
                      (first
                        | (go_at_call 40; refine (HAL.out _).mono ?_; rintro e wA ⟨rfl, hfA⟩))
                    all_goals
                      have HFA := Lib.hid ((Fr.refl (fun _ => False) wr).drew.trans hfA)
                      clear hfA hsp hd0 HK c0 c1
                      by_cases hb : alw s (at_ l i - at_ l j) < sumF l j (i + 1)
                      · have HBRK := Lib.hid (Brk.eq (s := s) (l := l) (n := i) ⟨hi, HG.out, fun _ h => by have := h.bytes j (by omega); omega⟩)
                        have hbd : decide (alw s (at_ l i - at_ l j) < sumF l j (i + 1)) = true := decide_eq_true hb
                        go_wp2_with fail
                        rw [Exit.noGoto_ret]
                        go_ret2
                        rw [HBRK.out]
                        exact ⟨rfl, HF1.out.trans (HV.out.trans (HFI.out.trans HFA.out))⟩
                      · go_wp2_with fail
                        go_roundw
                        case rel =>
                          refine ⟨j, (j : Int) - 1, rfl, by omega, by omega, by go_num, rfl, hs2.1, by omega, fun q h1 h2 => ?_, HFI.out.trans HFA.out⟩
                          by_cases h : q = j
                          · subst h; omega
                          · exact HA.out q (by omega) h2
                        case measure => simp [intOf]
          · rw [decide_eq_false gS] at HWS
            have HBRK := Lib.hid (Brk.eq (s := s) (l := l) (n := i) ⟨hi, HG.out, fun _ h => gS h.size⟩)
            go_quiet (first
              | (go_at_call_of 39 (Value.int IntKind.i64 (at_ l i)); refine Calls.quiet_of_same ((HWT.out _).mono fun e w' h => ⟨h.1, h.2.symm⟩))
              | (go_at_call_of 39 (Value.int IntKind.i64 (sz_ l i)); refine Calls.quiet_of_same ((HWS.out _).mono fun e w' h => ⟨h.1, h.2.symm⟩)))
            go_wp2_with fail
            rw [Exit.noGoto_ret]
            go_ret2
            rw [HBRK.out]
            exact ⟨rfl, HF1.out.trans (HF2.out.drewN nq)⟩
        · rw [decide_eq_false gT] at HWT
          have HBRK := Lib.hid (Brk.eq (s := s) (l := l) (n := i) ⟨hi, HG.out, fun _ h => gT h.tick⟩)
          go_quiet (first
            | (go_at_call_of 39 (Value.int IntKind.i64 (at_ l i)); refine Calls.quiet_of_same ((HWT.out _).mono fun e w' h => ⟨h.1, h.2.symm⟩)))
          go_wp2_with fail
          rw [Exit.noGoto_ret]
          go_ret2
          rw [HBRK.out]
          exact ⟨rfl, HF1.out.trans (HF2.out.drewN nq)⟩
      · have hil : i = l.length := by omega
        have HBRK := Lib.hid (Brk.eq (s := s) (l := l) (n := l.length) ⟨Nat.le_refl _, fun j hj => HG.out j (by omega), fun h => absurd h (by omega)⟩)
        go_wp2_with fail
        rw [Exit.noGoto_ret]
        go_ret2
        rw [HBRK.out]
        exact ⟨rfl, HF1.out.trans HF.out⟩
  · have hc : chk s = 2 := if_neg hr
    rw [hc] at HC
    rw [if_neg hr]
    clear hc
    go_enter Try.func33, Try.ntmps33
    go_wp2_with fail
    refine wp_scope_fwd 0 rfl ?_
    go_wp2_with (go_at_call 25; refine (HC.out _).mono ?_; rintro e w1 ⟨rfl, hf1⟩; have HF1 := Lib.hid (((Fr.refl (fun _ => False) w).alloc _).trans hf1); clear hf1)
    apply wp_goto
    refine And.intro rfl ?_
    show Code.wp _ _ _ _ _
    go_wp2
    rw [Exit.noGoto_ret]
    go_ret2
    exact ⟨rfl, HF1.out⟩

theorem keeps_calls (s : Sp) (A : Option Addr) (c : Nat) (l : List (Int × Int)) (w : World) (hR : Rd (fun _ => False) w A (sends l)) (hl : l.length ≤ 140737488351232) :
    Calls Try.prog 23 #[spv s, .slice A l.length c] w fun e w' => e = .returned (if s.Right then .tuple #[.bool (decide (Keeps s l)), .int .i64 0] else .tuple #[.bool false, .int .i64 2]) ∧ Fr0 w w' := by
  have HBR := Lib.hid (breaks_calls s A c l (w.alloc (.cells (spc s) 23)) (hR.kept ((Fr.refl _ w).alloc _)) hl)
  clear hR
  have hbk := brk_brk s l
  by_cases hr : s.Right
  · rw [if_pos hr] at HBR ⊢
    by_cases hk : Keeps s l
    · have hb := (keeps_brk s l).2 hk
      rw [hb] at HBR
      rw [decide_eq_true hk]
      clear hbk hb
      go_enter Try.func23, Try.ntmps23
      go_wp2_with (go_at_call 33; refine HBR.out.mono ?_; rintro e w1 ⟨rfl, hf⟩)
      go_ret2
      exact ⟨rfl, ((Fr.refl _ w).alloc _).trans hf⟩
    · have hb := mt (keeps_brk s l).1 hk
      have hle := hbk.le
      rw [decide_eq_false hk]
      generalize brk s l = n at *
      have hd : decide ((n : Int) = (l.length : Int)) = false := decide_eq_false (by omega)
      clear hbk
      go_enter Try.func23, Try.ntmps23
      go_wp2_with (go_at_call 33; refine HBR.out.mono ?_; rintro e w1 ⟨rfl, hf⟩)
      go_ret2
      refine ⟨?_, ((Fr.refl _ w).alloc _).trans hf⟩
      simp [hb]
      omega
  · rw [if_neg hr] at HBR ⊢
    go_enter Try.func23, Try.ntmps23
    go_wp2_with (go_at_call 33; refine HBR.out.mono ?_; rintro e w1 ⟨rfl, hf⟩)
    go_ret2
    exact ⟨rfl, ((Fr.refl _ w).alloc _).trans hf⟩
end Go.Proofs.Ytpelkgoipijiiaa
