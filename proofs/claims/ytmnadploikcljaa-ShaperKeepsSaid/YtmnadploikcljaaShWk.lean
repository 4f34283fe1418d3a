/- Chapter 13: the statement ShaperKeeps walked. -/
import Derived.Test.YtmnadploikcljaaShKa
import Derived.Test.YtmnadploikcljaaShYb
import Derived.Deep.AppendLies
set_option linter.unusedVariables false
set_option linter.unusedSimpArgs false
namespace Go.Proofs.Ytmnadploikcljaa
open Go.RowKit
attribute [local go_sem] Oper.semAt_some

set_option maxRecDepth 100000 in
set_option maxHeartbeats 16000000 in
theorem keeps13_walk (s : Sp) (A : Option Addr) (c : Nat) (l : List (Int × Int × Int)) (w : World) (hR : Rd (fun _ => False) w A (l.flatMap acL)) (hl : l.length ≤ 140737488351232) :
    Calls Try.prog 3 #[spv s, .slice A l.length c] w (Yes w) := by
  have HR := Lib.hid hR
  clear hR
  have HKN := Lib.hid known13_calls
  have HBS := Lib.hid (heap_alloc_new w (.cells (spc s) 23))
  have HF0 := Lib.hid ((Fr.refl (fun _ => False) w).alloc (.cells (spc s) 23))
  have hmx : Try.prog.follows .mixedOrders = true := by kernel_rfl
  obtain ⟨c0, c1, c2, c3, c4⟩ := sp_cells HBS.out
  by_cases h40 : 40 < l.length
  · have h40d : decide ((40 : Int) < (l.length : Int)) = true := decide_eq_true (by omega)
    go_enter Try.func3, Try.ntmps3
    go_wp2_with (go_at_call 9; refine (HKN.out _).mono ?_; rintro e w6 ⟨rfl, hf6⟩)
    go_ret
    exact ⟨rfl, HF0.out.trans hf6⟩
  have h40d : decide ((40 : Int) < (l.length : Int)) = false := decide_eq_false (by omega)
  by_cases hr : s.Right
  · have HN := Lib.hid (snew_yes s 1000000000 hr (by decide))
    have HSR := Lib.hid hr
    clear hr
    go_enter Try.func3, Try.ntmps3
    go_wp2_with (first
      | (go_at_call 10; refine (HN.out _).mono ?_; rintro e w2 ⟨⟨b, m, rfl, hb, hm, hx⟩, hf2⟩; have HF2 := Lib.hid (HF0.out.trans hf2); have HX2 := Lib.hid hx; have HBS2 := Lib.hid (hf2.blk HBS.out (fun h => h)); have HBM := Lib.hid (show w.heap.size + 1 ≤ b ∧ w.heap.size + 1 ≤ m from (by simp at hb hm; exact ⟨hb, hm⟩)); clear hf2 hx hb hm c0 c1 c2 c3 c4))
    clear HN HF0
    go_loopw [7, 8, 9, 10, 11, 12, 13] (fun s7 s8 s9 s10 _ _ _ wr => ∃ (k : Nat) (X : Sh) (C W T : List (Int × Int)) (A7 : Option Addr) (c7 : Nat) (A8 : Option Addr) (c8 : Nat) (A9 : Option Addr) (c9 : Nat), k ≤ l.length ∧ C.length ≤ k ∧ s10 = .int .i64 (k : Int) ∧ s7 = .slice A7 C.length c7 ∧ s8 = .slice A8 W.length c8 ∧ s9 = .slice A9 T.length c9 ∧
      Hid (C = W ++ X.L ∧ T = X.t ∧ T.length = W.length ∧ X.s = s) ∧ Hid (Rows3 w wr b m X C W T s7 s8 s9) ∧ Hid (wr.heap[w.heap.size]? = some (.cells (spc s) 23 (0, 0)))) (fun _ _ _ s10 _ _ _ _ => l.length - (intOf s10).toNat)
    case atStart => exact ⟨0, shNew s 1000000000, [], [], [], none, 0, none, 0, none, 0, Nat.zero_le _, by simp, rfl, rfl, rfl, rfl, ⟨rfl, rfl, rfl, rfl⟩, ⟨own_nil _ _ _ _, own_nil _ _ _ _, own_nil _ _ _ _, HX2.out.t0.mono (fun q _ e => by simp [Value.ownBlock] at e), fun q e => by simp [Value.ownBlock] at e, HF2.out⟩, HBS2.out⟩
    case round =>
      obtain ⟨k, X, C, W, T, A7, c7, A8, c8, A9, c9, hk, hCk, rfl, rfl, rfl, rfl, HP, HT, HB⟩ := hrel
      by_cases hlt : k < l.length
      · have HRW := Lib.hid (HR.out.kept HT.out.fr)
        obtain ⟨p, off, rfl⟩ := HRW.out.some_ (by rw [acs_length]; omega)
        have hi1 : (0 : Int) ≤ (k : Int) := by omega
        have hi2 : (k : Int) < (l.length : Int) := by omega
        have HY := Lib.hid (fun U (h : Fr0 w U) => rd_ac (HR.out.kept h) k hlt)
        obtain ⟨d0, d1, d2⟩ := HY.out _ HT.out.fr
        generalize l[k] = y at *
        have HPU := Lib.hid (sput_callsT _ b m X y.2.1 y.2.2 wr HT.out.low HT.out.sh)
        by_cases h1 : y.1 = 1
        · have h1b : (y.1 == 1) = true := by simpa using h1
          have h1d : decide (y.1 = 1) = true := decide_eq_true h1
          rw [h1] at d0
          by_cases he : putE X y.2.1 y.2.2 = 0
          · have hxe : putX X y.2.1 y.2.2 = { X with L := X.L ++ [(y.2.1, y.2.2)] } := by rw [putX, if_pos he]
            rw [he, hxe] at HPU
            clear he hxe h1 h1b h1d
            go_wp2_with (first
              | (go_at_call 11; (with_reducible refine HPU.out.mono ?_); rintro e w5 ⟨rfl, hx5, hf5⟩; have HT5 := Lib.hid (HT.out.turn HBM.out hf5 hx5); have HB5 := Lib.hid (hf5.blk HB.out (fun e => by have := HBM.out; rcases e with e | e <;> omega)); clear d0 d1 d2 hx5 hf5; obtain ⟨d0, d1, d2⟩ := HY.out _ HT5.out.fr)
              | (at_builtin; refine wpList_app rfl (.tmp 46) (.tmp 52) _ rfl Try.underlying30 wt_elem (base := w.heap.size + 1) (.slice A7 C.length c7) C.length (sends C) rfl (own_kept0 HT5.out.o7 ((Fr.refl _ w5).alloc _)) (fun _ => False) _ 1 1 (sends [(y.2.1, y.2.2)]) rfl (rd_wt1 _ w5 (y.2.1, y.2.2) _ (fun h => h)) rfl (sends_one' _) (by simp only [maxLen]; omega) (by omega) (by have := lt_of_block HB5.out; simp; omega) (by simp) ?_; intro v6 w7 hown hg hat; rw [← sends_append] at hown; obtain ⟨g6, c6, hv6, hg6, hgl6⟩ := hown.form (by omega); subst hv6; have HT7 := Lib.hid ((HT5.out.kept0 ((Fr.refl _ w5).alloc _)).push7 (C' := C ++ [(y.2.1, y.2.2)]) (by simpa using hown) hg hat); have HB7 := Lib.hid (blk_grown (blk_alloc HB5.out _) hg (fun e => by have := (own_blk HT5.out.o7 e.symm).1; omega)); clear hown hg hat d0 d1 d2))
            go_roundw
            case rel => exact ⟨k + 1, { X with L := X.L ++ [(y.2.1, y.2.2)] }, C ++ [(y.2.1, y.2.2)], W, T, some ⟨g6, 0, none⟩, c6, A8, c8, A9, c9, by omega, by simp; omega, by go_num, by simp, rfl, rfl, ⟨by rw [HP.out.1, List.append_assoc], HP.out.2.1, HP.out.2.2.1, HP.out.2.2.2⟩, HT7.out, HB7.out⟩
            case measure => simp [intOf]; omega
          · have hxe : putX X y.2.1 y.2.2 = X := by rw [putX, if_neg he]
            rw [hxe] at HPU
            have hed : decide (putE X y.2.1 y.2.2 = 0) = false := decide_eq_false he
            have heb : (putE X y.2.1 y.2.2 == 0) = false := by simpa using he
            generalize putE X y.2.1 y.2.2 = er at *
            clear hxe h1 h1b h1d
            go_wp2_with (go_at_call 11; (with_reducible refine HPU.out.mono ?_); rintro e w5 ⟨rfl, hx5, hf5⟩; have HT5 := Lib.hid (HT.out.turn HBM.out hf5 hx5); have HB5 := Lib.hid (hf5.blk HB.out (fun e => by have := HBM.out; rcases e with e | e <;> omega)); clear d0 d1 d2 hx5 hf5)
            go_roundw
            case rel => exact ⟨k + 1, X, C, W, T, A7, c7, A8, c8, A9, c9, by omega, by omega, by go_num, rfl, rfl, rfl, HP.out, HT5.out, HB5.out⟩
            case measure => simp [intOf]; omega
        · have h1b : (y.1 == 1) = false := by simpa using h1
          have h1d : decide (y.1 = 1) = false := decide_eq_false h1
          have HGO := Lib.hid (sgo_any _ b m X y.2.1 wr HT.out.sh)
          clear HPU h1
          go_upto_region 15 with (go_at_call 12; (with_reducible refine HGO.out.mono ?_); rintro e w5 ⟨X', O, er, AO, cO, rfl, hOl, hrO, hgs, hx5, hf5⟩)
          have HT5 := Lib.hid (HT.out.turn HBM.out hf5 hx5)
          have HB5 := Lib.hid (hf5.blk HB.out (fun e => by have := HBM.out; rcases e with e | e <;> omega))
          have HGS := Lib.hid hgs
          have HRO := Lib.hid (hrO.mono (T := fun q => some q = (Value.slice A8 W.length c8).ownBlock ∨ some q = (Value.slice A9 T.length c9).ownBlock) (fun q hq e => Nat.lt_of_not_le fun h => HT.out.low q h (e.elim (fun e => .inl (.inr e)) .inr)))
          have HOL := Lib.hid (show O.length ≤ X.L.length from hOl)
          clear d0 d1 d2 hx5 hf5 hgs hrO hOl HGO
          by_cases he : er = 0
          · obtain ⟨hg1, hg2, hg3, hg4⟩ := go_facts HGS.out he
            subst he
            have HG := Lib.hid (show C = (W ++ O) ++ X'.L ∧ X'.t = T ++ tag y.2.1 O ∧ X'.s = s ∧ (0 < X'.L.length → ¬ Keeps s (X'.t ++ [(y.2.1, sz_ X'.L 0)])) from ⟨by rw [HP.out.1, hg1, List.append_assoc], by rw [hg2, HP.out.2.1], hg3.trans HP.out.2.2.2, by rw [← HP.out.2.2.2]; exact hg4⟩)
            have HLE := Lib.hid (show (W.length + O.length) + X'.L.length = C.length from by have := congrArg List.length HG.out.1; simp at this; omega)
            have HTL := Lib.hid HP.out.2.2.1
            have hO40 : O.length ≤ 40 := by have := HLE.out; omega
            clear hg1 hg2 hg3 hg4 HGS HP HT HB HOL
            go_wp2_with fail
            go_loopw [8, 9, 13] (fun s8 s9 s13 wr => ∃ (j : Nat) (W1 T1 : List (Int × Int)) (A8 : Option Addr) (c8 : Nat) (A9 : Option Addr) (c9 : Nat), j ≤ O.length ∧ s13 = .int .i64 (j : Int) ∧ s8 = .slice A8 W1.length c8 ∧ s9 = .slice A9 T1.length c9 ∧ W1.length ≤ 40 ∧ T1.length ≤ 40 ∧
              Hid (W1 = W ++ O.take j ∧ T1 = T ++ tag y.2.1 (O.take j)) ∧ Hid (Rows3 w wr b m X' C W1 T1 (.slice A7 C.length c7) s8 s9) ∧ Hid (wr.heap[w.heap.size]? = some (.cells (spc s) 23 (0, 0))) ∧ Hid (Rd (fun q => some q = s8.ownBlock ∨ some q = s9.ownBlock) wr AO (sends O))) (fun _ _ s13 _ => O.length - (intOf s13).toNat)
            case atStart => exact ⟨0, W, T, A8, c8, A9, c9, Nat.zero_le _, rfl, rfl, rfl, by have := HLE.out; omega, by have := HLE.out; have := HTL.out; omega, ⟨by simp, by simp [tag]⟩, HT5.out, HB5.out, HRO.out⟩
            case round =>
              obtain ⟨j, W1, T1, A8, c8, A9, c9, hj, rfl, rfl, rfl, hW40, hT40, HWT, HT, HB, HRO⟩ := hrel
              by_cases hjl : j < O.length
              · obtain ⟨go, oo, rfl⟩ := HRO.out.some_ (by rw [sends_length]; omega)
                obtain ⟨e0, e1⟩ := rdl_cells HRO.out j hjl
                have hj1 : (0 : Int) ≤ (j : Int) := by omega
                have hj2 : (j : Int) < (O.length : Int) := by omega
                have HTS := Lib.hid (take_snoc O j hjl)
                have HOE := Lib.hid (fun U (S : Nat → Prop) (h : Rd S U (some ⟨go, oo, none⟩) (sends O)) => rdl_cells h j hjl)
                have HLW := Lib.hid (show W1.length < 40 ∧ T1.length < 40 from by
                  have h1 := HLE.out
                  have h2 := HTL.out
                  have h3 := congrArg List.length HWT.out.1
                  have h4 := congrArg List.length HWT.out.2
                  simp [tag_length] at h3 h4
                  omega)
                generalize at_ O j = oid at *
                generalize sz_ O j = osz at *
                go_wp2_with (at_builtin; refine wpList_app rfl (.tmp 73) (.tmp 78) _ rfl Try.underlying30 wt_elem (base := w.heap.size + 1) (.slice A8 W1.length c8) W1.length (sends W1) rfl (own_kept0 HT.out.o8 ((Fr.refl _ wr).alloc _)) (fun _ => False) _ 1 1 (sends [(oid, osz)]) rfl (rd_wt1 _ wr (oid, osz) _ (fun h => h)) rfl (sends_one' _) (by simp only [maxLen]; omega) (by omega) (by have := lt_of_block HB.out; simp; omega) (by simp) ?_; intro v8 w7 hown hg hat; rw [← sends_append] at hown; obtain ⟨g8, c8', hv8, hg8, hgl8⟩ := hown.form (by omega); subst hv8; have HB7 := Lib.hid (blk_push HB.out ((Fr.refl _ wr).alloc _) (own_kept0 HT.out.o8 ((Fr.refl _ wr).alloc _)) (Nat.lt_succ_self _) hg); have HT7 := Lib.hid ((HT.out.kept0 ((Fr.refl _ wr).alloc _)).push8 (W' := W1 ++ [(oid, osz)]) (by simpa using hown) hg hat); have HRO7 := Lib.hid (rd_push (T := fun q => some q = (Value.slice A9 T1.length c9).ownBlock) ((HRO.out.kept (Fr0.any ((Fr.refl _ wr).alloc _))).mono (fun q _ e => e.elim .inr .inl)) hg hat); clear hown hg hat e0 e1)
                obtain ⟨e0, e1⟩ := HOE.out _ _ HRO7.out
                obtain ⟨d0, d1, d2⟩ := HY.out _ HT7.out.fr
                go_region_law (refine step_app rfl (.tmp 80) (.tmp 93) _ rfl Try.underlying31 send_elem (base := w.heap.size + 1) (.slice A9 T1.length c9) T1.length (sends T1) rfl (by first | exact own_kept0 HT7.out.o9 ((Fr.refl _ w7).alloc _).drew | exact own_kept0 HT7.out.o9 ((Fr.refl _ w7).drew.alloc _)) (fun _ => False) _ 1 1 (sends [(y.2.1, osz)]) rfl (by first | exact (rd_send1 (fun _ => False) w7 _ _ _ (fun h => h)).kept (Fr.refl _ _).drew | exact rd_send1 (fun _ => False) w7.drew _ _ _ (fun h => h)) rfl (sends_one _) (by simp only [maxLen]; omega) (by omega) (by have h1 := lt_of_block HB7.out; have h2 : w7.drew.heap.size = w7.heap.size := rfl; simp; omega) (by simp) ?_; intro v9 w8 hown hg hat; rw [← sends_append] at hown; obtain ⟨g9, c9', hv9, hg9, hgl9⟩ := hown.form (by omega); subst hv9; have hFU := (by first | exact ((Fr.refl (fun _ => False) w7).alloc (.cells #[.int .i64 y.2.1, .int .i64 osz] 40)).drew | exact (Fr.refl (fun _ => False) w7).drew.alloc (.cells #[.int .i64 y.2.1, .int .i64 osz] 40) : Fr0 w7 _); have HB8 := Lib.hid (blk_push HB7.out hFU (own_kept0 HT7.out.o9 hFU) (Nat.lt_succ_self _) hg); have HT8 := Lib.hid ((HT7.out.kept0 hFU).push9 (T' := T1 ++ [(y.2.1, osz)]) (by simpa using hown) hg hat); have HRO8 := Lib.hid (rd_push (T := fun q => some q = (Value.slice (some ⟨g8, 0, none⟩) (W1.length + 1) c8').ownBlock) ((HRO7.out.kept (Fr0.any hFU)).mono (fun q _ e => e.elim .inr .inl)) hg hat); clear hown hg hat)
                all_goals
                  go_wp2_with fail
                  go_roundw
                  case rel => exact ⟨j + 1, W1 ++ [(oid, osz)], T1 ++ [(y.2.1, osz)], some ⟨g8, 0, none⟩, c8', some ⟨g9, 0, none⟩, c9', by omega, by go_num, by simp, by simp, by have := HLW.out; simp; omega, by have := HLW.out; simp; omega, ⟨by rw [HTS.out, HWT.out.1, List.append_assoc], by rw [HTS.out, HWT.out.2, tag_app, tag_one, List.append_assoc]⟩, HT8.out, HB8.out, HRO8.out⟩
                  case measure => simp [intOf]; omega
              · obtain rfl : j = O.length := by omega
                have HW1 := Lib.hid (show W1 = W ++ O by rw [HWT.out.1, List.take_length])
                have HT1 := Lib.hid (show T1 = X'.t by rw [HWT.out.2, List.take_length, HG.out.2.1])
                have HWL := Lib.hid (show W1.length + X'.L.length = C.length from by rw [HW1.out]; have := HLE.out; simp; omega)
                have HTW := Lib.hid (show T1.length = W1.length from by rw [HW1.out, HWT.out.2, List.take_length]; have := HTL.out; simp [tag_length]; omega)
                have HGC := Lib.hid (show C = W1 ++ X'.L from by rw [HW1.out]; exact HG.out.1)
                by_cases hL : 0 < X'.L.length
                · have hcd : decide ((W1.length : Int) < (C.length : Int)) = true := decide_eq_true (by have := HWL.out; omega)
                  have hcn : decide (W1.length < C.length) = true := decide_eq_true (by have := HWL.out; omega)
                  have hRC : Rd (fun _ => False) wr A7 (sends C) := own_rd _ HT.out.o7 (fun _ _ _ h => h)
                  obtain ⟨gc, oc, rfl⟩ := hRC.some_ (by rw [sends_length]; have := HWL.out; omega)
                  have hcc := (rdl_cells hRC W1.length (by have := HWL.out; omega)).2
                  rw [show sz_ C W1.length = sz_ X'.L 0 from by rw [HGC.out]; exact sz_app0 W1 X'.L hL] at hcc
                  have HNK := Lib.hid (show decide (Keeps s (T1 ++ [(y.2.1, sz_ X'.L 0)])) = false from decide_eq_false (by rw [HT1.out]; exact HG.out.2.2.2 hL))
                  generalize sz_ X'.L 0 = cz at *
                  have hi3 : (0 : Int) ≤ (W1.length : Int) := by omega
                  have hi4 : (W1.length : Int) < (C.length : Int) := by have := HWL.out; omega
                  have hT39 : T1.length ≤ 40 := hT40
                  have HKF := Lib.hid (fun U (h : Fr0 wr U) => (show (U.cell? ⟨w.heap.size, 0, none⟩ = some (.int .i64 s.peak) ∧ U.cell? ⟨w.heap.size, 1, none⟩ = some (.int .i64 s.rate) ∧ U.cell? ⟨w.heap.size, 2, none⟩ = some (.int .i64 s.burst) ∧ U.cell? ⟨w.heap.size, 3, none⟩ = some (.int .i64 s.most) ∧ U.cell? ⟨w.heap.size, 4, none⟩ = some (.int .i64 s.least)) ∧ U.cell? ⟨p, off + k * 3 + 1, none⟩ = some (.int .i64 y.2.1) ∧ U.cell? ⟨gc, oc + W1.length * 2 + 1, none⟩ = some (.int .i64 cz) from
                    ⟨sp_cells (h.blk HB.out (fun h => h)), (HY.out U (HT.out.fr.trans h)).2.1, h.cell hcc (fun h => h)⟩))
                  have HR9 := Lib.hid (own_rd (fun _ => False) HT.out.o9 (fun _ _ _ h => h))
                  have HKP := Lib.hid (fun A c U h => rkeeps_calls s A c (T1 ++ [(y.2.1, cz)]) U h (by simp; omega) HSR.out)
                  rw [HNK.out] at HKP
                  have HA9 : Hid (A9 = none → T1.length = 0) := Lib.hid (fun e => by
                    subst e
                    rcases Nat.eq_zero_or_pos T1.length with h | h
                    · exact h
                    · obtain ⟨_, _, e⟩ := HR9.out.some_ (by rw [sends_length]; omega)
                      cases e)
                  have HSL : Hid ((sends T1).length = T1.length * 2) := Lib.hid (by rw [sends_length]; omega)
                  clear hRC hcc hL
                  go_wp2_with fail
                  have HA9' := HA9
                  go_region_held3 (fun U => (U.cell? ⟨w.heap.size, 0, none⟩ = some (.int .i64 s.peak) ∧ U.cell? ⟨w.heap.size, 1, none⟩ = some (.int .i64 s.rate) ∧ U.cell? ⟨w.heap.size, 2, none⟩ = some (.int .i64 s.burst) ∧ U.cell? ⟨w.heap.size, 3, none⟩ = some (.int .i64 s.most) ∧ U.cell? ⟨w.heap.size, 4, none⟩ = some (.int .i64 s.least)) ∧ U.cell? ⟨p, off + k * 3 + 1, none⟩ = some (.int .i64 y.2.1) ∧ U.cell? ⟨gc, oc + W1.length * 2 + 1, none⟩ = some (.int .i64 cz))
                    ((refine HKF.out _ ?_; with_reducible repeat (first | exact hfr5 | exact hfr4 | exact hfr3 | exact Fr.refl _ _ | refine Fr.drew ?_ | refine Fr.alloc ?_ _)))
                    ((first
                      | (refine step_appG (by rfl) (.const (.slice none 0 0)) (.tmp 102) _ rfl Try.underlying31 send_elem (base := wr.heap.size) (.slice none 0 0) 0 [] rfl (own_nil _ _ _ _) (fun _ => False) A9 T1.length c9 (sends T1) rfl (HR9.out.kept (by with_reducible repeat (first | exact Fr.refl _ _ | refine Fr.drew ?_ | refine Fr.alloc ?_ _))) HSL.out (sends_one _) (by simp only [maxLen]; omega) (by omega) (Fr.size (S := fun _ => False) (by with_reducible repeat (first | exact Fr.refl _ _ | refine Fr.drew ?_ | refine Fr.alloc ?_ _))) HA9.out ?_; intro v1 w3 hown1 hg1 hat1; have hfn3 := Fr.grown (Fr.refl (fun _ => False) _) hg1 (by simp [Value.ownBlock]); have hfr3 : Fr0 wr w3 := Fr.trans (by with_reducible repeat (first | exact Fr.refl _ _ | refine Fr.drew ?_ | refine Fr.alloc ?_ _)) hfn3)
                      | (refine step_appG (by rfl) (.tmp 103) (.tmp 117) _ rfl Try.underlying31 send_elem (base := wr.heap.size) v1 (0 + T1.length) ([] ++ sends T1) rfl (own_kept0 hown1 (by with_reducible repeat (first | exact Fr.refl _ _ | refine Fr.drew ?_ | refine Fr.alloc ?_ _))) (fun _ => False) _ 1 1 (sends [(y.2.1, cz)]) rfl (by first | exact rd_send1 _ w3 _ _ _ (fun h => h) | exact (rd_send1 (fun _ => False) wr.drew _ _ _ (fun h => h)).kept hfn3 | exact Rd.kept (Rd.kept (rd_send1 (fun _ => False) wr _ _ _ (fun h => h)) (Fr.refl _ _).drew) hfn3) rfl (sends_one _) (by simp only [maxLen]; omega) (by omega) (by have := hfr3.size; first | exact this | (simp; omega)) (by simp) ?_; intro v2 w4 hown2 hg2 hat2; rw [Nat.zero_add, List.nil_append, ← sends_append] at hown2; obtain ⟨A2z, c2z, rfl, hlc2, hcm2⟩ := own_form hown2; have hfr4 : Fr0 wr w4 := Fr.grown (by first | exact hfr3.alloc _ | exact hfr3) hg2 (fun g hg e => by have := (own_blk hown1 e).1; omega); have HKR := Lib.hid (own_rd (fun _ => False) hown2 (fun _ _ _ h => h)))
                      | (go_at_call 13; have hkp := HKP.out A2z c2z w4 HKR.out; rw [List.length_append, List.length_cons, List.length_nil, Nat.zero_add] at hkp; (with_reducible refine hkp.mono ?_); rintro e w5 ⟨rfl, hf5⟩; have hfr5 := hfr4.trans hf5)))
                  all_goals
                    have HT5 := Lib.hid (HT.out.kept0 (hfr4.trans hf5))
                    have HB5 := Lib.hid ((hfr4.trans hf5).blk HB.out (fun h => h))
                    go_wp2_with fail
                    go_roundw
                    case rel => exact ⟨k + 1, X', C, W1, T1, some ⟨gc, oc, none⟩, c7, A8, c8, A9, c9, by omega, by omega, by go_num, rfl, rfl, rfl, ⟨HGC.out, HT1.out, HTW.out, HG.out.2.2.1⟩, HT5.out, HB5.out⟩
                    case measure => simp [intOf]; omega
                · have hcd : decide ((W1.length : Int) < (C.length : Int)) = false := decide_eq_false (by have := HWL.out; omega)
                  have hcn : decide (W1.length < C.length) = false := decide_eq_false (by have := HWL.out; omega)
                  clear hL
                  go_wp2_with fail
                  refine wp_region_class (fun U => ∃ x : Wx wr, U = x.u) 25 hmx (by kernel_rfl) ⟨⟨wr.drew, (Fr.refl _ wr).drew⟩, rfl⟩ ?_
                  simp only [List.take_succ_cons, List.take_zero, List.drop_succ_cons, List.drop_zero]
                  repeat (go_big_quiet_step (fail))
                  refine wpQuiet_nil ?_
                  rintro U ⟨y5, hy5⟩
                  have hf5 : Fr0 wr U := hy5 ▸ y5.fr
                  have HT5 := Lib.hid (HT.out.kept0 hf5)
                  have HB5 := Lib.hid (hf5.blk HB.out (fun h => h))
                  clear hy5 y5 hf5
                  go_wp2_with fail
                  go_roundw
                  case rel => exact ⟨k + 1, X', C, W1, T1, A7, c7, A8, c8, A9, c9, by omega, by omega, by go_num, rfl, rfl, rfl, ⟨HGC.out, HT1.out, HTW.out, HG.out.2.2.1⟩, HT5.out, HB5.out⟩
                  case measure => simp [intOf]; omega
          · have heb : (er == 0) = false := by simpa using he
            have hed : decide (er = 0) = false := decide_eq_false he
            obtain rfl := go_not HGS.out he
            clear he HGS
            go_wp2_with fail
            go_roundw
            case rel => exact ⟨k + 1, X', C, W, T, A7, c7, A8, c8, A9, c9, by omega, by omega, by go_num, rfl, rfl, rfl, HP.out, HT5.out, HB5.out⟩
            case measure => simp [intOf]; omega
      · obtain rfl : k = l.length := by omega
        have HWC := Lib.hid (show W.length ≤ C.length from by have := congrArg List.length HP.out.1; simp at this; omega)
        have hle : decide ((W.length : Int) ≤ (C.length : Int)) = true := decide_eq_true (by have := HWC.out; omega)
        have hC40 : C.length ≤ 40 := by omega
        have HWT := Lib.hid (show W = C.take W.length from by rw [HP.out.1]; simp)
        have hcap : C.length ≤ c7 := by obtain ⟨_, _, e, h1, _⟩ := own_form HT.out.o7; cases e; exact h1
        have hi3 : (0 : Int) ≤ (W.length : Int) := by omega
        have hi4 : (W.length : Int) ≤ (c7 : Int) := by have := HWC.out; omega
        have HRW := Lib.hid (own_rd (fun _ => False) HT.out.o8 (fun _ _ _ h => h))
        have HRC := Lib.hid (show Rd (fun _ => False) wr A7 (sends W) from by
          have h1 := own_rd (fun _ => False) HT.out.o7 (fun _ _ _ h => h)
          rw [HP.out.1, sends_append] at h1
          exact h1.pre)
        have HRT := Lib.hid (own_rd (fun _ => False) HT.out.o9 (fun _ _ _ h => h))
        have HSM := Lib.hid (fun c' => wsame_calls A8 A7 c8 c' W W wr HRW.out HRC.out (by have := HWC.out; omega) (by have := HWC.out; omega))
        have hww : decide (W = W) = true := decide_eq_true rfl
        rw [hww] at HSM
        have HKT := Lib.hid (show decide (Keeps s T) = true from decide_eq_true (by rw [HP.out.2.1, ← HP.out.2.2.2]; exact HT.out.sh.sh.ok.of.keeps))
        have HKP := Lib.hid (fun U (h : Fr0 wr U) => rkeeps_calls s A9 c9 T U (HRT.out.kept h) (by have := HWC.out; have := HP.out.2.2.1; omega) HSR.out)
        rw [HKT.out] at HKP
        have HSPC := Lib.hid (fun U (h : Fr0 wr U) => sp_cells (h.blk HB.out (fun h => h)))
        clear hww
        go_wp2_with (first
          | (go_at_call 14; (with_reducible refine (HSM.out _).mono ?_); rintro e w5 ⟨rfl, hf5⟩; obtain ⟨f0, f1, f2, f3, f4⟩ := HSPC.out _ hf5)
          | (go_at_call 13; (with_reducible refine (HKP.out _ hf5).mono ?_); rintro e w6 ⟨rfl, hf6⟩)
          | (go_at_call 9; refine (HKN.out _).mono ?_; rintro e w7 ⟨rfl, hf7⟩))
        go_ret
        exact ⟨rfl, (HT.out.fr.trans hf5).trans (hf6.trans hf7)⟩
  · have HN := Lib.hid (snew_no s 1000000000 (fun h => hr h.1))
    clear hr
    go_enter Try.func3, Try.ntmps3
    go_wp2_with (first
      | (go_at_call 10; refine (HN.out _).mono ?_; rintro e w2 ⟨rfl, hf2⟩)
      | (go_at_call 9; refine (HKN.out _).mono ?_; rintro e w6 ⟨rfl, hf6⟩))
    go_ret
    exact ⟨rfl, (HF0.out.trans hf2).trans hf6⟩
end Go.Proofs.Ytmnadploikcljaa
