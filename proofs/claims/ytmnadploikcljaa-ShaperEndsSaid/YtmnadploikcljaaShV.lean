/- Chapter 13: the statement ShaperEnds walked. -/
import Derived.Test.YtmnadploikcljaaShU
set_option linter.unusedVariables false
set_option linter.unusedSimpArgs false
namespace Go.Proofs.Ytmnadploikcljaa
open Go.RowKit
attribute [local go_sem] Oper.semAt_some

theorem sh_with (X : Sh) (C : List (Int × Int)) (id z : Int) (h : X.L = C) : putE X id z = 0 → putX X id z = { X with L := C ++ [(id, z)] } := fun e => by rw [putX, if_pos e, h]
set_option maxRecDepth 100000 in
set_option maxHeartbeats 8000000 in
theorem ends_walk (s : Sp) (A : Option Addr) (c : Nat) (l : List (Int × Int)) (w : World) (hR : Rd (fun _ => False) w A (sends l)) (hl : l.length ≤ 140737488351232) :
    Calls Try.prog 4 #[spv s, .slice A l.length c] w (Yes w) := by
  have HR := Lib.hid hR
  clear hR
  have HKN := Lib.hid known13_calls
  have HBS := Lib.hid (heap_alloc_new w (.cells (spc s) 23))
  have HF0 := Lib.hid ((Fr.refl (fun _ => False) w).alloc (.cells (spc s) 23))
  obtain ⟨c0, c1, c2, c3, c4⟩ := sp_cells HBS.out
  by_cases hr : s.Right
  · have HN := Lib.hid (snew_yes s 1000000000 hr (by decide))
    have hr2 := hr
    by_cases h30 : 30 < l.length
    · have h30d : decide ((30 : Int) < (l.length : Int)) = true := decide_eq_true (by omega)
      go_enter Try.func4, Try.ntmps4
      go_wp2_with (first
        | (go_at_call 10; refine (HN.out _).mono ?_; rintro e w2 ⟨⟨b, m, rfl, hb, hm, hx⟩, hf2⟩)
        | (go_at_call 9; refine (HKN.out _).mono ?_; rintro e w6 ⟨rfl, hf6⟩))
      go_ret
      exact ⟨rfl, (HF0.out.trans hf2).trans hf6⟩
    have h30d : decide ((30 : Int) < (l.length : Int)) = false := decide_eq_false (by omega)
    go_enter Try.func4, Try.ntmps4
    go_wp2_with (first
      | (go_at_call 10; refine (HN.out _).mono ?_; rintro e w2 ⟨⟨b, m, rfl, hb, hm, hx⟩, hf2⟩))
    have HF2 := Lib.hid (HF0.out.trans hf2)
    have HX2 := Lib.hid hx
    have HBM := Lib.hid (show w.heap.size + 1 ≤ b ∧ w.heap.size + 1 ≤ m from by simp at hb hm; exact ⟨hb, hm⟩)
    clear hf2 hx hb hm c0 c1 c2 c3 c4 HN
    go_loopw [7, 9] (fun s7 s9 wr => ∃ (k : Nat) (C : List (Int × Int)) (A7 : Option Addr) (c7 : Nat), k ≤ l.length ∧ C.length ≤ k ∧ s9 = .int .i64 (k : Int) ∧ s7 = .slice A7 C.length c7 ∧ Hid (wr.ownsRow (w.heap.size + 1) 33 2 s7 C.length (sends C)) ∧ Hid (IsShT (fun q => False ∨ some q = s7.ownBlock) wr b m { shNew s 1000000000 with L := C }) ∧ Hid (Fr0 w wr)) (fun _ s9 _ => l.length - (intOf s9).toNat)
    case atStart => exact ⟨0, [], none, 0, Nat.zero_le _, by simp, rfl, rfl, own_nil _ _ _ _, HX2.out.t0.mono (fun k _ e => by rcases e with e | e; exact e; simp [Value.ownBlock] at e), HF2.out⟩
    case round =>
      obtain ⟨k, C, A7, c7, hk, hCk, rfl, rfl, HO, HX, HF⟩ := hrel
      by_cases hlt : k < l.length
      · have hRR := HR.out.kept HF.out
        obtain ⟨g, off, rfl⟩ := hRR.some_ (by rw [sends_length]; omega)
        obtain ⟨d0, d1⟩ := rdl_cells hRR k hlt
        have hi1 : (0 : Int) ≤ (k : Int) := by omega
        have hi2 : (k : Int) < (l.length : Int) := by omega
        have HK := Lib.hid (fun U (h : Fr0 w U) => rdl_cells (HR.out.kept h) k hlt)
        have HP := Lib.hid (sput_callsT _ b m _ (at_ l k) (sz_ l k) wr (fun k hk e => by rcases e with e | e; exact e; exact own_lt HO.out k hk e) HX.out)
        have hx2 := sh_with { shNew s 1000000000 with L := C } C (at_ l k) (sz_ l k) rfl
        by_cases he : putE { shNew s 1000000000 with L := C } (at_ l k) (sz_ l k) = 0
        · rw [he, hx2 he] at HP
          clear hx2 he hRR
          go_wp2_with (first
            | (go_at_call 11; (with_reducible refine HP.out.mono ?_); rintro e w5 ⟨rfl, hx5, hf5⟩; have HX5 := Lib.hid hx5; have HO5 := Lib.hid (own_kept HO.out hf5 (fun q hq => own_not_sh HO.out HX.out.sh hq)); have HF5 := Lib.hid (HF.out.then hf5 (fun q hq e => by have := HBM.out; rcases e with e | e <;> omega)); clear d0 d1 hx5 hf5; obtain ⟨d0, d1⟩ := HK.out _ HF5.out)
            | (at_builtin; refine wpList_app rfl (.tmp 44) (.tmp 49) _ rfl Try.underlying30 wt_elem (base := w.heap.size + 1) (.slice A7 C.length c7) C.length (sends C) rfl (own_kept0 HO5.out ((Fr.refl _ w5).alloc _)) (fun _ => False) _ 1 1 (sends [(at_ l k, sz_ l k)]) rfl (rd_wt1 _ w5 (at_ l k, sz_ l k) _ (fun h => h)) rfl (sends_one' _) (by simp only [maxLen]; omega) (by omega) (by have := HF5.out.size; have := HBM.out; have := HX5.out.sh.lt; simp; omega) (by simp) ?_; intro v6 w7 hown hg hat; rw [← sends_append] at hown; obtain ⟨g6, c6, hv6, hg6, hgl6⟩ := hown.form (by omega); subst hv6; have HX7 := Lib.hid (sh_push (own_kept0 HO5.out ((Fr.refl _ w5).alloc _)) (HX5.out.kept0 ((Fr.refl _ w5).alloc _)) hg hat); have HF7 := Lib.hid ((HF5.out.alloc _).grown hg (fun q hq e => by have := (own_blk HO5.out e).1; omega)); have HO7 := Lib.hid hown; clear hown hg hat d0 d1))
          go_roundw
          case rel => exact ⟨k + 1, C ++ [(at_ l k, sz_ l k)], some ⟨g6, 0, none⟩, c6, by omega, by simp; omega, by go_num, by simp, by simpa [Hid] using HO7.out, HX7.out, HF7.out⟩
          case measure => simp [intOf]; omega
        · have hxx : putX { shNew s 1000000000 with L := C } (at_ l k) (sz_ l k) = { shNew s 1000000000 with L := C } := by rw [putX, if_neg he]
          rw [hxx] at HP
          have hed : decide (putE { shNew s 1000000000 with L := C } (at_ l k) (sz_ l k) = 0) = false := decide_eq_false he
          have heb : (putE { shNew s 1000000000 with L := C } (at_ l k) (sz_ l k) == 0) = false := by simpa using he
          generalize putE { shNew s 1000000000 with L := C } (at_ l k) (sz_ l k) = er at *
          clear hx2 hxx hRR
          go_wp2_with (go_at_call 11; (with_reducible refine HP.out.mono ?_); rintro e w5 ⟨rfl, hx5, hf5⟩; have HX5 := Lib.hid hx5; have HO5 := Lib.hid (own_kept HO.out hf5 (fun q hq => own_not_sh HO.out HX.out.sh hq)); have HF5 := Lib.hid (HF.out.then hf5 (fun q hq e => by have := HBM.out; rcases e with e | e <;> omega)); clear d0 d1 hx5 hf5)
          go_roundw
          case rel => exact ⟨k + 1, C, A7, c7, by omega, by omega, by go_num, rfl, HO5.out, HX5.out, HF5.out⟩
          case measure => simp [intOf]; omega
      · obtain rfl : k = l.length := by omega
        go_wp2_with fail
        have hC30 : C.length ≤ 30 := by omega
        have HX0 := HX
        have HO0 := HO
        have HFW := HF
        go_loopw [8, 10, 11, 12, 13, 14, 15] (fun s8 s10 s11 _ _ _ _ wr => ∃ (j : Nat) (W : List (Int × Int)) (X : Sh) (A8 : Option Addr) (c8 : Nat), s8 = .slice A8 W.length c8 ∧ s10 = .int .i64 X.B.now ∧ s11 = .int .i64 (j : Int) ∧ j ≤ W.length ∧ Hid (C = W ++ X.L) ∧ Hid (X.s = s ∧ X.B.now ≤ 2000 * (j : Int)) ∧
          Hid (wr.ownsRow (w.heap.size + 1) 33 2 s8 W.length (sends W)) ∧ Hid (wr.ownsRow (w.heap.size + 1) 33 2 (.slice A7 C.length c7) C.length (sends C)) ∧
          Hid (IsShT (fun q => some q = (Value.slice A7 C.length c7).ownBlock ∨ some q = s8.ownBlock) wr b m X) ∧ Hid (∀ q, s8.ownBlock = some q → ¬ (Value.slice A7 C.length c7).ownBlock = some q) ∧ Hid (Fr0 w wr)) (fun _ _ s11 _ _ _ _ _ => C.length + 1 - (intOf s11).toNat)
        case atStart => exact ⟨0, [], { shNew s 1000000000 with L := C }, none, 0, rfl, rfl, rfl, by simp, rfl, ⟨rfl, Int.le_refl _⟩, own_nil _ _ _ _, HO0.out, HX0.out.mono (fun k _ e => by rcases e with e | e; exact .inr e; simp [Value.ownBlock] at e), fun q e => by simp [Value.ownBlock] at e, HFW.out⟩
        case round =>
          obtain ⟨j, W, X, A8, c8, rfl, rfl, rfl, hj, HCW, HXS, HO8, HO7, HX, HNE, HF⟩ := hrel
          have HLE := Lib.hid (show W.length + X.L.length = C.length by have := congrArg List.length HCW.out; simp at this; omega)
          have hc1 : decide ((j : Int) < (C.length : Int) + 1) = true := decide_eq_true (by have := HLE.out; omega)
          have HOK := Lib.hid HX.out.sh.ok
          have HBY := Lib.hid (sbytes_calls b m X wr HX.out.sh)
          have hbz := bytesW_zero HOK.out.pos
          by_cases hL : 0 < X.L.length
          · have hb1 : decide (0 < bytesW X.L) = true := decide_eq_true (hbz.2 hL)
            have hnw : X.B.now ≤ 60000 := by have := HXS.out.2; have := HLE.out; omega
            obtain ⟨hn1, hn2⟩ := next_range HOK.out hL (by omega)
            have hd : decide (nextA X < X.B.now) = false := decide_eq_false (by omega)
            have HGN := Lib.hid (fun X' O er => go_next (X' := X') (O := O) (er := er) HOK.out hL (by omega) (by omega))
            have HNR := Lib.hid (show nextA X ≤ 2000 * ((j : Int) + 1) by have := HXS.out.2; omega)
            have HNX := Lib.hid (fun U (h : IsShT (fun q => some q = (Value.slice A7 C.length c7).ownBlock ∨ some q = (Value.slice A8 W.length c8).ownBlock) U b m X) => snext_some b m X U h.sh hL)
            have HLL := Lib.hid hL
            clear hbz hn1 hn2 hnw hL
            generalize nextA X = at_x at *
            generalize hbw : bytesW X.L = bw at *
            clear hbw
            go_wp2_with (first
              | (go_at_call 15; (with_reducible refine HBY.out.mono ?_); rintro e w5 ⟨rfl, hf5⟩; have HX5 := Lib.hid (HX.out.kept0 hf5))
              | (go_at_call 16; (with_reducible refine (HNX.out _ HX5.out).mono ?_); rintro e w6 ⟨rfl, hf6⟩; have HX6 := Lib.hid (HX5.out.kept0 hf6); have HF6 := Lib.hid (hf5.trans hf6))
              | (go_at_call 12; refine (sgo_any _ b m X at_x w6 HX6.out).mono ?_; rintro e w7 ⟨X', O, er, AO, cO, rfl, hOl, hrO, hgs, hx7, hf7⟩; obtain ⟨rfl, hO, hLX, hs', hnow'⟩ := HGN.out X' O _ hgs; have hOd : decide ((O.length : Int) = 0) = false := decide_eq_false (by omega); have hOb : ((O.length : Int) == 0) = false := (by simpa using hOd); have HX7 := Lib.hid hx7; have HO87 := Lib.hid (own_kept (own_kept0 HO8.out HF6.out) hf7 (fun q hq => own_not_sh (own_kept0 HO8.out HF6.out) HX6.out.sh hq)); have HO77 := Lib.hid (own_kept (own_kept0 HO7.out HF6.out) hf7 (fun q hq => own_not_sh (own_kept0 HO7.out HF6.out) HX6.out.sh hq)); have HF7 := Lib.hid ((HF.out.trans HF6.out).then hf7 (fun q hq e => by have := HBM.out; rcases e with e | e <;> omega)); have HRO := Lib.hid hrO; have HXX := Lib.hid (show X.L = O ++ X'.L ∧ X'.s = X.s ∧ X'.B.now = at_x from ⟨hLX, hs', hnow'⟩); have hO30 : W.length + O.length ≤ 30 := (by have := HLE.out; omega); have HOP := Lib.hid hO; clear hgs hx7 hf7 hrO hLX hs' hnow' hO hf5 hf6)
              | (at_builtin; go_loud (refine wpList_app rfl (.tmp 88) (.tmp 89) _ rfl Try.underlying30 wt_elem (base := w.heap.size + 1) (.slice A8 W.length c8) W.length (sends W) rfl HO87.out (fun k => k < w6.heap.size) AO O.length cO (sends O) rfl HRO.out (sends_len2 O) (sends_one' _) (by simp only [maxLen]; omega) (by omega) (by have := HF7.out.size; have := HBM.out; have := HX7.out.sh.lt; omega) (fun e => by obtain ⟨_, _, e2⟩ := (e ▸ HRO.out).some_ (by rw [sends_length]; have := HOP.out; omega); cases e2) ?_; intro v8 w8 hown hg hat; rw [← sends_append] at hown; obtain ⟨g6, c6, hv6, hg6, hgl6⟩ := hown.form (by have := HOP.out; omega); subst hv6; have HX8 := Lib.hid (sh_push HO87.out HX7.out hg hat); have HF8 := Lib.hid (HF7.out.grown hg (fun q hq e => by have := (own_blk HO87.out e).1; omega)); have HO78 := Lib.hid (own_kept HO77.out ((Fr.refl (fun q => some q = (Value.slice A8 W.length c8).ownBlock) w7).grown hg (fun q _ e => e.symm)) (fun q hq e => HNE.out q e.symm hq)); have HNE8 := Lib.hid (show ∀ q, (Value.slice (some ⟨g6, 0, none⟩) (W.length + O.length) c6).ownBlock = some q → ¬ (Value.slice A7 C.length c7).ownBlock = some q from fun q e1 e2 => by (rcases hat with h | h; exact HNE.out q (h.symm.trans e1) e2; exact own_lt HO77.out q (by have := h.symm.trans e1; simp at this; omega) e2.symm)); have HO88 := Lib.hid hown; clear hown hg hat)))
            go_roundw
            case rel => exact ⟨j + 1, W ++ O, X', some ⟨g6, 0, none⟩, c6, by simp, by rw [HXX.out.2.2], by go_num, by have := HOP.out; simp; omega, by show C = _; rw [HCW.out, HXX.out.1, List.append_assoc], ⟨HXX.out.2.1.trans HXS.out.1, by rw [HXX.out.2.2]; have := HNR.out; omega⟩, by simpa [Hid] using HO88.out, HO78.out, HX8.out, HNE8.out, HF8.out⟩
            case measure => have := HLE.out; have := HLL.out; simp [intOf]; omega
          · have hb0 : bytesW X.L = 0 := by have := HOK.out.pos.range; have : X.L.length = 0 := by omega
                                            have h2 := hbz; omega
            have hXL : X.L = [] := List.length_eq_zero_iff.1 (by omega)
            have HCE := Lib.hid (show C = W by rw [HCW.out, hXL, List.append_nil])
            rw [hb0] at HBY
            have HNX := Lib.hid (fun U (h : IsShT (fun q => some q = (Value.slice A7 C.length c7).ownBlock ∨ some q = (Value.slice A8 W.length c8).ownBlock) U b m X) => snext_none b m X U h.sh hXL)
            have HSM := Lib.hid (fun U (h7 : U.ownsRow (w.heap.size + 1) 33 2 (.slice A7 C.length c7) C.length (sends C)) (h8 : U.ownsRow (w.heap.size + 1) 33 2 (.slice A8 W.length c8) W.length (sends W)) => wsame_calls A7 A8 c7 c8 C W U (own_rd _ h7 (fun _ _ _ h => h)) (own_rd _ h8 (fun _ _ _ h => h)) (by omega) (by have := HLE.out; omega))
            rw [show decide (C = W) = true from decide_eq_true HCE.out] at HSM
            have HB2 := Lib.hid (fun U (h : IsShT (fun q => some q = (Value.slice A7 C.length c7).ownBlock ∨ some q = (Value.slice A8 W.length c8).ownBlock) U b m X) => sbytes_calls b m X U h.sh)
            rw [hb0] at HB2
            clear hbz hb0 hXL hL
            go_wp2_with (first
              | (go_at_call 15; (with_reducible refine HBY.out.mono ?_); rintro e w5 ⟨rfl, hf5⟩; have HX5 := Lib.hid (HX.out.kept0 hf5))
              | (go_at_call 16; (with_reducible refine (HNX.out _ HX5.out).mono ?_); rintro e w6 ⟨rfl, hf6⟩; have HX6 := Lib.hid (HX5.out.kept0 hf6); clear HBY)
              | (go_at_call 15; (with_reducible refine (HB2.out _ HX6.out).mono ?_); rintro e w7 ⟨rfl, hf7⟩; have HF7 := Lib.hid ((hf5.trans hf6).trans hf7))
              | (go_at_call 14; (with_reducible refine (HSM.out _ (own_kept0 HO7.out HF7.out) (own_kept0 HO8.out HF7.out)).mono ?_); rintro e w8 ⟨rfl, hf8⟩)
              | (go_at_call 9; refine (HKN.out _).mono ?_; rintro e w9 ⟨rfl, hf9⟩))
            go_ret
            exact ⟨rfl, (HF.out.trans HF7.out).trans (hf8.trans hf9)⟩
  · have HN := Lib.hid (snew_no s 1000000000 (fun h => hr h.1))
    clear hr
    by_cases h30 : 30 < l.length
    · have h30d : decide ((30 : Int) < (l.length : Int)) = true := decide_eq_true (by omega)
      go_enter Try.func4, Try.ntmps4
      go_wp2_with (first
        | (go_at_call 10; refine (HN.out _).mono ?_; rintro e w2 ⟨rfl, hf2⟩)
        | (go_at_call 9; refine (HKN.out _).mono ?_; rintro e w6 ⟨rfl, hf6⟩))
      go_ret
      exact ⟨rfl, (HF0.out.trans hf2).trans hf6⟩
    · have h30d : decide ((30 : Int) < (l.length : Int)) = false := decide_eq_false (by omega)
      go_enter Try.func4, Try.ntmps4
      go_wp2_with (first
        | (go_at_call 10; refine (HN.out _).mono ?_; rintro e w2 ⟨rfl, hf2⟩)
        | (go_at_call 9; refine (HKN.out _).mono ?_; rintro e w6 ⟨rfl, hf6⟩))
      go_ret
      exact ⟨rfl, (HF0.out.trans hf2).trans hf6⟩
end Go.Proofs.Ytmnadploikcljaa
