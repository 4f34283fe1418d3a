/- Chapter 12: the statements BucketNil and BucketWhen walked. -/
import Derived.Test.YtpelkgoipijiiaaBkJ
set_option linter.unusedVariables false
set_option linter.unusedSimpArgs false
namespace Go.Proofs.Ytpelkgoipijiiaa
open Go.RowKit

abbrev bkZero : Bk := ⟨⟨0, 0, 0, 0, 0⟩, ⟨0, 0, 0⟩, ⟨0, 0, 0⟩, 0⟩
set_option maxRecDepth 10000 in
set_option maxHeartbeats 1000000 in
theorem bnil_walk (t z : Int) (w : World) : Calls Try.prog 7 #[.int .i64 t, .int .i64 z] w (Yes w) := by
  have HZ := Lib.hid (show ∀ U, Fr0 (w.alloc (.cells (bkc bkZero) 60)) U → NoBk U (.pointer (some ⟨w.heap.size, 0, none⟩)) from fun U h => .inr ⟨_, bkZero, rfl, IsBk.kept0 (heap_alloc_new w _) h, rfl⟩)
  have HNN := Lib.hid (show ∀ U : World, NoBk U (.pointer none) from fun U => .inl rfl)
  have HF := Lib.hid ((Fr.refl (fun _ => False) w).alloc (.cells (bkc bkZero) 60))
  have HKN := Lib.hid known12_calls
  go_enter Try.func7, Try.ntmps7
  go_wp2_with fail
  refine (take_no _ t z _ (HNN.out _)).mono ?_
  rintro e w1 ⟨rfl, hf1⟩
  have HG := Lib.hid hf1
  clear hf1
  go_wp2_with fail
  refine (has_no _ t _ (HZ.out _ HG.out)).mono ?_
  rintro e w2 ⟨rfl, hf2⟩
  have HG := Lib.hid (HG.out.trans hf2)
  clear hf2
  go_wp2_with fail
  refine (when_no _ t z _ (HNN.out _)).mono ?_
  rintro e w3 ⟨rfl, hf3⟩
  have HG := Lib.hid (HG.out.trans hf3)
  clear hf3
  go_wp2_with (first
    | (go_at_call 15; refine (spec_no _ _ (HNN.out _)).mono ?_; rintro e w4 ⟨rfl, hf4⟩; have HG4 := Lib.hid (HG.out.trans hf4); clear hf4)
    | (go_at_call 14; refine (now_no _ _ (HZ.out _ HG4.out)).mono ?_; rintro e w5 ⟨rfl, rfl⟩)
    | (go_at_call 17; refine (copy_no _ _ (HZ.out _ HG4.out)).mono ?_; rintro e w5 ⟨rfl, rfl⟩)
    | (go_at_call 19; refine (same_none _ _ _ (HNN.out _) (HZ.out _ HG4.out)).mono ?_; rintro e w5 ⟨rfl, rfl⟩)
    | (go_at_call 9; refine (HKN.out _).mono ?_; rintro e w6 ⟨rfl, hf6⟩))
  go_ret
  exact ⟨rfl, HF.out.trans (HG4.out.trans hf6)⟩

set_option maxRecDepth 100000 in
set_option maxHeartbeats 4000000 in
theorem bwhen_walk (s : Sp) (A : Option Addr) (c : Nat) (l : List (Int × Int)) (z y : Int) (w : World) (hR : Rd (fun _ => False) w A (sends l)) (hl : l.length ≤ 140737488351232) (hy : -9223372036854775808 ≤ y ∧ y ≤ 9223372036854775807) :
    Calls Try.prog 4 #[spv s, .slice A l.length c, .agg #[.int .i64 z, .int .i64 y]] w (Yes w) := by
  have HR := Lib.hid hR
  clear hR
  have HKN := Lib.hid known12_calls
  have HBS := Lib.hid (blk_alloc (heap_alloc_new w (.cells (spc s) 23)) (.cells #[.int .i64 z, .int .i64 y] 42))
  have HBX := Lib.hid (show ((w.alloc (.cells (spc s) 23)).alloc (.cells #[.int .i64 z, .int .i64 y] 42)).heap[w.heap.size + 1]? = some (.cells #[.int .i64 z, .int .i64 y] 42 (0, 0)) from heap_alloc_nn (by simp))
  have HF0 := Lib.hid (((Fr.refl (fun _ => False) w).alloc (.cells (spc s) 23)).alloc (.cells #[.int .i64 z, .int .i64 y] 42))
  have hmx : Try.prog.follows .mixedOrders = true := by kernel_rfl
  by_cases hr : s.Right
  · have HN := Lib.hid (new_yes s hr)
    go_enter Try.func4, Try.ntmps4
    go_wp2_with fail
    refine (HN.out _).mono ?_
    rintro e w2 ⟨⟨g, rfl, hg, hb2⟩, hf2⟩
    have HF := Lib.hid (HF0.out.trans hf2)
    have HG := Lib.hid (show w.heap.size + 2 ≤ g by simp at hg; omega)
    have HB := Lib.hid hb2
    have HX := Lib.hid (hf2.blk HBX.out (fun h => h))
    clear hf2 hg hb2 HN HBS HBX HF0
    by_cases h40 : 40 < l.length
    · go_wp2_with (go_at_call 9; refine (HKN.out _).mono ?_; rintro e w6 ⟨rfl, hf6⟩)
      go_ret
      exact ⟨rfl, HF.out.trans hf6⟩
    · have HOF := Lib.hid (bkOf_new hr)
      go_wp2_with fail
      go_loopw [9] (fun i wr => ∃ (k : Nat) (L : List (Int × Int)) (B : Bk), k ≤ l.length ∧ i = .int .i64 (k : Int) ∧ Hid (IsBk wr g B) ∧ Hid (BkOf s L B) ∧ Hid (Fr (· = g) w2 wr)) (fun i _ => l.length - (intOf i).toNat)
      case atStart => exact ⟨0, [], bkNew s, by omega, rfl, HB.out, HOF.out, Fr.refl _ _⟩
      case round =>
        obtain ⟨k, L, B, hk, rfl, HBK, HOK, HFR⟩ := hrel
        by_cases hlt : k < l.length
        · have hRW := HR.out.kept (fr_new HF.out (by have := HG.out; omega) HFR.out)
          obtain ⟨p, off, rfl⟩ := hRW.some_ (by rw [sends_length]; omega)
          obtain ⟨c0, c1⟩ := rdl_cells hRW k hlt
          have hi1 : (0 : Int) ≤ (k : Int) := by omega
          have hi2 : (k : Int) < (l.length : Int) := by omega
          have HTK := Lib.hid (fun w' hb => takeOf_calls HOK.out g (at_ l k) (sz_ l k) w' hb)
          have HBD := Lib.hid (show IsBk wr.drew g B from HBK.out)
          have HO2 := Lib.hid (HOK.out.tk (at_ l k) (sz_ l k))
          clear hRW
          go_wp2_with fail
          refine wp_region_class (· = wr.drew) 11 hmx (by kernel_rfl) rfl ?_
          simp only [List.take_succ_cons, List.take_zero, List.drop_succ_cons, List.drop_zero]
          repeat (go_big_quiet_step (fail))
          refine wpQuiet_nil ?_
          rintro _ rfl
          go_wp2_with (go_at_call 12; refine (HTK.out _ HBD.out).mono ?_; rintro e w3 ⟨rfl, hb3, hf3⟩)
          have HB3 := Lib.hid hb3
          have HF3 := Lib.hid (HFR.out.trans ((Fr.refl (· = g) wr).drew.trans hf3))
          clear hb3 hf3
          go_roundw
          case rel => exact ⟨k + 1, _, _, by omega, by go_num, HB3.out, HO2.out, HF3.out⟩
          case measure => simp [intOf]; omega
        · have HFW := Lib.hid (fr_new HF.out (by have := HG.out; omega) HFR.out)
          have hx := HFR.out.blk HX.out (fun e : w.heap.size + 1 = g => by have := HG.out; omega)
          have HX3 := Lib.hid hx
          have x0 : wr.cell? ⟨w.heap.size + 1, 0, none⟩ = some (.int .i64 z) := cell_of_blk hx 0
          have x1 : wr.cell? ⟨w.heap.size + 1, 1, none⟩ = some (.int .i64 y) := cell_of_blk hx 1
          have HNW := Lib.hid (now_calls g B wr HBK.out HOK.out.rate)
          have hmay : B.may B.now := ⟨Int.le_refl _, HOK.out.now.2⟩
          have hnn := HOK.out.now
          have hsp := HOK.out.spec
          have HWN := Lib.hid (fun w' hb => whenOf_calls HOK.out g B.now z w' hb)
          have hwh : whA B B.now z = if s.least ≤ z ∧ z ≤ s.most then (B.whenT B.now z, 0) else (0, 220) := by unfold whA; rw [if_pos hmay, hsp]
          clear hx hsp
          by_cases hz : s.least ≤ z ∧ z ≤ s.most
          · rw [hwh, if_pos hz] at HWN
            have hrg := whenT_range HOK.out hmay hz
            have HFT := Lib.hid (fun u hu => HOK.out.when hmay hz (u := u) hu)
            clear hwh
            generalize hT : B.whenT B.now z = T at *
            have HTT := Lib.hid hT
            clear hT
            by_cases hbig : 2147483647 < T
            · go_wp2_with (first
                | (go_at_call 14; refine HNW.out.mono ?_; rintro e w3 ⟨rfl, rfl⟩)
                | (go_at_call 16; refine (HWN.out _ HBK.out).mono ?_; rintro e w3 ⟨rfl, hf3⟩; have HFW3 := Lib.hid (HFW.out.trans hf3); clear hf3)
                | (go_at_call 9; refine (HKN.out _).mono ?_; rintro e w6 ⟨rfl, hf6⟩))
              go_ret
              exact ⟨rfl, HFW3.out.trans hf6⟩
            · have hokT : decide (okTk s L B T z) = true := decide_eq_true ⟨⟨by omega, by omega⟩, ((HOK.out.take ⟨by omega, by omega⟩ z).2).2 ((HFT.out T (by omega)).2 (Int.le_refl _))⟩
              have hakT : askA B T = 0 := if_pos ⟨by omega, by omega⟩
              have HTT2 := Lib.hid (fun w' hb => takeOf_calls HOK.out g T z w' hb)
              rw [hokT, hakT] at HTT2
              clear hokT hakT
              by_cases hy2 : 0 < y ∧ y ≤ T - B.now
              · obtain ⟨hy3, hy4⟩ := hy2
                have hokE : ∀ w' b2, IsBk w' b2 B → Calls Try.prog 12 #[.pointer (some ⟨b2, 0, none⟩), .int .i64 (T - y), .int .i64 z] w' fun e w'' => e = .returned (.tuple #[.bool false, .int .i64 0]) ∧ Fr (· = b2) w' w'' := fun w' b2 hb => by
                  have hd : decide (okTk s L B (T - y) z) = false := decide_eq_false (fun h => by
                    have h2 := ((HOK.out.take h.1 z).2).1 h.2
                    have := (HFT.out (T - y) (by omega)).1 h2
                    omega)
                  have ha : askA B (T - y) = 0 := if_pos ⟨by omega, by omega⟩
                  have := takeOf_calls HOK.out b2 (T - y) z w' hb
                  rw [hd, ha] at this
                  exact this.mono fun e w'' ⟨h1, _, h3⟩ => ⟨h1, h3⟩
                have HKE := Lib.hid hokE
                clear hokE
                go_upto_region 13 with (first
                  | (go_at_call 14; refine HNW.out.mono ?_; rintro e w3 ⟨rfl, rfl⟩)
                  | (go_at_call 16; refine (HWN.out _ HBK.out).mono ?_; rintro e w3 ⟨rfl, hf3⟩; have HFW3 := Lib.hid (HFW.out.trans hf3); have HB3 := Lib.hid (HBK.out.kept0 hf3); have hx3 := hf3.blk HX3.out (fun h => h); clear x0 x1; have x0 : w3.cell? ⟨w.heap.size + 1, 0, none⟩ = some (.int .i64 z) := cell_of_blk hx3 0; have x1 : w3.cell? ⟨w.heap.size + 1, 1, none⟩ = some (.int .i64 y) := cell_of_blk hx3 1; have HX4 := Lib.hid hx3; clear hf3 hx3))
                have hwe : IntKind.i64.wrap (T - y) = T - y := by rw [IntKind.wrap_i64]; omega
                have HK : ∀ U, Fr0 w3 U → (U.cell? ⟨w.heap.size + 1, 0, none⟩ = some (.int .i64 z) ∧ U.cell? ⟨w.heap.size + 1, 1, none⟩ = some (.int .i64 y)) := fun U h => ⟨h.cell x0 (fun h => h), h.cell x1 (fun h => h)⟩
                have HCP := Lib.hid (fun U (h : Fr0 w3 U) => copy_calls g B U (HB3.out.kept0 h) HOK.out.rate)
                have HD := Lib.hid ((Fr.refl (fun _ => False) w3).drew)
                have HNB := Lib.hid (heap_alloc_new w3.drew (.cells (bkc B) 60))
                clear x0 x1
                go_region_held3 (fun U => U.cell? ⟨w.heap.size + 1, 0, none⟩ = some (.int .i64 z) ∧ U.cell? ⟨w.heap.size + 1, 1, none⟩ = some (.int .i64 y))
                  (exact HK _ (by repeat (first | exact Fr.refl _ _ | refine Fr.drew ?_ | refine Fr.alloc ?_ _ | assumption)))
                  (first
                    | (go_at_call 17; refine (HCP.out _ HD.out).mono ?_; rintro e wA ⟨rfl, rfl⟩)
                    | (go_at_call 12; refine (HKE.out _ _ HNB.out).mono ?_; rintro e wB ⟨rfl, hfB⟩; have hfC := fr_new ((Fr.refl (fun _ => False) w3).drew.alloc (.cells (bkc B) 60)) (Nat.le_refl w3.heap.size) hfB; clear hfB))
                all_goals
                  have HFC := Lib.hid hfC
                  have HB4 := Lib.hid (HB3.out.kept0 hfC)
                  have hx4 := hfC.blk HX4.out (fun h => h)
                  have x0 : wB.cell? ⟨w.heap.size + 1, 0, none⟩ = some (.int .i64 z) := cell_of_blk hx4 0
                  clear hfC hx4
                  go_wp2_with (first
                    | (go_at_call 12; refine (HTT2.out _ HB4.out).mono ?_; rintro e w4 ⟨rfl, _, hf4⟩; have HFW4 := Lib.hid (fr_new (HFW3.out.trans HFC.out) (by have := HG.out; omega) hf4); clear hf4)
                    | (go_at_call 9; refine (HKN.out _).mono ?_; rintro e w6 ⟨rfl, hf6⟩))
                  go_ret
                  exact ⟨rfl, HFW4.out.trans hf6⟩
              · have hy5 : y ≤ 0 ∨ (0 < y ∧ T - B.now < y) := by omega
                clear hy2
                rcases hy5 with hy5 | ⟨hy5, hy6⟩
                all_goals
                  go_wp2_with (first
                    | (go_at_call 14; refine HNW.out.mono ?_; rintro e w3 ⟨rfl, rfl⟩)
                    | (go_at_call 16; refine (HWN.out _ HBK.out).mono ?_; rintro e w3 ⟨rfl, hf3⟩; have HFW3 := Lib.hid (HFW.out.trans hf3); have HB3 := Lib.hid (HBK.out.kept0 hf3); have hx3 := hf3.blk HX3.out (fun h => h); clear x0 x1; have x0 : w3.cell? ⟨w.heap.size + 1, 0, none⟩ = some (.int .i64 z) := cell_of_blk hx3 0; have x1 : w3.cell? ⟨w.heap.size + 1, 1, none⟩ = some (.int .i64 y) := cell_of_blk hx3 1; clear hf3 hx3)
                    | (go_at_call 12; refine (HTT2.out _ HB3.out).mono ?_; rintro e w4 ⟨rfl, _, hf4⟩; have HFW4 := Lib.hid (fr_new HFW3.out (by have := HG.out; omega) hf4); clear hf4)
                    | (go_at_call 9; refine (HKN.out _).mono ?_; rintro e w6 ⟨rfl, hf6⟩))
                  go_ret
                  exact ⟨rfl, HFW4.out.trans hf6⟩
          · rw [hwh, if_neg hz] at HWN
            clear hwh hz
            go_wp2_with (first
              | (go_at_call 14; refine HNW.out.mono ?_; rintro e w3 ⟨rfl, rfl⟩)
              | (go_at_call 16; refine (HWN.out _ HBK.out).mono ?_; rintro e w3 ⟨rfl, hf3⟩; have HFW3 := Lib.hid (HFW.out.trans hf3); clear hf3)
              | (go_at_call 9; refine (HKN.out _).mono ?_; rintro e w6 ⟨rfl, hf6⟩))
            go_ret
            exact ⟨rfl, HFW3.out.trans hf6⟩
  · have HN := Lib.hid (new_no s hr)
    go_enter Try.func4, Try.ntmps4
    go_wp2_with fail
    refine (HN.out _).mono ?_
    rintro e w2 ⟨rfl, hf2⟩
    have HF := Lib.hid (HF0.out.trans hf2)
    clear hf2
    by_cases h40 : 40 < l.length
    all_goals
      go_wp2_with (go_at_call 9; refine (HKN.out _).mono ?_; rintro e w6 ⟨rfl, hf6⟩)
      go_ret
      exact ⟨rfl, HF.out.trans hf6⟩
end Go.Proofs.Ytpelkgoipijiiaa
