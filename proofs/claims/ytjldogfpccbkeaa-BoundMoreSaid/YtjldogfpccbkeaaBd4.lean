/- Chapter 05: Ticks, Room; the document's Bound, Ticks, Room. -/
import Derived.Test.YtjldogfpccbkeaaBd3
import Derived.Test.YtjldogfpccbkeaaM7
import Derived.Test.YtjldogfpccbkeaaRc4
set_option linter.unusedVariables false
set_option linter.unusedSimpArgs false
namespace Go.Proofs.Ytjldogfpccbkeaa
open Go.RowKit
attribute [local go_sem] Oper.semAt_some

abbrev tks (s : Sp) (r c d : Int) : Int := bT s.peak s.rate s.burst s.most r c d
theorem bqs_ok {s : Sp} {r c d : Int} (h : MayP s r c d) : RtOk (bqs s r c d).num ((bqs s r c d).den : Int) ∧ I64r (bqs s r c d).num ∧ I64r ((bqs s r c d).den : Int) := rR_self (bq_rR h.ok)
set_option maxHeartbeats 2000000 in
theorem bTicks_yes (s : Sp) (r c d : Int) (h : MayP s r c d) (w : World) :
    Calls Try.prog 9 #[spv s, .int .i64 r, rtv c d] w fun e w' => e = .returned (.tuple #[.int .i64 (tks s r c d), .int .i64 0]) ∧ Fr0 w w' := by
  have HM := Lib.hid (fun U => bBound_yes s r c d h U)
  obtain ⟨g1, g2, g3⟩ := bqs_ok h
  have HC := Lib.hid (fun U => rceil_calls (bqs s r c d).num ((bqs s r c d).den : Int) g2 g3 U)
  rw [show ceilN (bqs s r c d).num ((bqs s r c d).den : Int) = tks s r c d from if_pos g1, show rchk (bqs s r c d).num ((bqs s r c d).den : Int) = 0 from if_pos g1] at HC
  have e1 := blk_alloc (heap_alloc_new w (.cells (spc s) 23)) (.cells (rtc c d) 25)
  have e2 := heap_an (w := w.alloc (.cells (spc s) 23)) (k := w.heap.size + 1) (.cells (rtc c d) 25) (by simp)
  have HF := Lib.hid (((Fr.refl (fun _ => False) w).alloc (.cells (spc s) 23)).alloc (.cells (rtc c d) 25))
  obtain ⟨s0, s1, s2, s3, s4⟩ := sp_cells e1
  obtain ⟨t0, t1, _, _⟩ := two_facts e2
  clear e1 e2 h g1 g2 g3
  generalize (bqs s r c d).num = n at *
  generalize ((bqs s r c d).den : Int) = k at *
  generalize tks s r c d = t at *
  go_enter Try.func9, Try.ntmps9
  go_wp2_with (first
    | (go_at_call 8; (with_reducible refine (HM.out _).mono ?_); rintro _ w2 ⟨rfl, hf2⟩; have HF2 := Lib.hid ((HF.out.trans hf2).alloc (.cells (rtc n k) 27)); obtain ⟨u0, u1, _, _⟩ := two_facts (heap_alloc_new w2 (.cells (rtc n k) 27)))
    | (go_at_call 33; (with_reducible refine (HC.out _).mono ?_); rintro _ w3 ⟨rfl, hf3⟩)
    | fail)
  go_ret2
  exact ⟨rfl, HF2.out.trans hf3⟩
theorem bTicks_no (s : Sp) (r c d : Int) (h : ¬ MayP s r c d) (w : World) :
    Calls Try.prog 9 #[spv s, .int .i64 r, rtv c d] w fun e w' => e = .returned (.tuple #[.int .i64 0, .int .i64 2]) ∧ Fr0 w w' := by
  have HM := Lib.hid (fun U => bBound_no s r c d h U)
  have e1 := blk_alloc (heap_alloc_new w (.cells (spc s) 23)) (.cells (rtc c d) 25)
  have e2 := heap_an (w := w.alloc (.cells (spc s) 23)) (k := w.heap.size + 1) (.cells (rtc c d) 25) (by simp)
  have HF := Lib.hid (((Fr.refl (fun _ => False) w).alloc (.cells (spc s) 23)).alloc (.cells (rtc c d) 25))
  obtain ⟨s0, s1, s2, s3, s4⟩ := sp_cells e1
  obtain ⟨t0, t1, _, _⟩ := two_facts e2
  clear e1 e2 h
  go_enter Try.func9, Try.ntmps9
  go_wp2_with (first
    | (go_at_call 8; (with_reducible refine (HM.out _).mono ?_); rintro _ w2 ⟨rfl, hf2⟩; have HF2 := Lib.hid ((HF.out.trans hf2).alloc (.cells (rtc 0 0) 27)))
    | fail)
  go_ret2
  exact ⟨rfl, HF2.out⟩
def roomV (s : Sp) (r c d : Int) : Int := s.burst + s.rate * tks s r c d
theorem room_range {s : Sp} {r c d : Int} (h : MayP s r c d) : 0 ≤ s.rate * tks s r c d ∧ s.rate * tks s r c d ≤ 30000000000000 ∧ 0 ≤ s.burst ∧ s.burst ≤ 10000000 := by
  have ht : 0 ≤ tks s r c d ∧ tks s r c d ≤ 30000000 := bT_range h.ok
  obtain ⟨⟨a1, a2, a3, a4, a5, a6, a7, a8⟩, _, _, _⟩ := h
  have := mul_range (a := s.rate) (b := tks s r c d) (x := 1000000) (y := 30000000) (by omega) (by omega) (by omega) (by omega)
  omega
set_option maxHeartbeats 2000000 in
theorem bRoom_yes (s : Sp) (r c d : Int) (h : MayP s r c d) (w : World) :
    Calls Try.prog 10 #[spv s, .int .i64 r, rtv c d] w fun e w' => e = .returned (.tuple #[.int .i64 (if 1000000000 < roomV s r c d then 0 else roomV s r c d), .int .i64 (if 1000000000 < roomV s r c d then 3 else 0)]) ∧ Fr0 w w' := by
  have HM := Lib.hid (fun U => bTicks_yes s r c d h U)
  have hr := room_range h
  have gw1 : wrap64 (s.rate * tks s r c d) = s.rate * tks s r c d := w64_id (by omega) (by omega)
  have gw2 : wrap64 (s.burst + s.rate * tks s r c d) = s.burst + s.rate * tks s r c d := w64_id (by omega) (by omega)
  have e1 := blk_alloc (heap_alloc_new w (.cells (spc s) 23)) (.cells (rtc c d) 25)
  have HA := Lib.hid e1
  have e2 := heap_an (w := w.alloc (.cells (spc s) 23)) (k := w.heap.size + 1) (.cells (rtc c d) 25) (by simp)
  have HF := Lib.hid (((Fr.refl (fun _ => False) w).alloc (.cells (spc s) 23)).alloc (.cells (rtc c d) 25))
  obtain ⟨s0, s1, s2, s3, s4⟩ := sp_cells e1
  obtain ⟨t0, t1, _, _⟩ := two_facts e2
  unfold roomV
  clear e1 e2 h hr
  generalize tks s r c d = t at *
  by_cases hb : 1000000000 < s.burst + s.rate * t
  · rw [if_pos hb, if_pos hb]
    have hd : decide (1000000000 < s.burst + s.rate * t) = true := decide_eq_true hb
    clear hb
    go_enter Try.func10, Try.ntmps10
    go_wp2_with (first
      | (go_at_call 9; (with_reducible refine (HM.out _).mono ?_); rintro _ w2 ⟨rfl, hf2⟩; obtain ⟨u0, u1, u2, u3, u4⟩ := sp_cells (hf2.blk HA.out (fun h => h)))
      | fail)
    go_ret2
    exact ⟨rfl, HF.out.trans hf2⟩
  · rw [if_neg hb, if_neg hb]
    have hd : decide (1000000000 < s.burst + s.rate * t) = false := decide_eq_false hb
    clear hb
    go_enter Try.func10, Try.ntmps10
    go_wp2_with (first
      | (go_at_call 9; (with_reducible refine (HM.out _).mono ?_); rintro _ w2 ⟨rfl, hf2⟩; obtain ⟨u0, u1, u2, u3, u4⟩ := sp_cells (hf2.blk HA.out (fun h => h)))
      | fail)
    go_ret2
    exact ⟨by first | rfl | (simp only [gw1, gw2] <;> rfl), HF.out.trans hf2⟩
theorem bRoom_no (s : Sp) (r c d : Int) (h : ¬ MayP s r c d) (w : World) :
    Calls Try.prog 10 #[spv s, .int .i64 r, rtv c d] w fun e w' => e = .returned (.tuple #[.int .i64 0, .int .i64 2]) ∧ Fr0 w w' := by
  have HM := Lib.hid (fun U => bTicks_no s r c d h U)
  have e1 := blk_alloc (heap_alloc_new w (.cells (spc s) 23)) (.cells (rtc c d) 25)
  have HA := Lib.hid e1
  have e2 := heap_an (w := w.alloc (.cells (spc s) 23)) (k := w.heap.size + 1) (.cells (rtc c d) 25) (by simp)
  have HF := Lib.hid (((Fr.refl (fun _ => False) w).alloc (.cells (spc s) 23)).alloc (.cells (rtc c d) 25))
  obtain ⟨s0, s1, s2, s3, s4⟩ := sp_cells e1
  obtain ⟨t0, t1, _, _⟩ := two_facts e2
  clear e1 e2 h
  go_enter Try.func10, Try.ntmps10
  go_wp2_with (first
    | (go_at_call 9; (with_reducible refine (HM.out _).mono ?_); rintro _ w2 ⟨rfl, hf2⟩; obtain ⟨u0, u1, u2, u3, u4⟩ := sp_cells (hf2.blk HA.out (fun h => h)))
    | fail)
  go_ret2
  exact ⟨rfl, HF.out.trans hf2⟩
set_option maxHeartbeats 4000000 in
set_option maxRecDepth 20000 in
theorem dBound_calls (s : Sp) (r c d : Int) (h : MayP s r c d) (w : World) :
    Calls Try.prog 16 #[spv s, .int .i64 r, rtv c d] w fun e w' => e = .returned (rtv (bqs s r c d).num ((bqs s r c d).den : Int)) ∧ Fr0 w w' := by
  have hok := h.ok
  have hbq := bq_rR hok
  have hnum := bNum_range hok
  have hden := bDen_pos hok
  have HMK := Lib.hid (fun U => make_calls (bNum s.peak s.rate s.burst s.most r c d) (bDen s.peak s.rate r) ⟨by omega, by omega⟩ ⟨by omega, by omega⟩ U)
  rw [makeR_rq (by omega), show rR (rq (bNum s.peak s.rate s.burst s.most r c d) (bDen s.peak s.rate r)) = _ from hbq] at HMK
  unfold tupR at HMK
  change Hid (∀ U, Calls Try.prog _ _ U fun e w' => e = .returned (.tuple #[rtv (bqs s r c d).num ((bqs s r c d).den : Int), .int .i64 0]) ∧ Fr0 U w') at HMK
  have e1 := blk_alloc (blk_alloc (heap_alloc_new w (.cells (spc s) 23)) (.cells (rtc c d) 25)) (.cells (rtc 0 0) 27)
  have e2 := blk_alloc (heap_an (w := w.alloc (.cells (spc s) 23)) (k := w.heap.size + 1) (.cells (rtc c d) 25) (by simp)) (.cells (rtc 0 0) 27)
  have e3 := heap_an (w := (w.alloc (.cells (spc s) 23)).alloc (.cells (rtc c d) 25)) (k := w.heap.size + 1 + 1) (.cells (rtc 0 0) 27) (by simp)
  have HX := Lib.hid e3
  have HF := Lib.hid ((((Fr.refl (fun _ => False) w).alloc (.cells (spc s) 23)).alloc (.cells (rtc c d) 25)).alloc (.cells (rtc 0 0) 27))
  obtain ⟨s0, s1, s2, s3, s4⟩ := sp_cells e1
  obtain ⟨t0, t1, _, _⟩ := two_facts e2
  clear e1 e2 e3 h
  generalize (bqs s r c d).num = n at *
  generalize ((bqs s r c d).den : Int) = k at *
  obtain ⟨p, q, b, m, l⟩ := s
  simp only at *
  unfold bNum at HMK hnum
  unfold bDen at HMK hden hnum
  obtain ⟨h1, h2, h3, h4, h5, h6, h7, h8, h9, h10, h11, h12, h13⟩ := hok
  by_cases hp : p ≤ r
  · rw [if_pos hp, if_pos hp] at HMK
    rw [if_pos hp, if_pos hp] at hnum
    have hpd : decide (p ≤ r) = true := decide_eq_true hp
    have k0 := mul_range (a := d) (b := r) (x := 1000000) (y := 1000000) (by omega) (by omega) (by omega) (by omega)
    have g1 : wrap64 (m + c) = m + c := w64_id (by omega) (by omega)
    have g2 : wrap64 (d * r) = d * r := w64_id (by omega) (by omega)
    have g3 : wrap64 (m + c + d * r) = m + c + d * r := w64_id (by omega) (by omega)
    clear hnum hden hbq hp k0 h1 h2 h3 h4 h5 h6 h7 h8 h9 h10 h11 h12 h13
    go_enter Try.func16, Try.ntmps16
    go_wp2_with (first
      | (go_at_call 37; (with_reducible refine (HMK.out _).mono ?_); rintro _ w2 ⟨rfl, hf2⟩; have hx2 := blk_alloc (hf2.blk HX.out (fun h => h)) (.cells (rtc n k) 27); have HF2 := Lib.hid ((HF.out.trans hf2).alloc (.cells (rtc n k) 27)); obtain ⟨u0, u1, _, _⟩ := two_facts (heap_alloc_new w2 (.cells (rtc n k) 27)); obtain ⟨_, _, f0, f1⟩ := two_facts hx2)
      | fail)
    exact bodyPost_ret (results_cell_row rfl _ _ (w.heap.size + 1 + 1) _ _ _ _ rfl (two_set hx2 _ _) Try.underlying27 rfl (by kernel_rfl)) rfl ⟨rfl, two_fr HF2.out (by omega) _ _⟩
  · rw [if_neg hp, if_neg hp] at HMK
    rw [if_neg hp, if_neg hp] at hnum
    rw [if_neg hp] at hden
    have hpd : decide (p ≤ r) = false := decide_eq_false hp
    have k1 := mul_range (a := b - m) (b := p - r) (x := 10000000) (y := 1000000) (by omega) (by omega) (by omega) (by omega)
    have k2 := mul_range (a := m + c) (b := p - q) (x := 10002000) (y := 1000000) (by omega) (by omega) (by omega) (by omega)
    have k3 := mul_range (a := d) (b := r * (p - q)) (x := 1000000) (y := 1000000000000) (by omega) (by omega) (by omega) (by omega)
    have g1 : wrap64 (m + c) = m + c := w64_id (by omega) (by omega)
    have g2 : wrap64 (p - q) = p - q := w64_id (by omega) (by omega)
    have g3 : wrap64 (r * (p - q)) = r * (p - q) := w64_id (by omega) (by omega)
    have g4 : wrap64 ((m + c) * (p - q)) = (m + c) * (p - q) := w64_id (by omega) (by omega)
    have g5 : wrap64 (d * (r * (p - q))) = d * (r * (p - q)) := w64_id (by omega) (by omega)
    have g6 : wrap64 ((m + c) * (p - q) + d * (r * (p - q))) = (m + c) * (p - q) + d * (r * (p - q)) := w64_id (by omega) (by omega)
    have g7 : wrap64 (b - m) = b - m := w64_id (by omega) (by omega)
    have g8 : wrap64 (p - r) = p - r := w64_id (by omega) (by omega)
    have g9 : wrap64 ((b - m) * (p - r)) = (b - m) * (p - r) := w64_id (by omega) (by omega)
    have g10 : wrap64 ((m + c) * (p - q) + d * (r * (p - q)) + (b - m) * (p - r)) = (m + c) * (p - q) + d * (r * (p - q)) + (b - m) * (p - r) := w64_id (by omega) (by omega)
    clear hnum hden hbq hp k1 k2 k3 h1 h2 h3 h4 h5 h6 h7 h8 h9 h10 h11 h12 h13
    go_enter Try.func16, Try.ntmps16
    go_wp2_with (first
      | (go_at_call 37; (with_reducible refine (HMK.out _).mono ?_); rintro _ w2 ⟨rfl, hf2⟩; have hx2 := blk_alloc (hf2.blk HX.out (fun h => h)) (.cells (rtc n k) 27); have HF2 := Lib.hid ((HF.out.trans hf2).alloc (.cells (rtc n k) 27)); obtain ⟨u0, u1, _, _⟩ := two_facts (heap_alloc_new w2 (.cells (rtc n k) 27)); obtain ⟨_, _, f0, f1⟩ := two_facts hx2)
      | fail)
    exact bodyPost_ret (results_cell_row rfl _ _ (w.heap.size + 1 + 1) _ _ _ _ rfl (two_set hx2 _ _) Try.underlying27 rfl (by kernel_rfl)) rfl ⟨rfl, two_fr HF2.out (by omega) _ _⟩
theorem dTicks_calls (s : Sp) (r c d : Int) (h : MayP s r c d) (w : World) :
    Calls Try.prog 17 #[spv s, .int .i64 r, rtv c d] w fun e w' => e = .returned (.int .i64 (tks s r c d)) ∧ Fr0 w w' := by
  have HM := Lib.hid (fun U => dBound_calls s r c d h U)
  obtain ⟨g1, g2, g3⟩ := bqs_ok h
  have HC := Lib.hid (fun U => dceil_calls (bqs s r c d).num ((bqs s r c d).den : Int) g1 g2 g3 U)
  change Hid (∀ U, Calls Try.prog _ _ U fun e w' => e = .returned (.int .i64 (tks s r c d)) ∧ Fr0 U w') at HC
  have e1 := blk_alloc (heap_alloc_new w (.cells (spc s) 23)) (.cells (rtc c d) 25)
  have e2 := heap_an (w := w.alloc (.cells (spc s) 23)) (k := w.heap.size + 1) (.cells (rtc c d) 25) (by simp)
  have HF := Lib.hid (((Fr.refl (fun _ => False) w).alloc (.cells (spc s) 23)).alloc (.cells (rtc c d) 25))
  obtain ⟨s0, s1, s2, s3, s4⟩ := sp_cells e1
  obtain ⟨t0, t1, _, _⟩ := two_facts e2
  clear e1 e2 h g1 g2 g3
  generalize (bqs s r c d).num = n at *
  generalize ((bqs s r c d).den : Int) = k at *
  generalize tks s r c d = t at *
  go_enter Try.func17, Try.ntmps17
  go_wp2_with (first
    | (go_at_call 16; (with_reducible refine (HM.out _).mono ?_); rintro _ w2 ⟨rfl, hf2⟩)
    | (go_at_call 38; (with_reducible refine (HC.out _).mono ?_); rintro _ w3 ⟨rfl, hf3⟩)
    | fail)
  go_ret
  exact ⟨rfl, (HF.out.trans hf2).trans hf3⟩
set_option maxHeartbeats 2000000 in
theorem dRoom_calls (s : Sp) (r c d : Int) (h : MayP s r c d) (w : World) :
    Calls Try.prog 15 #[spv s, .int .i64 r, rtv c d] w fun e w' => e = .returned (.tuple #[.int .i64 (if 1000000000 < roomV s r c d then 0 else roomV s r c d), .bool (!decide (1000000000 < roomV s r c d))]) ∧ Fr0 w w' := by
  have hmx : Try.prog.follows .mixedOrders = true := by kernel_rfl
  have HM := Lib.hid (fun U => dTicks_calls s r c d h U)
  have hr := room_range h
  have gw1 : wrap64 (s.rate * tks s r c d) = s.rate * tks s r c d := w64_id (by omega) (by omega)
  have gw2 : wrap64 (s.burst + s.rate * tks s r c d) = s.burst + s.rate * tks s r c d := w64_id (by omega) (by omega)
  have e1 := blk_alloc (heap_alloc_new w (.cells (spc s) 23)) (.cells (rtc c d) 25)
  have e2 := heap_an (w := w.alloc (.cells (spc s) 23)) (k := w.heap.size + 1) (.cells (rtc c d) 25) (by simp)
  have HF := Lib.hid (((Fr.refl (fun _ => False) w).alloc (.cells (spc s) 23)).alloc (.cells (rtc c d) 25))
  obtain ⟨s0, s1, s2, s3, s4⟩ := sp_cells e1
  obtain ⟨t0, t1, _, _⟩ := two_facts e2
  unfold roomV
  clear e1 e2 h hr
  generalize tks s r c d = t at *
  have hd : ∃ z, decide (1000000000 < s.burst + s.rate * t) = z := ⟨_, rfl⟩
  obtain ⟨z, hd⟩ := hd
  have he : (if 1000000000 < s.burst + s.rate * t then (0 : Int) else s.burst + s.rate * t) = if z then 0 else s.burst + s.rate * t := by rw [← hd]; simp
  rw [he, hd]
  clear he
  go_enter Try.func15, Try.ntmps15
  go_upto_region 1 with fail
  generalize (w.alloc (.cells (spc s) 23)).alloc (.cells (rtc c d) 25) = W at *
  have r0 := cg_cell (W := W) s0
  have r1 := cg_cell (W := W) s1
  have r2 := cg_cell (W := W) s2
  have r3 := cg_cell (W := W) s3
  have r4 := cg_cell (W := W) s4
  have r5 := cg_cell (W := W) t0
  have r6 := cg_cell (W := W) t1
  clear s0 s1 s2 s3 s4 t0 t1
  refine wp_region_cg hmx (by kernel_rfl) ?_
  repeat (first
    | go_big_quiet_step (fail)
    | go_big_quiet_step ((go_at_call 17; with_reducible exact quiet_cg (HM.out _))))
  refine wpQuiet_nil ?_
  intro w6 hf6
  rcases z with _ | _
  · go_wp2_with fail
    go_ret2
    exact ⟨by first | rfl | (simp only [gw1, gw2] <;> rfl) | (simp [gw1, gw2]), HF.out.trans hf6⟩
  · go_wp2_with fail
    go_ret2
    exact ⟨by first | rfl | (simp only [gw1, gw2] <;> rfl) | (simp [gw1, gw2]), HF.out.trans hf6⟩
end Go.Proofs.Ytjldogfpccbkeaa
