/- Chapter 12: Take. -/
import Derived.Test.YtmnadploikcljaaBkD
set_option linter.unusedVariables false
set_option linter.unusedSimpArgs false
namespace Go.Proofs.Ytmnadploikcljaa
open Go.RowKit
attribute [local go_sem] Oper.semAt_some

/-- The bucket, those kinds laid anew that have come. -/
def Bk.part (B : Bk) (u : Int) (pre : List Bool) : Bk := ⟨B.s, if false ∈ pre then B.k0.adv u else B.k0, if true ∈ pre then B.k1.adv u else B.k1, B.now⟩
theorem part_step (B : Bk) (u : Int) (pre : List Bool) : ∀ x : Bool, bkc (B.part u (pre ++ [x])) =
    (((bkc (B.part u pre)).setIfInBounds (if x then 8 else 5) (.int .i64 (kOf B u x).has)).setIfInBounds (if x then 9 else 6) (.int .i64 (kOf B u x).most)).setIfInBounds (if x then 10 else 7) (.int .i64 (kOf B u x).more)
  | false => by simp [Bk.part, kOf]
  | true => by simp [Bk.part, kOf]

set_option maxRecDepth 100000 in
set_option maxHeartbeats 4000000 in
theorem take_calls (b : Nat) (B : Bk) (t z : Int) (w : World) (hb : IsBk w b B) (hr : B.s.rate ≠ 0) (hm : B.may t) (hn : 0 ≤ B.now) (ok0 : B.k0.Ok (t - B.now)) (ok1 : B.k1.Ok (t - B.now)) (hl1 : 1 ≤ B.s.least) :
    Calls Try.prog 31 #[.pointer (some ⟨b, 0, none⟩), .int .i64 t, .int .i64 z] w fun e w' => e = .returned (.tuple #[.bool (decide ((B.adv t).fits z)), .int .i64 0]) ∧ IsBk w' b (B.take t z) ∧ Fr (· = b) w w' := by
  have HA := Lib.hid (fun w' (h : Fr0 w w') => asked_calls b B t w' (hb.kept0 h) hr)
  rw [show askA B t = 0 from if_pos hm] at HA
  have hwt : IntKind.i64.wrap (t - B.now) = t - B.now := by have := hm.1; have := hm.2; rw [IntKind.wrap_i64]; omega
  have c11a : ∀ o, (w.alloc o).cell? ⟨b, 11, none⟩ = some (.int .i64 B.now) := fun o => ((Fr.refl (fun _ => False) w).alloc o).cell hb.cells.c11 (fun h => h)
  have HE := Lib.hid (fun (w : World) => beach_calls b (t - B.now) w)
  have hmx : Try.prog.follows .mixedOrders = true := by kernel_rfl
  refine (callsIn_wide (n := 5)).1 ?_
  refine callsIn_of_wp_marks Try.func31 rfl trivial ?_ rfl
  simp only [Try.ntmps31, List.size_toArray, List.length_cons, List.length_nil, Nat.reduceAdd, Nat.reduceSub, Array.replicate_succ, Array.replicate_zero, List.push_toArray, List.append_toArray, List.nil_append, List.cons_append]
  gi_wp2_with (first
    | (refine ⟨trivial, ?_⟩; gi_at_call 49; refine (callsIn_wide.2 (HA.out _ ((Fr.refl _ w).alloc _))).mono ?_; rintro e w' ⟨rfl, rfl⟩))
  refine wpIn_wide.2 ?_
  refine wp_region_class (· = (w.alloc (.cells #[.pointer (some ⟨b, 0, none⟩)] 63)).drew) 7 hmx (by kernel_rfl) rfl ?_
  simp only [List.take_succ_cons, List.take_zero, List.drop_succ_cons, List.drop_zero]
  repeat (quiet_step (fail))
  refine wpQuiet_nil ?_
  rintro _ rfl
  go_wp2_with (go_at_call 50; refine (HE.out _).mono ?_; rintro e w' ⟨rfl, rfl⟩)
  gi_wp2
  have hfr0 : Fr0 w (((w.alloc (.cells #[.pointer (some ⟨b, 0, none⟩)] 63)).alloc (.cells #[.pointer (some ⟨b, 0, none⟩)] 63)).alloc (.cells #[.int .i64 (t - B.now)] 2)).drew := ((((Fr.refl (fun _ => False) w).alloc _).alloc _).alloc _).drew
  have hbx : (((w.alloc (.cells #[.pointer (some ⟨b, 0, none⟩)] 63)).alloc (.cells #[.pointer (some ⟨b, 0, none⟩)] 63)).alloc (.cells #[.int .i64 (t - B.now)] 2)).drew.cell? ⟨w.heap.size, 0, none⟩ = some (.pointer (some ⟨b, 0, none⟩)) := cell_of_blk (blk_drew (blk_alloc (blk_alloc (heap_alloc_nn rfl) _) _)) 0
  have hc1 : (((w.alloc (.cells #[.pointer (some ⟨b, 0, none⟩)] 63)).alloc (.cells #[.pointer (some ⟨b, 0, none⟩)] 63)).alloc (.cells #[.int .i64 (t - B.now)] 2)).drew.cell? ⟨w.heap.size + 1, 0, none⟩ = some (.pointer (some ⟨b, 0, none⟩)) := cell_of_blk (blk_drew (blk_alloc (heap_alloc_nn (by simp)) _)) 0
  have hc2 : (((w.alloc (.cells #[.pointer (some ⟨b, 0, none⟩)] 63)).alloc (.cells #[.pointer (some ⟨b, 0, none⟩)] 63)).alloc (.cells #[.int .i64 (t - B.now)] 2)).drew.cell? ⟨w.heap.size + 1 + 1, 0, none⟩ = some (.int .i64 (t - B.now)) := cell_of_blk (blk_drew (heap_alloc_nn (by simp))) 0
  have hsz : (((w.alloc (.cells #[.pointer (some ⟨b, 0, none⟩)] 63)).alloc (.cells #[.pointer (some ⟨b, 0, none⟩)] 63)).alloc (.cells #[.int .i64 (t - B.now)] 2)).drew.heap.size = w.heap.size + 3 := by show (((w.alloc _).alloc _).alloc _).heap.size = _; simp
  generalize (((w.alloc (.cells #[.pointer (some ⟨b, 0, none⟩)] 63)).alloc (.cells #[.pointer (some ⟨b, 0, none⟩)] 63)).alloc (.cells #[.int .i64 (t - B.now)] 2)).drew = W0 at *
  have HSZ := Lib.hid hsz
  have HLT := Lib.hid hb.lt
  have hrng : 1 ≤ (B.adv t).s.least ∧ (0 ≤ (B.adv t).k0.has ∧ (B.adv t).k0.has ≤ 10000000) ∧ (0 ≤ (B.adv t).k1.has ∧ (B.adv t).k1.has ≤ 10000000) := by
    obtain ⟨⟨a1, a2⟩, ⟨a3, a4⟩, a5, a6⟩ := ok0
    obtain ⟨⟨b1, b2⟩, ⟨b3, b4⟩, b5, b6⟩ := ok1
    refine ⟨hl1, ?_, ?_⟩
    · simp only [Bk.adv, K3.adv]; omega
    · simp only [Bk.adv, K3.adv]; omega
  have HRNG := Lib.hid hrng
  clear hrng
  have HADV := Lib.hid (show B.adv t = ⟨B.s, B.k0.adv (t - B.now), B.k1.adv (t - B.now), t⟩ from rfl)
  have HTK := Lib.hid (show B.take t z = if (B.adv t).fits z then (B.adv t).less z else B.adv t from rfl)
  clear c11a hwt HE HA hsz
  have hseq := beach1_stops Fence.wide (5 - 1) trivial rfl (by omega) (w.heap.size + 1) (w.heap.size + 1 + 1) b (· = b) B (t - B.now) W0 hc1 hc2 (fun e : w.heap.size + 1 + 1 = b => by have := HLT.out; omega) (hb.kept0 hfr0) ok0 ok1
  generalize hu : t - B.now = u at *
  have hb0 := hb.kept0 hfr0
  clear hb
  refine wpIn_rangeFunc_ownH rfl (by omega) (gf := 61) (lb := #[.pointer (some ⟨w.heap.size + 1, 0, none⟩), .pointer (some ⟨w.heap.size + 1 + 1, 0, none⟩)]) rfl trivial (enters_of Try.func61 (by kernel_rfl) rfl)
    hseq (fun h k => h.trans k) (fun W l o o' _ h ho _ => Ck.putObj W l o o' h ho) (Below.refl _ _) (fun _ => rfl)
    (fun pre W => IsBk W b (B.part u pre) ∧ W.cell? ⟨w.heap.size, 0, none⟩ = some (.pointer (some ⟨b, 0, none⟩)) ∧ Fr (· = b) w W)
    (fun _ _ _ => False) ?own (fun _ _ _ _ _ hs _ _ => hs) ⟨hb0, hbx, hfr0.any⟩
    (fun x a' W => ∃ q, w.heap.size < q ∧ W.heap[q]? = some (.cells (k3c (kOf B u x)) 94 (0, 0)) ∧ a' = { tmps := #[.pointer (some ⟨b, 0, none⟩), .int .i64 t, .int .i64 z, .pointer (some ⟨w.heap.size, 0, none⟩), undef, undef, .bool false, .int .i64 0, .int .i64 0, .int .i64 (if x then 1 else 0), .pointer (some ⟨q, 0, none⟩), undef, undef, undef, .pointer (some ⟨b, 0, none⟩), .int .i64 t, .int .i64 0, .int .i64 0, .bool false, undef, .pointer (some ⟨b, 0, none⟩), .int .i64 t, .pointer (some ⟨b, 0, none⟩), .pointer (some ⟨b, 0, none⟩), .pointer (some ⟨b, 11, none⟩), .int .i64 B.now, .int .i64 u, .func (.func 61) #[] #[.pointer (some ⟨w.heap.size + 1, 0, none⟩), .pointer (some ⟨w.heap.size + 1 + 1, 0, none⟩)], .int .i64 (if x then 1 else 0), k3v (kOf B u x), undef, undef, undef, undef, undef, undef, undef, undef, undef, undef, undef, undef, undef, undef, undef, undef, undef, undef, undef, undef, undef, undef, undef, undef, undef, undef, undef, undef, undef, undef, undef, undef, undef, undef, undef, undef, undef, undef, undef, undef, undef, undef, undef, undef, undef, undef, undef, undef, undef, undef, undef, undef, undef, undef, undef, undef, undef, undef, undef, undef, undef, undef, undef], defers := [] })
    ?ax ?assign ?body ?done ?stop
  case own =>
    rintro pre A1 B1 row ⟨hA, hx, hf⟩ hg hr
    have hn := ne_row hr
    exact ⟨blk_grown hA hg (hn _ _ _ _ hA), cell_kept hx hg (fun r e => (hr r e).2), hf.grown hg (fun k hk e => by have := (hr k e).1; have := HSZ.out; omega)⟩
  case ax =>
    rintro x a' _ A1 B1 row ⟨q, hq, hA, ha⟩ hg hr
    have hn := ne_row hr
    exact ⟨q, hq, blk_grown hA hg (hn _ _ _ _ hA), ha⟩
  case assign =>
    rintro l pre x W K ⟨hA, hx, hf⟩ hK
    have HK := Lib.hid hK
    have hqq : w.heap.size < W.heap.size := World.block_lt_of_cell? _ _ hx
    clear hK hr hm
    cases x
    all_goals
      gi_wp2
      exact HK.out _ _ (keeps_of_fr ((Fr.refl (fun _ => False) W).alloc _) _ (fun _ _ _ _ _ h => h)) (Ck.of_fr ((Fr.refl _ W).alloc _)) ⟨blk_alloc hA _, ((Fr.refl (fun _ => False) W).alloc _).cell hx (fun h => h), hf.alloc _⟩ ⟨W.heap.size, hqq, heap_alloc_new _ _, rfl⟩
  case body =>
    rintro l pre x a' W hl _ ⟨hA, hx, hf⟩ ⟨q, hq, hQ, rfl⟩ _
    have HST := Lib.hid (part_step B u pre x)
    have fin : ∀ W' : World, IsBk W' b (B.part u (pre ++ [x])) → Fr (· = b) W W' → KeepsFrom W0.heap.size W W' ∧ Ck (· = b) W W' ∧ IsBk W' b (B.part u (pre ++ [x])) ∧ W'.cell? ⟨w.heap.size, 0, none⟩ = some (.pointer (some ⟨b, 0, none⟩)) ∧ Fr (· = b) w W' := fun W' h1 h2 =>
      ⟨keeps_of_fr h2 _ (fun k o hk _ _ e => by have := HSZ.out; have := HLT.out; omega), Ck.of_fr h2, h1, h2.cell hx (fun e : w.heap.size = b => by have := HLT.out; omega), hf.trans h2⟩
    have FIN := Lib.hid fin
    generalize B.part u pre = P at *
    have q0 : W.cell? ⟨q, 0, none⟩ = some (.int .i64 (kOf B u x).has) := cell_of_blk hQ 0
    have q1 : W.cell? ⟨q, 1, none⟩ = some (.int .i64 (kOf B u x).most) := cell_of_blk hQ 1
    have q2 : W.cell? ⟨q, 2, none⟩ = some (.int .i64 (kOf B u x).more) := cell_of_blk hQ 2
    obtain ⟨_, _, _, _, _, c5, c6, c7, c8, c9, c10, _⟩ := hA.cells
    have f5 := hA.free 5
    have f6 := hA.free 6
    have f7 := hA.free 7
    have f8 := hA.free 8
    have f9 := hA.free 9
    have f10 := hA.free 10
    have HAH := Lib.hid hA
    have HFF := Lib.hid (Fr.refl (· = b) W)
    clear fin hA hf hQ hr hm
    generalize kOf B u x = kk at *
    cases x
    · gi_wp2
      refine wpIn_region_class (· = W.drew) 6 hmx (by kernel_rfl) (by kernel_rfl) (fun ⟨_, _, h⟩ => h) rfl ?_
      simp only [List.take_succ_cons, List.take_zero, List.drop_succ_cons, List.drop_zero]
      repeat (quiet_step (fail))
      refine wpQuiet_nil ?_
      rintro _ rfl
      go_wp2
      refine FIN.out _ ?_ ((((HFF.out.setCell (p := ⟨b, 5, none⟩) (fun _ => rfl) _).setCell (p := ⟨b, 6, none⟩) (fun _ => rfl) _).setCell (p := ⟨b, 7, none⟩) (fun _ => rfl) _).drew)
      unfold IsBk
      rw [HST.out]
      exact blk_drew (blk_setCell (blk_setCell (blk_setCell HAH.out 5 _) 6 _) 7 _)
    · gi_wp2
      refine wpIn_region_class (· = W.drew) 6 hmx (by kernel_rfl) (by kernel_rfl) (fun ⟨_, _, h⟩ => h) rfl ?_
      simp only [List.take_succ_cons, List.take_zero, List.drop_succ_cons, List.drop_zero]
      repeat (quiet_step (fail))
      refine wpQuiet_nil ?_
      rintro _ rfl
      go_wp2
      refine FIN.out _ ?_ ((((HFF.out.setCell (p := ⟨b, 8, none⟩) (fun _ => rfl) _).setCell (p := ⟨b, 9, none⟩) (fun _ => rfl) _).setCell (p := ⟨b, 10, none⟩) (fun _ => rfl) _).drew)
      unfold IsBk
      rw [HST.out]
      exact blk_drew (blk_setCell (blk_setCell (blk_setCell HAH.out 8 _) 9 _) 10 _)
  case done =>
    rintro D xs W hD rfl ⟨hA, hx, hf⟩ hK
    have hA : IsBk W b ⟨B.s, B.k0.adv u, B.k1.adv u, B.now⟩ := hA
    have HADV2 := Lib.hid (show B.adv t = ⟨B.s, B.k0.adv u, B.k1.adv u, t⟩ by rw [HADV.out])
    have hA1 : IsBk (W.setCell ⟨b, 11, none⟩ (.int .i64 t)) b (B.adv t) := by rw [HADV2.out]; exact blk_setCell hA 11 _
    have hx1 : (W.setCell ⟨b, 11, none⟩ (.int .i64 t)).cell? ⟨w.heap.size, 0, none⟩ = some (.pointer (some ⟨b, 0, none⟩)) := ((Fr.refl (· = b) W).setCell (p := ⟨b, 11, none⟩) (fun _ => rfl) _).cell hx (fun e : w.heap.size = b => by have := HLT.out; omega)
    have hK1 : (W.setCell ⟨b, 11, none⟩ (.int .i64 t)).heap[D]? = some (.deferred (some [])) := blk_setCell_other hK (fun e : b = D => by have := HSZ.out; have := HLT.out; omega) _
    have hf1 : Fr (· = b) w (W.setCell ⟨b, 11, none⟩ (.int .i64 t)) := hf.setCell (fun _ => rfl) _
    have HDB := Lib.hid (show w.heap.size ≤ D ∧ b ≠ D by have := HSZ.out; have := HLT.out; omega)
    have c11 := hA.cells.c11
    have f11 := hA.free 11
    clear hA hf hK hr hm hb0 hfr0 hbx hc1 hc2 hseq ok0 ok1 HADV HADV2
    gi_wp2
    generalize W.setCell ⟨b, 11, none⟩ (.int .i64 t) = W1 at *
    clear c11 f11 hx
    generalize hbt : B.take t z = BT at *
    generalize hba : B.adv t = BA at *
    have HBT := Lib.hid hbt
    have HBA := Lib.hid hba
    clear hbt hba
    obtain ⟨_, _, _, c3, c4, _⟩ := hA1.cells
    have HWI := Lib.hid (bwithin_calls z BA.s.least BA.s.most)
    have hq : decide (BA.fits z) = (decide (BA.s.least ≤ z ∧ z ≤ BA.s.most) && (decide (z ≤ BA.k0.has) && decide (z ≤ BA.k1.has))) := by rw [← Bool.decide_and, ← Bool.decide_and]; rfl
    have HQ := Lib.hid hq
    have hq2 : BT = if decide (BA.fits z) = true then BA.less z else BA := by rw [HTK.out]; simp
    have HT2 := Lib.hid hq2
    clear hq hq2 HTK
    generalize hqq : decide (BA.fits z) = qq at *
    have HQQ := Lib.hid hqq
    clear hqq
    generalize hq0 : decide (BA.s.least ≤ z ∧ z ≤ BA.s.most) = q0 at *
    clear hq0
    have HA1 := Lib.hid hA1
    have HX1 := Lib.hid hx1
    have HF1 := Lib.hid hf1
    clear hA1 hf1
    refine wpIn_wide.2 ?_
    go_quiet ((go_at_call 51; refine Calls.quiet_of_same ((HWI.out _).mono fun e w' h => ⟨h.1, h.2.symm⟩)))
    clear c3 c4 hx1
    have hA2 : IsBk (W1.drewN nq) b BA := HA1.out
    have hx2 : (W1.drewN nq).cell? ⟨w.heap.size, 0, none⟩ = some (.pointer (some ⟨b, 0, none⟩)) := HX1.out
    have hK2 : (W1.drewN nq).heap[D]? = some (.deferred (some [])) := hK1
    have hf2 : Fr (· = b) w (W1.drewN nq) := HF1.out.drewN nq
    have HFX := Lib.hid (fun hh : qq = true => show (1 ≤ z ∧ z ≤ BA.k0.has ∧ z ≤ BA.k1.has) from by
      have h1 := HQQ.out
      rw [hh, decide_eq_true_eq] at h1
      obtain ⟨⟨h2, _⟩, h3, h4⟩ := h1
      have := HRNG.out.1
      omega)
    have i0 := index_k0 BA.k0.has BA.k0.most BA.k0.more BA.k1.has BA.k1.most BA.k1.more
    have i1 := index_k1 BA.k0.has BA.k0.most BA.k0.more BA.k1.has BA.k1.most BA.k1.more
    generalize W1.drewN nq = V at *
    obtain ⟨_, _, _, _, _, c5, c6, c7, c8, c9, c10, _⟩ := hA2.cells
    have HA2 := Lib.hid hA2
    have HX2 := Lib.hid hx2
    have HK2 := Lib.hid hK2
    have HF2 := Lib.hid hf2
    clear HA1 HX1 HF1 hK1 hA hD hu hn HWI hA2 hK2 hf2
    have kqd : ∃ kq : Nat → Bool, kq 0 = q0 ∧ kq 1 = (q0 && decide (z ≤ BA.k0.has)) ∧ kq 2 = qq ∧ kq 2 = (kq 1 && decide (z ≤ BA.k1.has)) :=
      ⟨fun n => match n with | 0 => q0 | 1 => (q0 && decide (z ≤ BA.k0.has)) | _ => qq, rfl, rfl, rfl, by show qq = ((q0 && decide (z ≤ BA.k0.has)) && decide (z ≤ BA.k1.has)); rw [Bool.and_assoc]; exact HQ.out⟩
    obtain ⟨kq, k0, k1, k2, k3⟩ := kqd
    have KK0 := Lib.hid k0
    have KK1 := Lib.hid k1
    have KK2 := Lib.hid k2
    have KK3 := Lib.hid k3
    clear k0 k1 k2 k3
    go_wp2_with fail
    gi_wp2
    clear hx2 c5 c6 c7 c8 c9 c10
    gi_loopw [11, 56] (fun kp i wr => ∃ k : Nat, k ≤ 2 ∧ i = .int .i64 (k : Int) ∧ kp = .bool (kq k) ∧ Hid (Fr0 V wr)) (fun kp i wr => 2 - (intOf i).toNat)
    case atStart => exact ⟨0, by omega, rfl, congrArg Value.bool KK0.out.symm, Fr.refl _ _⟩
    case round =>
      obtain ⟨k, hk, rfl, rfl, HFV⟩ := hrel
      have hk3 : k = 0 ∨ k = 1 ∨ k = 2 := by omega
      rcases hk3 with rfl | rfl | rfl
      · rw [KK0.out]
        cases q0
        · gi_wp2
          go_roundw
          case rel => exact ⟨1, by omega, by go_num, congrArg Value.bool KK1.out.symm, HFV.out.alloc _⟩
          case measure => simp [intOf]
        · gi_wp2
          go_roundw
          case rel => exact ⟨1, by omega, by go_num, congrArg Value.bool KK1.out.symm, HFV.out.alloc _⟩
          case measure => simp [intOf]
      · generalize hk1 : kq 1 = v1 at *
        cases v1
        · gi_wp2
          go_roundw
          case rel => exact ⟨2, by omega, by go_num, congrArg Value.bool KK3.out.symm, HFV.out.alloc _⟩
          case measure => simp [intOf]
        · gi_wp2
          go_roundw
          case rel => exact ⟨2, by omega, by go_num, congrArg Value.bool KK3.out.symm, HFV.out.alloc _⟩
          case measure => simp [intOf]
      · rw [KK2.out]
        have HA3 := Lib.hid (HA2.out.kept0 HFV.out)
        have hx3 := HFV.out.cell HX2.out (fun h => h)
        have HK3 := Lib.hid (HFV.out.blk HK2.out (fun h => h))
        have HF3 := Lib.hid (HF2.out.trans HFV.out.any)
        cases qq
        · gi_wp2
          refine ⟨by simp, .inl ⟨_, _, rfl, run_takeDeferred HK3.out, ?_⟩⟩
          refine ⟨_, results_tmp2 rfl _ _ _, ?_, ?_, HF3.out.grown (grownBy_putObj' wr D _) (fun k hk e => by cases e; have := HDB.out.1; omega)⟩
          · rw [HBA.out, HQQ.out]; rfl
          · rw [HBT.out, HT2.out]
            exact (World.putObj_heap_other HDB.out.2).trans HA3.out
        · obtain ⟨z1, z2, z3⟩ := HFX.out rfl
          obtain ⟨_, ⟨h1, h2⟩, h3, h4⟩ := HRNG.out
          obtain ⟨_, _, _, _, _, c5, c6, c7, c8, c9, c10, _⟩ := HA3.out.cells
          have f5 := HA3.out.free 5
          have f8 := HA3.out.free 8
          have hw0 : IntKind.i64.wrap (BA.k0.has - z) = BA.k0.has - z := by rw [IntKind.wrap_i64]; omega
          have hw1 : IntKind.i64.wrap (BA.k1.has - z) = BA.k1.has - z := by rw [IntKind.wrap_i64]; omega
          gi_wp2
          refine wpIn_wide.2 ?_
          refine wp_region_class (· = wr.drew) 12 hmx (by kernel_rfl) rfl ?_
          simp only [List.take_succ_cons, List.take_zero, List.drop_succ_cons, List.drop_zero]
          repeat (quiet_step (fail))
          refine wpQuiet_nil ?_
          rintro _ rfl
          go_wp2
          have hA4 : (wr.setCell ⟨b, 5, none⟩ (.int .i64 (BA.k0.has - z))).drew.heap[b]? = some (.cells (bkc ⟨BA.s, ⟨BA.k0.has - z, BA.k0.most, BA.k0.more⟩, BA.k1, BA.now⟩) 97 (0, 0)) := blk_drew (blk_setCell HA3.out 5 _)
          have hx4 : (wr.setCell ⟨b, 5, none⟩ (.int .i64 (BA.k0.has - z))).drew.cell? ⟨w.heap.size, 0, none⟩ = some (.pointer (some ⟨b, 0, none⟩)) := (((Fr.refl (· = b) wr).setCell (p := ⟨b, 5, none⟩) (fun _ => rfl) _).drew).cell hx3 (fun e : w.heap.size = b => by have := HLT.out; omega)
          have hK4 : (wr.setCell ⟨b, 5, none⟩ (.int .i64 (BA.k0.has - z))).drew.heap[D]? = some (.deferred (some [])) := blk_drew (blk_setCell_other HK3.out HDB.out.2 _)
          have hf4 := (HF3.out.setCell (p := ⟨b, 5, none⟩) (fun _ => rfl) (.int .i64 (BA.k0.has - z))).drew
          generalize (wr.setCell ⟨b, 5, none⟩ (.int .i64 (BA.k0.has - z))).drew = w4 at *
          clear c5 c6 c7 c8 c9 c10 f5 f8 hx3 hw0
          obtain ⟨_, _, _, _, _, c5, c6, c7, c8, c9, c10, _⟩ := IsBk.cells hA4
          have f5 := IsBk.free hA4 5
          have f8 := IsBk.free hA4 8
          have HA4 := Lib.hid hA4
          have HK4 := Lib.hid hK4
          have HF4 := Lib.hid hf4
          clear hA4 hK4 hf4
          gi_wp2
          refine wpIn_wide.2 ?_
          refine wp_region_class (· = w4.drew) 12 hmx (by kernel_rfl) rfl ?_
          simp only [List.take_succ_cons, List.take_zero, List.drop_succ_cons, List.drop_zero]
          repeat (quiet_step (fail))
          refine wpQuiet_nil ?_
          rintro _ rfl
          go_wp2
          gi_wp2
          refine ⟨by simp, .inl ⟨_, _, rfl, run_takeDeferred (ds := []) (blk_drew (blk_setCell_other HK4.out HDB.out.2 _)), ?_⟩⟩
          refine ⟨_, results_tmp2 rfl _ _ _, ?_, ?_, (HF4.out.setCell (p := ⟨b, 8, none⟩) (fun _ => rfl) _).drew.grown (grownBy_putObj' _ D _) (fun k hk e => by cases e; have := HDB.out.1; omega)⟩
          · rw [HBA.out, HQQ.out]; rfl
          · rw [HBT.out, HT2.out]
            exact (World.putObj_heap_other HDB.out.2).trans (blk_drew (blk_setCell HA4.out 8 _))
  case stop => exact fun _ _ _ _ _ _ h _ => h.elim
end Go.Proofs.Ytmnadploikcljaa
