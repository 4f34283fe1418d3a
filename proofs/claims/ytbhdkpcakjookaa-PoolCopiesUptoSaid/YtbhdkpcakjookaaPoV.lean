/- Chapter 24: the document's Bend. -/
import Derived.Test.YtbhdkpcakjookaaPoU
import Derived.Test.YtbhdkpcakjookaaPoH
set_option linter.unusedVariables false
set_option linter.unusedSimpArgs false
namespace Go.Proofs.Ytbhdkpcakjookaa
open Go.RowKit
attribute [local go_sem] Oper.semAt_some

theorem wrap_u8_lt (n : Nat) (h : n < 256) : IntKind.u8.wrap (n : Int) = (n : Int) := by
  have : IntKind.u8.wrap (n : Int) = (n : Int) % 256 := rfl
  rw [this]; omega
theorem flip_nat : ∀ j, j < 8 → ∀ x, x < 256 → (if x / (128 / 2 ^ j) % 2 = 1 then x - 128 / 2 ^ j else x + 128 / 2 ^ j) = x ^^^ (128 / 2 ^ j) := by decide +kernel
theorem flip_u8 (x : UInt8) (j : Nat) (hj : j < 8) : ((x ^^^ ((128 : UInt8) >>> UInt8.ofNat j)).toNat : Nat) = if x.toNat / (128 / 2 ^ j) % 2 = 1 then x.toNat - 128 / 2 ^ j else x.toNat + 128 / 2 ^ j := by
  rw [flip_nat j hj x.toNat (UInt8.toNat_lt x), UInt8.toNat_xor, ← bit_u8 j hj]
theorem rbend_empty (most last : Int) (A : Option Addr) (c : Nat) (p q : Int) (w : World) :
    Calls Try.prog 35 #[pov most last A 0 c, .int .i64 p, .int .i64 q] w (RtakeNo most last A 0 c w) := by
  obtain ⟨h0, h1, h2, hf, hs⟩ := rk_blks w most last A 0 c
  have HB1 := Lib.hid h1
  have HB2 := Lib.hid h2
  have HF := Lib.hid hf
  obtain ⟨⟨k0, k1, k2⟩, g0, g1, g2⟩ := po_cells2 h0
  obtain ⟨⟨y0, y1, y2⟩, f0, f1, f2⟩ := po_cells2 h1
  obtain ⟨⟨z0, z1, z2, z3⟩, q0, q1, q2, q3⟩ := m_cells h2
  have HS := Lib.hid hs
  clear h0 h1 h2 hf hs
  unfold rkW at *
  go_enter Try.func35, Try.ntmps35
  go_upto_region 2 with fail
  generalize ((w.alloc (.cells #[.int .i64 most, .int .i64 last, .slice A 0 c] 45)).alloc (.cells #[.int .i64 0, .int .i64 0, .slice none 0 0] 45)).alloc (.cells #[.int .i64 0, .int .i64 0, .int .i64 0, .slice none 0 0] 31) = W at *
  go_wp2_with fail
  obtain ⟨⟨e1, e2⟩, _⟩ := put2_blks HB1.out HB2.out (by omega) most last A 0 c ⟨⟨0, 0, 0, []⟩, none, 0⟩
  exact bodyPost_ret (results_rows_tmp rfl _ _ (w.heap.size + 1) (w.heap.size + 1 + 1) _ _ _ _ _ _ _ _ rfl e1 rfl e2 Try.underlying45 rfl (by kernel_rfl) Try.underlying31 rfl (by kernel_rfl)) rfl
    ⟨rfl, putM_fr (putP_fr HF.out (fun h => by omega)) (fun h => by omega) ⟨⟨0, 0, 0, []⟩, none, 0⟩⟩
set_option maxRecDepth 100000 in
set_option maxHeartbeats 4000000 in
theorem rbend_ok (most last : Int) (A0 : Option Addr) (c0 : Nat) (L : List Rm) (p q : Int) (w : World) (h : IsLs w A0 c0 L) (hl : 0 < L.length) (hp : -9223372036854775808 ≤ p ∧ p ≤ 9223372036854775807) (hq : -9223372036854775808 ≤ q ∧ q ≤ 9223372036854775807) (hsm : ∀ r ∈ L, r.m.bytes.length ≤ 4096) :
    Calls Try.prog 35 #[pov most last A0 L.length c0, .int .i64 p, .int .i64 q] w (RtakeOk most last ((msgs L).set (rnd p L.length) ((L[rnd p L.length]'(rnd_lt p _ hl)).m.bend q)) ((L[rnd p L.length]'(rnd_lt p _ hl)).m.bend q) w) := by
  have hr := rnd_lt p _ hl
  have HRN := Lib.hid (fun w' => round_calls p L.length w' hl (by have := h.most; omega) hp)
  have hmL := h.most
  have hlc := h.len
  obtain ⟨b, off, rfl⟩ := h.rd.some_ (by rw [rms_length]; omega)
  have HLS := Lib.hid h
  have HR := Lib.hid (fun U (hf : Fr0 w U) => rd_rm (h.rd.kept hf) _ hr)
  have HO := Lib.hid (fun U (hf : Fr0 w U) => (h.at_ _ hr).kept hf)
  have hsb := hsm _ (List.getElem_mem hr)
  generalize L[rnd p L.length] = r at *
  generalize rnd p L.length = n at *
  have hi1 : (0 : Int) ≤ (n : Int) := by omega
  have hi2 : (n : Int) < (L.length : Int) := by omega
  have hne : ¬ (L.length = 0) := by omega
  obtain ⟨h0, h1, h2, hf, hs⟩ := rk_blks w most last (some ⟨b, off, none⟩) L.length c0
  have HB0 := Lib.hid h0
  have HB1 := Lib.hid h1
  have HB2 := Lib.hid h2
  have HF := Lib.hid hf
  have HS := Lib.hid hs
  obtain ⟨⟨k0, k1, k2⟩, g0, g1, g2⟩ := po_cells2 h0
  obtain ⟨d0, d1, d2, d3⟩ := HR.out _ hf
  clear h h0 h1 h2 hf hs hsm
  unfold rkW at *
  go_enter Try.func35, Try.ntmps35
  go_upto_region 1 with fail
  generalize ((w.alloc (.cells #[.int .i64 most, .int .i64 last, .slice (some ⟨b, off, none⟩) L.length c0] 45)).alloc (.cells #[.int .i64 0, .int .i64 0, .slice none 0 0] 45)).alloc (.cells #[.int .i64 0, .int .i64 0, .int .i64 0, .slice none 0 0] 31) = W at *
  go_upto_region 5 with (go_at_call 42; refine (HRN.out _).mono ?_; rintro e w5 ⟨rfl, rfl⟩)
  have hfa := (Fr.refl (fun _ => False) W).alloc (.cells #[.int .i64 r.m.num, .int .i64 r.m.link, .int .i64 r.m.since, .slice r.A r.m.bytes.length r.c] 31)
  have HB3 := Lib.hid (heap_alloc_new W (.cells #[.int .i64 r.m.num, .int .i64 r.m.link, .int .i64 r.m.since, .slice r.A r.m.bytes.length r.c] 31))
  have HZ0 := Lib.hid (hfa.blk HB0.out (fun h => h))
  have HZ1 := Lib.hid (hfa.blk HB1.out (fun h => h))
  have HZ2 := Lib.hid (hfa.blk HB2.out (fun h => h))
  have HF4 := Lib.hid (HF.out.trans hfa)
  have HS4 := Lib.hid (show (W.alloc (.cells #[.int .i64 r.m.num, .int .i64 r.m.link, .int .i64 r.m.since, .slice r.A r.m.bytes.length r.c] 31)).heap.size = w.heap.size + 4 by simp [HS.out])
  have hWs : W.heap.size = w.heap.size + 1 + 1 + 1 := by rw [HS.out]
  rw [hWs] at HB3 ⊢
  clear hWs hfa k0 k1 k2 g0 g1 g2 d0 d1 d2 d3
  generalize hW4 : W.alloc (.cells #[.int .i64 r.m.num, .int .i64 r.m.link, .int .i64 r.m.since, .slice r.A r.m.bytes.length r.c] 31) = W4 at *
  clear hW4
  obtain ⟨⟨k0, k1, k2⟩, _⟩ := po_cells2 HZ0.out
  obtain ⟨⟨x0, x1, x2, x3⟩, e0, e1, e2, e3⟩ := m_cells HB3.out
  have HBA := Lib.hid (HO.out _ HF4.out)
  have HBL := Lib.hid (show (u8s r.m.bytes).length = r.m.bytes.length * 1 by rw [u8s_length, Nat.mul_one])
  go_upto_region 6 with (at_builtin; refine wpList_app rfl (.const (.slice none 0 0)) (.tmp 32) _ rfl Try.underlying22 u8_elem (base := W4.heap.size) (.slice none 0 0) 0 [] rfl (own_nil _ _ _ _) (fun _ => False) r.A r.m.bytes.length r.c (u8s r.m.bytes) rfl HBA.out.rd HBL.out (u8s_one _) (by simp only [maxLen]; omega) (by omega) (Nat.le_refl _) (fun e => by rw [HBA.out.nil e]; rfl) ?_; intro v5 w5 hown5 hg5 hat5; rw [Nat.zero_add, List.nil_append] at hown5; have hfb : Fr0 W4 w5 := (Fr.refl _ W4).grown hg5 (fun k _ e => by simp [Value.ownBlock] at e); obtain ⟨A5, c5, rfl, hc51, hc52⟩ := own_form hown5; have hb3 := hfb.blk HB3.out (fun h => h); obtain ⟨⟨x0, x1, x2, x3⟩, e0, e1, e2, e3⟩ := m_cells hb3)
  have hfs := (Fr.refl (fun k => k = w.heap.size + 1 + 1 + 1) w5).setCell (p := ⟨w.heap.size + 1 + 1 + 1, 3, none⟩) (fun _ => rfl) (.slice A5 r.m.bytes.length c5)
  have HB6 := Lib.hid (show (w5.setCell ⟨w.heap.size + 1 + 1 + 1, 3, none⟩ (.slice A5 r.m.bytes.length c5)).heap[w.heap.size + 1 + 1 + 1]? = some (.cells #[.int .i64 r.m.num, .int .i64 r.m.link, .int .i64 r.m.since, .slice A5 r.m.bytes.length c5] 31 (0, 0)) from blk_setCell hb3 3 _)
  have HO6 := Lib.hid (own_kept hown5 hfs (fun k hk e => by have h1 := (own_blk hown5 hk).1; have h2 := HS4.out; omega))
  have HY0 := Lib.hid (hfs.blk (hfb.blk HZ0.out (fun h => h)) (fun e => by omega))
  have HY1 := Lib.hid (hfs.blk (hfb.blk HZ1.out (fun h => h)) (fun e => by omega))
  have HY2 := Lib.hid (hfs.blk (hfb.blk HZ2.out (fun h => h)) (fun e => by omega))
  have HF6 := Lib.hid ((HF4.out.trans hfb).setCell (p := ⟨w.heap.size + 1 + 1 + 1, 3, none⟩) (fun h => by have h2 : w.heap.size + 1 + 1 + 1 < w.heap.size := h; omega) (.slice A5 r.m.bytes.length c5))
  have HS6 := Lib.hid (show w.heap.size + 4 ≤ (w5.setCell ⟨w.heap.size + 1 + 1 + 1, 3, none⟩ (.slice A5 r.m.bytes.length c5)).heap.size by have h1 := hfb.size; have h2 := hfs.size; have h3 := HS4.out; omega)
  clear k0 k1 k2 x0 x1 x2 x3 e0 e1 e2 e3 hfs hfb hown5 hg5 hat5 hb3
  generalize w5.setCell ⟨w.heap.size + 1 + 1 + 1, 3, none⟩ (.slice A5 r.m.bytes.length c5) = W6 at *
  obtain ⟨⟨x0, x1, x2, x3⟩, e0, e1, e2, e3⟩ := m_cells HB6.out
  rcases Nat.eq_zero_or_pos r.m.bytes.length with hz | hpos
  case' inl =>
    have hq0 : ¬ (0 : Int) < (r.m.bytes.length : Int) := by omega
    have HMB := Lib.hid (show r.m.bend q = r.m by
      have h1 : r.m.bytes = [] := List.length_eq_zero_iff.1 hz
      refine (Msg.ext_iff' _ _).2 ⟨rfl, rfl, rfl, ?_⟩
      show bendB r.m.bytes q = r.m.bytes
      rw [h1]; exact bendB_nil q)
    have HZ := Lib.hid hz
    have HT3 := HB6
    have HOT := Lib.hid (show W6.ownsRow W4.heap.size 5 1 (.slice A5 r.m.bytes.length c5) r.m.bytes.length (u8s (r.m.bend q).bytes) by rw [HMB.out]; exact HO6.out)
    have HT0 := HY0
    have HT1 := HY1
    have HT2 := HY2
    have HFT := HF6
    have HST := HS6
    go_upto_region 16 with fail
    clear hq0 HZ HMB HB6 HO6 HY0 HY1 HY2 HF6 HS6 x0 x1 x2 x3 e0 e1 e2 e3
    generalize W6 = WT at *
    skip
  case' inr =>
    have hq0 : (0 : Int) < (r.m.bytes.length : Int) := by omega
    obtain ⟨g5, cap5, hv5, hg5b, hg5l⟩ := HO6.out.form hpos
    injection hv5 with hA5 hm5 hc5
    subst hA5 hc5
    have HRQ := Lib.hid (fun w' => show Calls Try.prog 42 #[.int .i64 q, .int .i64 (8 * (r.m.bytes.length : Int))] w' fun e w'' => e = .returned (.int .i64 (rnd q (8 * r.m.bytes.length))) ∧ w' = w'' from round_calls q (8 * r.m.bytes.length) w' (by omega) (by omega) hq)
    have hk := rnd_lt q (8 * r.m.bytes.length) (by omega)
    have HBB := Lib.hid (show bendB r.m.bytes q = r.m.bytes.set (rnd q (8 * r.m.bytes.length) / 8) (r.m.bytes.getD (rnd q (8 * r.m.bytes.length) / 8) 0 ^^^ ((128 : UInt8) >>> UInt8.ofNat (rnd q (8 * r.m.bytes.length) % 8))) from rfl)
    generalize rnd q (8 * r.m.bytes.length) = k at *
    have hw8 : IntKind.i64.wrap (8 * (r.m.bytes.length : Int)) = 8 * (r.m.bytes.length : Int) := by rw [IntKind.wrap_i64]; omega
    have ht1 : ((k : Int).tmod 8) = ((k % 8 : Nat) : Int) := rfl
    have ht2 : ((k : Int).tdiv 8) = ((k / 8 : Nat) : Int) := rfl
    have hj : k % 8 < 8 := Nat.mod_lt _ (by decide)
    have hi : k / 8 < r.m.bytes.length := by omega
    obtain ⟨j, hjj⟩ : ∃ j, j = k % 8 := ⟨_, rfl⟩
    obtain ⟨i, hii⟩ : ∃ i, i = k / 8 := ⟨_, rfl⟩
    rw [← hjj] at ht1 hj HBB
    rw [← hii] at ht2 hi HBB
    clear hjj hii hk
    have hi3 : (0 : Int) ≤ (i : Int) := by omega
    have hi4 : (i : Int) < (r.m.bytes.length : Int) := by omega
    obtain ⟨_, sp, hx5⟩ := own_row' HO6.out
    have hxc : W6.cell? ⟨g5, i, none⟩ = some (.int .u8 ((r.m.bytes.getD i 0).toNat : Int)) := by
      rw [cell_of_blk hx5 i]
      simp only [List.getElem?_toArray]
      rw [List.getElem?_append_left (by rw [u8s_length]; exact hi)]
      simp [u8s, hi, List.getD_eq_getElem?_getD]
    have hxf := free_of_blk hx5 i
    have HX5 := Lib.hid hx5
    have HFL := Lib.hid (flip_u8 (r.m.bytes.getD i 0) j hj)
    have hxb : (r.m.bytes.getD i 0).toNat < 256 := UInt8.toNat_lt _
    generalize r.m.bytes.getD i 0 ^^^ ((128 : UInt8) >>> UInt8.ofNat j) = fx at *
    generalize (r.m.bytes.getD i 0).toNat = x at *
    clear hx5
    go_wp2_with (go_at_call 42; refine (HRQ.out _).mono ?_; rintro e w7 ⟨rfl, rfl⟩)
    go_loopw [12, 13] (fun o i wr => ∃ t : Nat, i = .int .i64 (t : Int) ∧ t ≤ j ∧ o = .int .u8 ((128 / 2 ^ t : Nat) : Int) ∧ wr = W6) (fun _ i _ => j - (intOf i).toNat)
    case atStart => exact ⟨0, rfl, Nat.zero_le _, rfl, rfl⟩
    case' round =>
      obtain ⟨t, rfl, ht, rfl, rfl⟩ := hrel
      by_cases hlt : t < j
      case pos =>
        have ho1 : (((128 / 2 ^ t : Nat) : Int).tdiv 2) = ((128 / 2 ^ (t + 1) : Nat) : Int) := by
          rw [Nat.pow_succ, ← Nat.div_div_eq_div_mul]; rfl
        have ho2 : 128 / 2 ^ (t + 1) ≤ 128 := Nat.div_le_self _ _
        generalize 128 / 2 ^ t = o1 at *
        generalize ho3 : 128 / 2 ^ (t + 1) = o2 at *
        have ho4 : IntKind.u8.wrap (o2 : Int) = (o2 : Int) := wrap_u8_lt o2 (by omega)
        have HO3 := Lib.hid ho3
        clear ho3
        go_wp2_with fail
        go_roundw
        case rel => exact ⟨t + 1, by go_num, by omega, by rw [HO3.out], by simp⟩
        case measure => simp [intOf]; omega
      case' neg =>
        obtain rfl : t = j := by omega
        have hob : 128 / 2 ^ t ≤ 128 := Nat.div_le_self _ _
        have hop : 0 < 128 / 2 ^ t := Nat.div_pos (by have : 2 ^ t ≤ 2 ^ 7 := Nat.pow_le_pow_right (by decide) (by omega)
                                                      omega) (Nat.pow_pos (by decide))
        have hfb : fx.toNat < 256 := UInt8.toNat_lt _
        generalize 128 / 2 ^ t = o at *
        have hd1 : ((x : Int).tdiv (o : Int)) = ((x / o : Nat) : Int) := rfl
        have hd2 : (((x / o : Nat) : Int).tmod 2) = ((x / o % 2 : Nat) : Int) := rfl
        have hd3 : IntKind.u8.wrap ((x / o : Nat) : Int) = ((x / o : Nat) : Int) := wrap_u8_lt _ (Nat.lt_of_le_of_lt (Nat.div_le_self _ _) hxb)
        have hon : ¬ ((o : Int) = 0) := by omega
        by_cases hbit : x / o % 2 = 1
        case' pos =>
          have hfv : IntKind.u8.wrap ((x : Int) - (o : Int)) = ((fx.toNat : Nat) : Int) := by
            have h1 := HFL.out
            rw [if_pos hbit] at h1
            have h2 : o ≤ x := by
              rcases Nat.lt_or_ge x o with h | h
              · rw [Nat.div_eq_of_lt h] at hbit; omega
              · exact h
            rw [h1, ← wrap_u8_lt (x - o) (by omega)]
            congr 1; omega
          have hbi : ((x / o % 2 : Nat) : Int) = 1 := by omega
          rw [hbi] at hd2
          generalize (x / o : Nat) = xo at *
          clear HFL hbit hbi
          have hxd : wr.drew.cell? ⟨g5, i, none⟩ = some (.int .u8 (x : Int)) := hxc
          have hxe : wr.drew.frozen? ⟨g5, i, none⟩ = false := hxf
          have x3d : wr.drew.cell? ⟨w.heap.size + 1 + 1 + 1, 3, none⟩ = some (.slice (some ⟨g5, 0, none⟩) r.m.bytes.length c5) := x3
          go_upto_region 14 with fail
          go_region
          have hg3 : g5 ≠ w.heap.size + 1 + 1 + 1 := by have := HS4.out; omega
          have HT3 := Lib.hid (blk_drew (blk_setCell_other HB6.out (p := ⟨g5, i, none⟩) hg3 (.int .u8 ((fx.toNat : Nat) : Int))))
          have HOT := Lib.hid (show ((wr.setCell ⟨g5, i, none⟩ (.int .u8 ((fx.toNat : Nat) : Int))).drew).ownsRow W4.heap.size 5 1 (.slice (some ⟨g5, 0, none⟩) r.m.bytes.length c5) r.m.bytes.length (u8s (r.m.bend q).bytes) from by
            rw [show (r.m.bend q).bytes = r.m.bytes.set i fx from HBB.out]
            exact own_kept0 (own_setB HO6.out i fx) (Fr.refl _ _).drew)
          have HT0 := Lib.hid (blk_drew (blk_setCell_other HY0.out (p := ⟨g5, i, none⟩) (by show g5 ≠ w.heap.size; have := HS4.out; omega) (.int .u8 ((fx.toNat : Nat) : Int))))
          have HT1 := Lib.hid (blk_drew (blk_setCell_other HY1.out (p := ⟨g5, i, none⟩) (by show g5 ≠ w.heap.size + 1; have := HS4.out; omega) (.int .u8 ((fx.toNat : Nat) : Int))))
          have HT2 := Lib.hid (blk_drew (blk_setCell_other HY2.out (p := ⟨g5, i, none⟩) (by show g5 ≠ w.heap.size + 1 + 1; have := HS4.out; omega) (.int .u8 ((fx.toNat : Nat) : Int))))
          have HFT := Lib.hid ((HF6.out.setCell (p := ⟨g5, i, none⟩) (fun h => by have h2 : g5 < w.heap.size := h; have := HS4.out; omega) (.int .u8 ((fx.toNat : Nat) : Int))).drew)
          have HST := Lib.hid (show w.heap.size + 4 ≤ ((wr.setCell ⟨g5, i, none⟩ (.int .u8 ((fx.toNat : Nat) : Int))).drew).heap.size by have := HS6.out; show _ ≤ (wr.setCell _ _).heap.size; simpa using this)
          clear HB6 HO6 HY0 HY1 HY2 HF6 HS6 HBB x0 x1 x2 x3 e0 e1 e2 e3 hxc hxf hxd hxe x3d HX5
          generalize (wr.setCell ⟨g5, i, none⟩ (.int .u8 ((fx.toNat : Nat) : Int))).drew = WT at *
          generalize (some (⟨g5, 0, none⟩ : Addr)) = A5 at *
          go_upto_region 16 with fail
          skip
        case' neg =>
          have hfv : IntKind.u8.wrap ((x : Int) + (o : Int)) = ((fx.toNat : Nat) : Int) := by
            have h1 := HFL.out
            rw [if_neg hbit] at h1
            rw [h1, ← wrap_u8_lt (x + o) (by omega)]
            congr 1
          have hbi : ((x / o % 2 : Nat) : Int) = 0 := by omega
          rw [hbi] at hd2
          generalize (x / o : Nat) = xo at *
          clear HFL hbit hbi
          have hxd : wr.drew.cell? ⟨g5, i, none⟩ = some (.int .u8 (x : Int)) := hxc
          have hxe : wr.drew.frozen? ⟨g5, i, none⟩ = false := hxf
          have x3d : wr.drew.cell? ⟨w.heap.size + 1 + 1 + 1, 3, none⟩ = some (.slice (some ⟨g5, 0, none⟩) r.m.bytes.length c5) := x3
          go_upto_region 15 with fail
          go_region
          have hg3 : g5 ≠ w.heap.size + 1 + 1 + 1 := by have := HS4.out; omega
          have HT3 := Lib.hid (blk_drew (blk_setCell_other HB6.out (p := ⟨g5, i, none⟩) hg3 (.int .u8 ((fx.toNat : Nat) : Int))))
          have HOT := Lib.hid (show ((wr.setCell ⟨g5, i, none⟩ (.int .u8 ((fx.toNat : Nat) : Int))).drew).ownsRow W4.heap.size 5 1 (.slice (some ⟨g5, 0, none⟩) r.m.bytes.length c5) r.m.bytes.length (u8s (r.m.bend q).bytes) from by
            rw [show (r.m.bend q).bytes = r.m.bytes.set i fx from HBB.out]
            exact own_kept0 (own_setB HO6.out i fx) (Fr.refl _ _).drew)
          have HT0 := Lib.hid (blk_drew (blk_setCell_other HY0.out (p := ⟨g5, i, none⟩) (by show g5 ≠ w.heap.size; have := HS4.out; omega) (.int .u8 ((fx.toNat : Nat) : Int))))
          have HT1 := Lib.hid (blk_drew (blk_setCell_other HY1.out (p := ⟨g5, i, none⟩) (by show g5 ≠ w.heap.size + 1; have := HS4.out; omega) (.int .u8 ((fx.toNat : Nat) : Int))))
          have HT2 := Lib.hid (blk_drew (blk_setCell_other HY2.out (p := ⟨g5, i, none⟩) (by show g5 ≠ w.heap.size + 1 + 1; have := HS4.out; omega) (.int .u8 ((fx.toNat : Nat) : Int))))
          have HFT := Lib.hid ((HF6.out.setCell (p := ⟨g5, i, none⟩) (fun h => by have h2 : g5 < w.heap.size := h; have := HS4.out; omega) (.int .u8 ((fx.toNat : Nat) : Int))).drew)
          have HST := Lib.hid (show w.heap.size + 4 ≤ ((wr.setCell ⟨g5, i, none⟩ (.int .u8 ((fx.toNat : Nat) : Int))).drew).heap.size by have := HS6.out; show _ ≤ (wr.setCell _ _).heap.size; simpa using this)
          clear HB6 HO6 HY0 HY1 HY2 HF6 HS6 HBB x0 x1 x2 x3 e0 e1 e2 e3 hxc hxf hxd hxe x3d HX5
          generalize (wr.setCell ⟨g5, i, none⟩ (.int .u8 ((fx.toNat : Nat) : Int))).drew = WT at *
          generalize (some (⟨g5, 0, none⟩ : Addr)) = A5 at *
          go_upto_region 16 with fail
          skip
  all_goals
    have HL5 := Lib.hid (show r.m.bytes.length = (r.m.bend q).bytes.length from (bendB_length _ _).symm)
    have ht3 : WT.heap[w.heap.size + 1 + 1 + 1]? = some (.cells (rmc ⟨r.m.bend q, A5, c5⟩).toArray 31 (0, 0)) := by
      have h := HT3.out
      rw [HL5.out] at h
      exact h
    have HOT2 := Lib.hid (show WT.ownsRow W4.heap.size 5 1 (.slice A5 (r.m.bend q).bytes.length c5) (r.m.bend q).bytes.length (u8s (r.m.bend q).bytes) by
      have h := HOT.out
      rw [HL5.out] at h
      exact h)
    have HLM := Lib.hid (show (r.m.bend q).bytes.length ≤ 1000000 by rw [← HL5.out]; omega)
    clear HT3 HOT HL5
    generalize r.m.bend q = m' at *
    have HT3 := Lib.hid ht3
    have HLT := Lib.hid (HLS.out.kept HFT.out)
    have HRL := Lib.hid (rms_length L)
    obtain ⟨⟨k0, k1, k2⟩, g0, g1, g2⟩ := po_cells2 HT0.out
    clear ht3
    go_upto_region 17 with (at_builtin; refine wpList_app rfl (.const (.slice none 0 0)) (.tmp 90) _ rfl Try.underlying36 rm_elem (base := WT.heap.size) (.slice none 0 0) 0 [] rfl (own_nil _ _ _ _) (fun _ => False) (some ⟨b, off, none⟩) L.length c0 (rms L) rfl HLT.out.rd HRL.out (rms_one L) (by simp only [maxLen]; omega) (by omega) (Nat.le_refl _) (fun e => by cases e) ?_; intro v7 w7 hown7 hg7 hat7; rw [Nat.zero_add, List.nil_append] at hown7; have hf7 : Fr0 WT w7 := (Fr.refl _ WT).grown hg7 (fun k _ e => by simp [Value.ownBlock] at e); obtain ⟨g7, c7, rfl, hg7b, hg7l⟩ := hown7.form hl)
    obtain ⟨_, sp7, hrow7⟩ := own_row' hown7
    have hb3 := hf7.blk HT3.out (fun h => h)
    obtain ⟨⟨x0, x1, x2, x3⟩, e0, e1, e2, e3⟩ := m_cells hb3
    obtain ⟨i0, i1, i2, i3⟩ := rms_at L n hr
    have hcell : ∀ j v, (rms L)[j]? = some v → w7.cell? ⟨g7, j, none⟩ = some v ∧ w7.frozen? ⟨g7, j, none⟩ = false := fun j v hj => ⟨by
      obtain ⟨hj1, rfl⟩ := List.getElem?_eq_some_iff.1 hj
      rw [cell_of_blk hrow7]
      simp only [List.getElem?_toArray]
      rw [List.getElem?_append_left hj1]
      exact hj, free_of_blk hrow7 _⟩
    obtain ⟨y0, z0⟩ := hcell _ _ i0
    obtain ⟨y1, z1⟩ := hcell _ _ i1
    obtain ⟨y2, z2⟩ := hcell _ _ i2
    obtain ⟨y3, z3⟩ := hcell _ _ i3
    clear hcell i0 i1 i2 i3 k0 k1 k2 g0 g1 g2
    have hng : ∀ k, k < w.heap.size + 4 → k ≠ g7 := fun k hk => by have := HST.out; omega
    have hfm := putMat_fr w7 g7 (n * 4) ⟨m', A5, c5⟩
    have HO8 := Lib.hid (putMat_own hown7 n hr ⟨m', A5, c5⟩)
    have HB80 := Lib.hid (hfm.blk (hf7.blk HT0.out (fun h => h)) (hng _ (by omega)))
    have HB81 := Lib.hid (hfm.blk (hf7.blk HT1.out (fun h => h)) (hng _ (by omega)))
    have HB82 := Lib.hid (hfm.blk (hf7.blk HT2.out (fun h => h)) (hng _ (by omega)))
    have HB83 := Lib.hid (hfm.blk hb3 (hng _ (by omega)))
    have HF8 := Lib.hid ((HFT.out.trans hf7).then hfm (fun i hi e => (hng i (by omega) e)))
    have HFT8 := Lib.hid (show Fr0 WT (putMat w7 g7 (n * 4) ⟨m', A5, c5⟩) from hf7.then hfm (fun i hi e => by omega))
    have HE : putMat w7 g7 (n * 4) ⟨m', A5, c5⟩ = ((((w7.setCell ⟨g7, n * 4, none⟩ (.int .i64 m'.num)).setCell ⟨g7, n * 4 + 1, none⟩ (.int .i64 m'.link)).setCell ⟨g7, n * 4 + 2, none⟩ (.int .i64 m'.since)).setCell ⟨g7, n * 4 + 3, none⟩ (.slice A5 m'.bytes.length c5)) := rfl
    have HG7 := Lib.hid hg7b
    clear hown7 hg7 hat7 hf7 hg7b hg7l hrow7 hb3 hng hfm
    go_upto_region 18 with fail
    rw [← HE]
    clear HE x0 x1 x2 x3 e0 e1 e2 e3 y0 y1 y2 y3 z0 z1 z2 z3
    generalize putMat w7 g7 (n * 4) ⟨m', A5, c5⟩ = W8 at *
    obtain ⟨⟨k0, k1, k2⟩, g0, g1, g2⟩ := po_cells2 HB80.out
    go_upto_region 19 with fail
    have hok8 : ∀ r' ∈ L.set n ⟨m', A5, c5⟩, r'.Ok W8 := fun r' hr' => by
      rcases List.mem_or_eq_of_mem_set hr' with h | h
      · exact (HLT.out.ok r' h).kept HFT8.out
      · subst h
        exact .own (own_kept0 HOT2.out HFT8.out) HLM.out
    have hls8 := (own_isls (L := L.set n ⟨m', A5, c5⟩) HO8.out hok8 (by rw [List.length_set]; exact hmL)).2
    have HI8 := Lib.hid hls8
    have HRD := Lib.hid (own_rd (fun k => k < W4.heap.size) HO8.out (fun k h1 _ e => by have h3 : k < W4.heap.size := e; have := HST.out; have := HS4.out; omega))
    have HF89 := Lib.hid ((Fr.refl (fun k => k < W4.heap.size) W8).setCell (p := ⟨w.heap.size, 2, none⟩) (fun _ => by show w.heap.size < W4.heap.size; have := HS4.out; omega) (.slice (some ⟨g7, 0, none⟩) L.length c7))
    have HF9 := Lib.hid (HF8.out.setCell (p := ⟨w.heap.size, 2, none⟩) (fun h => absurd h (Nat.lt_irrefl _)) (.slice (some ⟨g7, 0, none⟩) L.length c7))
    have hb90 := blk_setCell HB80.out 2 (.slice (some ⟨g7, 0, none⟩) L.length c7)
    have HB91 := Lib.hid (blk_setCell_other HB81.out (p := ⟨w.heap.size, 2, none⟩) (by show w.heap.size ≠ w.heap.size + 1; omega) (.slice (some ⟨g7, 0, none⟩) L.length c7))
    have HB92 := Lib.hid (blk_setCell_other HB82.out (p := ⟨w.heap.size, 2, none⟩) (by show w.heap.size ≠ w.heap.size + 1 + 1; omega) (.slice (some ⟨g7, 0, none⟩) L.length c7))
    have HB93 := Lib.hid (blk_setCell_other HB83.out (p := ⟨w.heap.size, 2, none⟩) (by show w.heap.size ≠ w.heap.size + 1 + 1 + 1; omega) (.slice (some ⟨g7, 0, none⟩) L.length c7))
    clear hok8 hls8 k0 k1 k2 g0 g1 g2
    generalize W8.setCell ⟨w.heap.size, 2, none⟩ (.slice (some ⟨g7, 0, none⟩) L.length c7) = W9 at *
    obtain ⟨⟨k0, k1, k2⟩, _⟩ := po_cells2 ((Fr.refl (fun _ => False) W9).drew.blk hb90 (fun h => h))
    obtain ⟨⟨y0, y1, y2⟩, f0, f1, f2⟩ := po_cells2 ((Fr.refl (fun _ => False) W9).drew.blk HB91.out (fun h => h))
    obtain ⟨⟨x0, x1, x2, x3⟩, u0, u1, u2, u3⟩ := m_cells ((Fr.refl (fun _ => False) W9).drew.blk HB92.out (fun h => h))
    obtain ⟨⟨z0, z1, z2, z3⟩, _⟩ := m_cells ((Fr.refl (fun _ => False) W9).drew.blk HB93.out (fun h => h))
    obtain ⟨⟨q0, q1, q2⟩, _⟩ := po_cells2 hb90
    obtain ⟨⟨v0, v1, v2⟩, e0, e1, e2⟩ := po_cells2 HB91.out
    obtain ⟨⟨a0, a1, a2, a3⟩, b0, b1, b2, b3⟩ := m_cells HB92.out
    obtain ⟨⟨j0, j1, j2, j3⟩, _⟩ := m_cells HB93.out
    clear hb90
    go_region
    all_goals
      go_wp2_with fail
      obtain ⟨⟨e1', e2'⟩, _⟩ := put2_blks HB91.out HB92.out (by omega) most last (some ⟨g7, 0, none⟩) L.length c7 ⟨m', A5, c5⟩
      have hfE : Fr0 w (putM (putP W9 (w.heap.size + 1) most last (some ⟨g7, 0, none⟩) L.length c7) (w.heap.size + 1 + 1) ⟨m', A5, c5⟩).drew := (putM_fr (putP_fr HF9.out (fun h => by omega)) (fun h => by omega) _).drew
      have hf7 : Fr (fun k => k < W4.heap.size) W8 (putM (putP W9 (w.heap.size + 1) most last (some ⟨g7, 0, none⟩) L.length c7) (w.heap.size + 1 + 1) ⟨m', A5, c5⟩).drew := (putM_fr (putP_fr HF89.out (fun h => by have := HS4.out; omega)) (fun h => by have := HS4.out; omega) _).drew
      have e1d := blk_drew e1'
      have e2d := blk_drew e2'
      have hE : putM (putP W9 (w.heap.size + 1) most last (some ⟨g7, 0, none⟩) L.length c7) (w.heap.size + 1 + 1) ⟨m', A5, c5⟩ = ((((((W9.setCell ⟨w.heap.size + 1, 0, none⟩ (.int .i64 most)).setCell ⟨w.heap.size + 1, 1, none⟩ (.int .i64 last)).setCell ⟨w.heap.size + 1, 2, none⟩ (.slice (some ⟨g7, 0, none⟩) L.length c7)).setCell ⟨w.heap.size + 1 + 1, 0, none⟩ (.int .i64 m'.num)).setCell ⟨w.heap.size + 1 + 1, 1, none⟩ (.int .i64 m'.link)).setCell ⟨w.heap.size + 1 + 1, 2, none⟩ (.int .i64 m'.since)).setCell ⟨w.heap.size + 1 + 1, 3, none⟩ (.slice A5 m'.bytes.length c5) := rfl
      rw [← hE]
      clear hE e1' e2'
      generalize (putM (putP W9 (w.heap.size + 1) most last (some ⟨g7, 0, none⟩) L.length c7) (w.heap.size + 1 + 1) ⟨m', A5, c5⟩).drew = WF at *
      have hrn : BArg WF A5 m'.bytes := .own (own_kept (own_kept0 HOT2.out HFT8.out) hf7 (fun k hk e => by have h1 := (own_blk HOT2.out hk).1; have h3 : k < W4.heap.size := e; omega)) HLM.out
      refine bodyPost_ret (results_rows_tmp rfl _ _ (w.heap.size + 1) (w.heap.size + 1 + 1) _ _ _ _ _ _ _ _ rfl e1d rfl e2d Try.underlying45 rfl (by kernel_rfl) Try.underlying31 rfl (by kernel_rfl)) rfl
        ⟨⟨L.set n ⟨m', A5, c5⟩, some ⟨g7, 0, none⟩, c7, ⟨m', A5, c5⟩, by rw [List.length_set]; rfl, ⟨(HRD.out.kept hf7).mono (fun _ _ h => h.elim), fun r' hr' => by
          rcases List.mem_or_eq_of_mem_set hr' with h | h
          · exact (HLS.out.ok r' h).kept hfE
          · subst h; exact hrn, HI8.out.len, HI8.out.nil, HI8.out.most⟩, by simp [msgs, List.map_set], rfl, hrn⟩, hfE⟩
end Go.Proofs.Ytbhdkpcakjookaa
