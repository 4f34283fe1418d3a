/- Chapter 12: the statement BucketRests walked. -/
import Derived.Test.YtpelkgoipijiiaaBkJ
set_option linter.unusedVariables false
set_option linter.unusedSimpArgs false
namespace Go.Proofs.Ytpelkgoipijiiaa
open Go.RowKit

theorem rd_new (S : Nat → Prop) (w : World) (vs : List Value) (t : TypeId) (hS : ¬ S w.heap.size) : Rd S (w.alloc (.cells vs.toArray t)) (some ⟨w.heap.size, 0, none⟩) vs := by
  refine .inr ⟨_, 0, rfl, hS, fun i hi => ?_⟩
  have := cell_of_blk (heap_alloc_new w (.cells vs.toArray t)) (0 + i)
  rw [this, Nat.zero_add]
  simp [hi]
theorem send_elem : Elem Try.prog 36 2 16 := Elem.of (.agg #[.int .i64 0, .int .i64 0]) (by kernel_rfl) rfl (by decide)
theorem sends_one (l : List (Int × Int)) : ∀ u ∈ sends l, u.oneCell' = true := by
  intro u hu
  simp only [sends, List.mem_flatMap] at hu
  obtain ⟨p, _, hu⟩ := hu
  simp only [List.mem_cons, List.not_mem_nil, or_false] at hu
  rcases hu with rfl | rfl <;> rfl
theorem rd_send1 (S : Nat → Prop) (w : World) (a b : Int) (t : TypeId) (hS : ¬ S w.heap.size) : Rd S (w.alloc (.cells #[.int .i64 a, .int .i64 b] t)) (some ⟨w.heap.size, 0, none⟩) (sends [(a, b)]) := rd_new S w [.int .i64 a, .int .i64 b] t hS

/-- When all is there again. -/
def restT (s : Sp) (B : Bk) : Int := B.now + s.burst / s.rate + s.most / s.peak + 2
theorem rest_full {s : Sp} {l : List (Int × Int)} {B : Bk} (h : BkOf s l B) (hr : restT s B ≤ 2147483647) : hasA B (restT s B) = (s.burst, s.most, 0) := by
  obtain ⟨q1, q2, q3, q4, q5, q6, q7, q8⟩ := h.right
  have d0 := Int.ediv_nonneg (show 0 ≤ s.burst by omega) (show 0 ≤ s.rate by omega)
  have d1 := Int.ediv_nonneg (show 0 ≤ s.most by omega) (show 0 ≤ s.peak by omega)
  have m0 := Int.lt_ediv_add_one_mul_self s.burst (show 0 < s.rate by omega)
  have m1 := Int.lt_ediv_add_one_mul_self s.most (show 0 < s.peak by omega)
  have hm : B.may (restT s B) := ⟨by unfold restT; omega, hr⟩
  unfold hasA
  rw [if_pos hm]
  have p0 := h.p0
  have p1 := h.p1
  have e0 : restT s B - B.now = (s.burst / s.rate + 1) + (s.most / s.peak + 1) := by unfold restT; omega
  have x0 := Int.mul_nonneg (show 0 ≤ s.rate by omega) (show 0 ≤ s.most / s.peak + 1 by omega)
  have x1 := Int.mul_nonneg (show 0 ≤ s.peak by omega) (show 0 ≤ s.burst / s.rate + 1 by omega)
  rw [Int.mul_comm] at m0 m1
  simp only [Bk.adv, K3.adv, h.k0.1, h.k0.2, h.k1.1, h.k1.2, e0, Int.mul_add s.rate (s.burst / s.rate + 1), Int.mul_add s.peak (s.burst / s.rate + 1), Prod.mk.injEq, and_true]
  omega
theorem lTk_yes {s : Sp} {l : List (Int × Int)} {B : Bk} {t z : Int} (h : okTk s l B t z) : lTk s l B t z = l ++ [(t, z)] := by
  unfold lTk lTake; rw [if_pos h.1, if_pos h.2]
theorem lTk_no {s : Sp} {l : List (Int × Int)} {B : Bk} {t z : Int} (h : ¬ okTk s l B t z) : lTk s l B t z = l := by
  unfold lTk lTake
  by_cases hm : B.may t
  · rw [if_pos hm, if_neg (fun hk => h ⟨hm, hk⟩)]
  · rw [if_neg hm]
theorem askA_yes {s : Sp} {l : List (Int × Int)} {B : Bk} {t z : Int} (h : okTk s l B t z) : askA B t = 0 := if_pos h.1

set_option maxRecDepth 100000 in
set_option maxHeartbeats 4000000 in
theorem brests_walk (s : Sp) (A : Option Addr) (c : Nat) (l : List (Int × Int)) (w : World) (hR : Rd (fun _ => False) w A (sends l)) (hl : l.length ≤ 140737488351232) :
    Calls Try.prog 8 #[spv s, .slice A l.length c] w (Yes w) := by
  have HR := Lib.hid hR
  clear hR
  have HKN := Lib.hid known12_calls
  have HBS := Lib.hid (heap_alloc_new w (.cells (spc s) 23))
  have HF0 := Lib.hid ((Fr.refl (fun _ => False) w).alloc (.cells (spc s) 23))
  have hmx : Try.prog.follows .mixedOrders = true := by kernel_rfl
  by_cases hr : s.Right
  · have HN := Lib.hid (new_yes s hr)
    go_enter Try.func8, Try.ntmps8
    go_wp2_with fail
    refine (HN.out _).mono ?_
    rintro e w2 ⟨⟨g, rfl, hg, hb2⟩, hf2⟩
    have HF := Lib.hid (HF0.out.trans hf2)
    have HG := Lib.hid (show w.heap.size + 1 ≤ g by simp at hg; omega)
    have HB := Lib.hid hb2
    have HS2 := Lib.hid (hf2.blk HBS.out (fun h => h))
    have HGL := Lib.hid hb2.lt
    clear hf2 hg hb2 HN HBS HF0
    by_cases h40 : 40 < l.length
    · go_wp2_with (go_at_call 9; refine (HKN.out _).mono ?_; rintro e w6 ⟨rfl, hf6⟩)
      go_ret
      exact ⟨rfl, HF.out.trans hf6⟩
    · have HOF := Lib.hid (bkOf_new hr)
      go_wp2_with fail
      go_loopw [7, 8, 9, 10] (fun v i _ _ wr => ∃ (k : Nat) (L : List (Int × Int)) (B : Bk), k ≤ l.length ∧ i = .int .i64 (k : Int) ∧ L.length ≤ k ∧ Hid (IsBk wr g B) ∧ Hid (BkOf s L B) ∧ Hid (wr.ownsRow w2.heap.size 36 2 v L.length (sends L)) ∧ Hid (Fr (· = g) w2 wr)) (fun _ i _ _ _ => l.length - (intOf i).toNat)
      case atStart => exact ⟨0, [], bkNew s, by omega, rfl, by simp, HB.out, HOF.out, own_nil _ _ _ _, Fr.refl _ _⟩
      case round =>
        obtain ⟨k, L, B, hk, rfl, hLk, HBK, HOK, HOW, HFR⟩ := hrel
        obtain ⟨AL, cL, rfl, hlc, hcm⟩ := own_form HOW.out
        by_cases hlt : k < l.length
        · have HRW := Lib.hid (HR.out.kept (fr_new HF.out (by have := HG.out; omega) HFR.out))
          obtain ⟨p, off, rfl⟩ := HRW.out.some_ (by rw [sends_length]; omega)
          have HK := Lib.hid (fun U (h : Fr0 w U) => rdl_cells (HR.out.kept h) k hlt)
          have HFWR := Lib.hid (fr_new HF.out (by have := HG.out; omega) HFR.out)
          have hi1 : (0 : Int) ≤ (k : Int) := by omega
          have hi2 : (k : Int) < (l.length : Int) := by omega
          have HTK := Lib.hid (fun w' hb => takeOf_calls HOK.out g (at_ l k) (sz_ l k) w' hb)
          have HBD := Lib.hid (show IsBk wr.drew g B from HBK.out)
          have HO2 := Lib.hid (HOK.out.tk (at_ l k) (sz_ l k))
          by_cases hok : okTk s L B (at_ l k) (sz_ l k)
          · have e1 : decide (okTk s L B (at_ l k) (sz_ l k)) = true := decide_eq_true hok
            have e2 := askA_yes hok
            have e3 := lTk_yes hok
            rw [e1, e2] at HTK
            rw [e3] at HO2
            clear e1 e2 e3 hok
            go_wp2_with fail
            go_region_held3 (fun U => U.cell? ⟨p, off + k * 2, none⟩ = some (.int .i64 (at_ l k)) ∧ U.cell? ⟨p, off + k * 2 + 1, none⟩ = some (.int .i64 (sz_ l k)))
              (exact HK.out _ (by first | exact hfn | exact HFWR.out.drew))
              ((go_at_call 12; refine (HTK.out _ HBD.out).mono ?_; rintro e w3 ⟨rfl, hb3, hf3⟩; have hfn := fr_new HF.out (by have := HG.out; omega) (HFR.out.trans ((Fr.refl (· = g) wr).drew.trans hf3))))
            have HB3 := Lib.hid hb3
            have HF3 := Lib.hid (HFR.out.trans ((Fr.refl (· = g) wr).drew.trans hf3))
            have HW3 := Lib.hid (own_kept HOW.out ((Fr.refl (· = g) wr).drew.trans hf3) (fun q hq e => by subst e; have := (HOW.out.lt _ hq).1; have := HGL.out; omega))
            have HFN := Lib.hid hfn
            obtain ⟨c0, c1⟩ := HK.out _ hfn
            clear hb3 hf3 hfn
            go_wp2_with (at_builtin; refine wpList_app rfl (.tmp 56) (.tmp 61) _ rfl Try.underlying24 send_elem (base := w2.heap.size) (.slice AL L.length cL) L.length (sends L) rfl (own_kept0 HW3.out ((Fr.refl _ w3).alloc (.cells #[.int .i64 (at_ l k), .int .i64 (sz_ l k)] 36))) (fun _ => False) _ 1 1 (sends [(at_ l k, sz_ l k)]) rfl (rd_send1 _ w3 _ _ _ (fun h => h)) rfl (sends_one _) (by simp only [maxLen]; omega) (by omega) ((HF3.out.alloc _).size) (by simp) ?_; intro v3 w5 hown hg hat; rw [← sends_append] at hown; have HO5 := Lib.hid hown; have HF5 := Lib.hid ((HF3.out.alloc _).grown hg (fun q hq e => by have := (HW3.out.lt q e).1; omega)); have HB5 := Lib.hid (IsBk.kept HB3.out (((Fr.refl (· ≠ g) w3).alloc _).grown hg (fun q hq e e2 => by subst e2; have := (HW3.out.lt q e).1; have := HGL.out; omega)) (by simp)); clear hown hg hat)
            go_roundw
            case rel => exact ⟨k + 1, L ++ [(at_ l k, sz_ l k)], _, by omega, by go_num, by simp; omega, HB5.out, HO2.out, by rw [List.length_append]; exact HO5.out, HF5.out⟩
            case measure => simp [intOf]; omega
          · have e1 : decide (okTk s L B (at_ l k) (sz_ l k)) = false := decide_eq_false hok
            have e3 := lTk_no hok
            rw [e1] at HTK
            rw [e3] at HO2
            clear e1 e3 hok
            have haa : askA B (at_ l k) = 0 ∨ askA B (at_ l k) = 2 := by unfold askA; split <;> simp
            rcases haa with haa | haa
            all_goals
              rw [haa] at HTK
              go_wp2_with fail
              go_region_held3 (fun U => U.cell? ⟨p, off + k * 2, none⟩ = some (.int .i64 (at_ l k)) ∧ U.cell? ⟨p, off + k * 2 + 1, none⟩ = some (.int .i64 (sz_ l k)))
                (exact HK.out _ (by first | exact hfn | exact HFWR.out.drew))
                ((go_at_call 12; refine (HTK.out _ HBD.out).mono ?_; rintro e w3 ⟨rfl, hb3, hf3⟩; have hfn := fr_new HF.out (by have := HG.out; omega) (HFR.out.trans ((Fr.refl (· = g) wr).drew.trans hf3))))
              have HB3 := Lib.hid hb3
              have HF3 := Lib.hid (HFR.out.trans ((Fr.refl (· = g) wr).drew.trans hf3))
              have HW3 := Lib.hid (own_kept HOW.out ((Fr.refl (· = g) wr).drew.trans hf3) (fun q hq e => by subst e; have := (HOW.out.lt _ hq).1; have := HGL.out; omega))
              clear hb3 hf3 hfn
              go_wp2_with fail
              go_roundw
              case rel => exact ⟨k + 1, L, _, by omega, by go_num, by omega, HB3.out, HO2.out, HW3.out, HF3.out⟩
              case measure => simp [intOf]; omega
        · have HFW := Lib.hid (fr_new HF.out (by have := HG.out; omega) HFR.out)
          have hx := HFR.out.blk HS2.out (fun e : w.heap.size = g => by have := HG.out; omega)
          have HX3 := Lib.hid hx
          obtain ⟨c0, c1, c2_, c3, c4⟩ := sp_cells hx
          have HRD := Lib.hid (own_rd (fun _ => False) HOW.out (fun _ _ _ h => h))
          have HKP := Lib.hid (fun w' (h : Rd (fun _ => False) w' AL (sends L)) => keeps_calls s AL cL L w' h (by omega))
          rw [if_pos hr, decide_eq_true HOK.out.keeps] at HKP
          have HNW := Lib.hid (fun w' hb => now_calls g B w' hb HOK.out.rate)
          have HHS := Lib.hid (fun w' hb => hasOf_calls HOK.out g (restT s B) w' hb)
          have HFU := Lib.hid (rest_full HOK.out)
          obtain ⟨q1, q2, q3, q4, q5, q6, q7, q8⟩ := hr
          have hb1 := Int.ediv_nonneg (show 0 ≤ s.burst by omega) (show 0 ≤ s.rate by omega)
          have hb2 := Int.ediv_nonneg (show 0 ≤ s.most by omega) (show 0 ≤ s.peak by omega)
          have hb3 := Int.ediv_le_self s.rate (show 0 ≤ s.burst by omega)
          have hb4 := Int.ediv_le_self s.peak (show 0 ≤ s.most by omega)
          have hnn := HOK.out.now
          have HREST := Lib.hid (show restT s B = B.now + s.burst / s.rate + s.most / s.peak + 2 from rfl)
          clear hx
          go_wp2_with (go_at_call 23; refine (HKP.out _ HRD.out).mono ?_; rintro e w3 ⟨rfl, hf3⟩; have HF3 := Lib.hid (HFW.out.trans hf3); have HB3 := Lib.hid (HBK.out.kept0 hf3); have hx3 := hf3.blk HX3.out (fun h => h); clear c0 c1 c2_ c3 c4; obtain ⟨c0, c1, c2_, c3, c4⟩ := sp_cells hx3; have HX4 := Lib.hid hx3; clear hf3 hx3)
          refine wp_region_cg hmx (by kernel_rfl) ?_
          have r0 := cg_cell (W := w3) c0
          have r1 := cg_cell (W := w3) c1
          have r2 := cg_cell (W := w3) c2_
          have r3 := cg_cell (W := w3) c3
          repeat (first
            | go_big_quiet_step (fail)
            | go_big_quiet_step (first | (go_at_call 14; exact quiet_cg ((HNW.out _ (HB3.out.kept0 (Wx.fr _))).mono fun e w' h => ⟨h.1, h.2 ▸ Fr.refl _ _⟩))))
          refine wpQuiet_nil ?_
          intro w5 hf5
          rw [← HREST.out]
          have HF5 := Lib.hid (HF3.out.trans hf5)
          have HB5 := Lib.hid (HB3.out.kept0 hf5)
          have hx5 := hf5.blk HX4.out (fun h => h)
          have HX5 := Lib.hid hx5
          clear c0 c1 c2_ c3 c4 r0 r1 r2 r3 hf5 hb1 hb2 hb3 hb4
          generalize restT s B = T at *
          by_cases hbig : 2147483647 < T
          · go_wp2_with (go_at_call 9; refine (HKN.out _).mono ?_; rintro e w6 ⟨rfl, hf6⟩)
            go_ret
            exact ⟨rfl, HF5.out.trans hf6⟩
          · rw [HFU.out (by omega)] at HHS
            go_wp2_with (go_at_call 18; refine (HHS.out _ HB5.out).mono ?_; rintro e w6 ⟨rfl, hf6⟩; have HF6 := Lib.hid (HF5.out.trans hf6); have hx6 := hf6.blk HX5.out (fun h => h); obtain ⟨c0, c1, c2_, c3, c4⟩ := sp_cells hx6; clear hf6 hx6)
            go_wp2_with (go_at_call 9; refine (HKN.out _).mono ?_; rintro e w7 ⟨rfl, hf7⟩)
            go_ret
            exact ⟨rfl, HF6.out.trans hf7⟩
  · have HN := Lib.hid (new_no s hr)
    go_enter Try.func8, Try.ntmps8
    go_wp2_with fail
    refine (HN.out _).mono ?_
    rintro e w2 ⟨rfl, hf2⟩
    have HF := Lib.hid (HF0.out.trans hf2)
    clear hf2
    by_cases h40 : 40 < l.length
    all_goals
      go_wp2_with (go_at_call 9; refine (HKN.out _).mono ?_; rintro e w6 ⟨rfl, hf6⟩)
      go_ret
      exact ⟨rfl, HF.out.trans hf6⟩
end Go.Proofs.Ytpelkgoipijiiaa
