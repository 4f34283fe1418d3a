/- Chapter 05: the terms of a way. -/
import Derived.Test.YtjldogfpccbkeaaBd6
set_option linter.unusedVariables false
set_option linter.unusedSimpArgs false
namespace Go.Proofs.Ytjldogfpccbkeaa
open Go.RowKit
attribute [local go_sem] Oper.semAt_some

def AllT (l : List (Int × Int)) : Prop := ∀ x ∈ l, TmOk x.1 x.2
instance (l : List (Int × Int)) : Decidable (AllT l) := by unfold AllT; infer_instance
/-- The sums of the first k. -/
def wsC (l : List (Int × Int)) (k : Nat) : Int := ((l.take k).map (·.1)).sum
def wsD (l : List (Int × Int)) (k : Nat) : Int := ((l.take k).map (·.2)).sum
theorem ws_zero (l : List (Int × Int)) : wsC l 0 = 0 ∧ wsD l 0 = 0 := ⟨rfl, rfl⟩
theorem ws_succ {l : List (Int × Int)} {k : Nat} (h : k < l.length) : wsC l (k + 1) = wsC l k + at_ l k ∧ wsD l (k + 1) = wsD l k + sz_ l k := by
  unfold wsC wsD
  rw [List.take_succ_eq_append_getElem h, List.map_append, List.map_append, List.sum_append, List.sum_append, at_eq l k h, sz_eq l k h]
  simp
theorem allT_at {l : List (Int × Int)} (h : AllT l) {k : Nat} (hk : k < l.length) : TmOk (at_ l k) (sz_ l k) := h _ (at_mem hk)
theorem ws_range {l : List (Int × Int)} (h : AllT l) : ∀ {k : Nat}, k ≤ l.length → (0 ≤ wsC l k ∧ wsC l k ≤ k * 10000000) ∧ (0 ≤ wsD l k ∧ wsD l k ≤ k * 1000000)
  | 0, _ => by simp [ws_zero]
  | k + 1, hk => by
    have ih := ws_range h (k := k) (by omega)
    have e := ws_succ (l := l) (k := k) (by omega)
    obtain ⟨a, b, c, d⟩ := allT_at h (k := k) (by omega)
    rw [e.1, e.2]
    omega
theorem ws_mono {l : List (Int × Int)} (h : AllT l) {k : Nat} : ∀ {j : Nat}, k ≤ j → j ≤ l.length → wsC l k ≤ wsC l j ∧ wsD l k ≤ wsD l j
  | 0, hkj, _ => by rw [show k = 0 by omega]; simp
  | j + 1, hkj, hj => by
    by_cases he : k = j + 1
    · rw [he]; simp
    · have ih := ws_mono h (k := k) (j := j) (by omega) (by omega)
      have e := ws_succ (l := l) (k := j) (by omega)
      obtain ⟨a, b, c, d⟩ := allT_at h (k := j) (by omega)
      rw [e.1, e.2]
      omega
/-- Whether a way has terms. -/
def WayOk (l : List (Int × Int)) : Prop := TmOk (wsC l l.length) (wsD l l.length)
instance (l : List (Int × Int)) : Decidable (WayOk l) := by unfold WayOk; infer_instance
theorem ws_bad {l : List (Int × Int)} (h : AllT l) {k : Nat} (hk : k ≤ l.length) (hb : ¬ TmOk (wsC l k) (wsD l k)) : ¬ WayOk l := by
  intro hw
  have m := ws_mono h hk (Nat.le_refl _)
  have r := ws_range h hk
  unfold WayOk at hw
  rw [TmOk.iff] at hb hw
  omega
/-- What a way answers: its terms, and an error. -/
def wayC (l : List (Int × Int)) : Int := if AllT l ∧ WayOk l then wsC l l.length else 0
def wayD (l : List (Int × Int)) : Int := if AllT l ∧ WayOk l then wsD l l.length else 0
def wayE (l : List (Int × Int)) : Int := if AllT l then (if WayOk l then 0 else 3) else 2
theorem way_no2 {l : List (Int × Int)} (h : ¬ AllT l) : wayC l = 0 ∧ wayD l = 0 ∧ wayE l = 2 := by
  unfold wayC wayD wayE
  rw [if_neg (fun k => h k.1), if_neg (fun k => h k.1), if_neg h]
  simp
theorem way_no3 {l : List (Int × Int)} (h : AllT l) (h2 : ¬ WayOk l) : wayC l = 0 ∧ wayD l = 0 ∧ wayE l = 3 := by
  unfold wayC wayD wayE
  rw [if_neg (fun k => h2 k.2), if_neg (fun k => h2 k.2), if_pos h, if_neg h2]
  simp
theorem way_yes {l : List (Int × Int)} (h : AllT l) (h2 : WayOk l) : wayC l = wsC l l.length ∧ wayD l = wsD l l.length ∧ wayE l = 0 := by
  unfold wayC wayD wayE
  rw [if_pos ⟨h, h2⟩, if_pos ⟨h, h2⟩, if_pos h, if_pos h2]
  simp
set_option maxHeartbeats 2000000 in
theorem bWay_calls (A : Option Addr) (c : Nat) (l : List (Int × Int)) (w : World) (hR : Rd (fun _ => False) w A (sends l)) (hlen : l.length ≤ 1000) :
    Calls Try.prog 28 #[.slice A l.length c] w fun e w' => e = .returned (.tuple #[rtv (wayC l) (wayD l), .int .i64 (wayE l)]) ∧ Fr0 w w' := by
  have HR := Lib.hid hR
  have HBA := Lib.hid (blk_alloc (heap_alloc_new w (.cells (rtc 0 0) 25)) (.cells (rtc 0 0) 25))
  have HBB := Lib.hid (heap_an (w := w.alloc (.cells (rtc 0 0) 25)) (k := w.heap.size + 1) (.cells (rtc 0 0) 25) (by simp))
  have HF := Lib.hid (((Fr.refl (fun _ => False) w).alloc (.cells (rtc 0 0) 25)).alloc (.cells (rtc 0 0) 25))
  obtain ⟨wC, hwC⟩ : ∃ x, x = wayC l := ⟨_, rfl⟩
  obtain ⟨wD, hwD⟩ : ∃ x, x = wayD l := ⟨_, rfl⟩
  obtain ⟨wE, hwE⟩ : ∃ x, x = wayE l := ⟨_, rfl⟩
  rw [← hwC, ← hwD, ← hwE]
  have HW := Lib.hid (And.intro hwC (And.intro hwD hwE))
  clear hR hwC hwD hwE
  go_enter Try.func28, Try.ntmps28
  go_wp2_with fail
  generalize (w.alloc (.cells #[.int .i64 0, .int .i64 0] 25)).alloc (.cells #[.int .i64 0, .int .i64 0] 25) = W at *
  change Hid (W.heap[w.heap.size]? = some (.cells (rtc 0 0) 25 (0, 0))) at HBA
  go_loopw [11] (fun i wr => ∃ k : Nat, k ≤ l.length ∧ i = .int .i64 (k : Int) ∧ Hid (AllT (l.take k)) ∧ Hid (Fr0 W wr)) (fun i _ => l.length - (intOf i).toNat)
  case atStart => exact ⟨0, by omega, rfl, (fun x hx => by simp at hx), Fr.refl _ _⟩
  case round =>
    obtain ⟨k, hk, rfl, HA, HF1⟩ := hrel
    by_cases hlt : k < l.length
    · have hr := HR.out.kept (HF.out.trans HF1.out)
      obtain ⟨b, off, rfl⟩ := hr.some_ (by rw [sends_length]; omega)
      obtain ⟨d0, d1⟩ := rdl_cells hr k hlt
      have hi1 : (0 : Int) ≤ (k : Int) := by omega
      have hi2 : (k : Int) < (l.length : Int) := by omega
      have HC := Lib.hid (fun U => bcheck_calls (at_ l k) (sz_ l k) U)
      have HT := Lib.hid (show l.take (k + 1) = l.take k ++ [(at_ l k, sz_ l k)] by rw [List.take_succ_eq_append_getElem hlt, at_eq l k hlt, sz_eq l k hlt])
      have HF2 := Lib.hid (HF1.out.alloc (.cells (rtc (at_ l k) (sz_ l k)) 25))
      have hbn := heap_alloc_new wr (.cells (rtc (at_ l k) (sz_ l k)) 25)
      obtain ⟨e0, e1, _, _⟩ := two_facts hbn
      unfold chkT at HC
      clear hr hbn
      by_cases hok : TmOk (at_ l k) (sz_ l k)
      · rw [if_pos hok] at HC
        have HOK := Lib.hid hok
        clear hok
        go_wp2_with (first | (go_at_call 11; (with_reducible refine (HC.out _).mono ?_); rintro _ w5 ⟨rfl, hf5⟩) | fail)
        go_roundw
        case rel =>
          refine ⟨k + 1, by omega, by go_num, ?_, HF2.out.trans hf5⟩
          intro x hx
          rw [HT.out] at hx
          rcases List.mem_append.1 hx with hx | hx
          · exact HA.out x hx
          · rw [List.mem_singleton.1 hx]; exact HOK.out
        case measure => simp [intOf]; omega
      · rw [if_neg hok] at HC
        have HNO := Lib.hid (show ¬ AllT l from fun h => hok (h _ (at_mem hlt)))
        clear hok
        go_wp2_with (first | (go_at_call 11; (with_reducible refine (HC.out _).mono ?_); rintro _ w5 ⟨rfl, hf5⟩; have hb5 := (HF2.out.trans hf5).blk HBA.out (fun h => h); obtain ⟨c0, c1, f0, f1⟩ := two_facts hb5) | fail)
        have hn := way_no2 HNO.out
        exact bodyPost_ret (results_row_tmp (p := 2) (u := 3) rfl _ _ w.heap.size _ _ _ _ rfl (two_set hb5 _ _) Try.underlying25 rfl (by kernel_rfl)) rfl ⟨by rw [HW.out.1, HW.out.2.1, HW.out.2.2, hn.1, hn.2.1, hn.2.2]; rfl, two_fr (HF.out.trans (HF2.out.trans hf5)) (by omega) _ _⟩
    · have hkm : k = l.length := by omega
      subst hkm
      rw [List.take_length] at HA
      have HBA1 := Lib.hid (HF1.out.blk HBA.out (fun h => h))
      have HBB1 := Lib.hid (HF1.out.blk HBB.out (fun h => h))
      have HFW := Lib.hid (HF.out.trans HF1.out)
      clear HBA HBB HF1 HF hlt hk
      go_wp2_with fail
      go_loopw [22] (fun i wr => ∃ k : Nat, k ≤ l.length ∧ i = .int .i64 (k : Int) ∧ Hid (TmOk (wsC l k) (wsD l k)) ∧ Hid (wr.heap[w.heap.size]? = some (.cells (rtc 0 0) 25 (0, 0))) ∧ Hid (wr.heap[w.heap.size + 1]? = some (.cells (rtc (wsC l k) (wsD l k)) 25 (0, 0))) ∧ Hid (Fr0 w wr)) (fun i _ => l.length - (intOf i).toNat)
      case atStart => exact ⟨0, by omega, rfl, by rw [(ws_zero l).1, (ws_zero l).2]; exact ⟨by omega, by omega, by omega, by omega⟩, HBA1.out, HBB1.out, HFW.out⟩
      case round =>
        obtain ⟨k, hk, rfl, HK, HP, HQ, HF1⟩ := hrel
        clear HBA1 HBB1 HFW
        by_cases hlt : k < l.length
        · have hr := HR.out.kept HF1.out
          obtain ⟨b, off, rfl⟩ := hr.some_ (by rw [sends_length]; omega)
          obtain ⟨d0, d1⟩ := rdl_cells hr k hlt
          have hi1 : (0 : Int) ≤ (k : Int) := by omega
          have hi2 : (k : Int) < (l.length : Int) := by omega
          obtain ⟨hs1, hs2⟩ := ws_succ hlt
          obtain ⟨k1, k2, k3, k4⟩ := HK.out
          obtain ⟨t1, t2, t3, t4⟩ := allT_at HA.out hlt
          have g1 : wrap64 (wsC l k + at_ l k) = wsC l k + at_ l k := w64_id (by omega) (by omega)
          have g2 : wrap64 (wsD l k + sz_ l k) = wsD l k + sz_ l k := w64_id (by omega) (by omega)
          have HBAD := Lib.hid (fun h => ws_bad HA.out (show k + 1 ≤ l.length by omega) h)
          rw [hs1, hs2] at HBAD
          have HC := Lib.hid (fun U => bcheck_calls (wsC l k + at_ l k) (wsD l k + sz_ l k) U)
          have HS := Lib.hid (And.intro hs1 hs2)
          have hbn := heap_alloc_new wr (.cells (rtc (at_ l k) (sz_ l k)) 25)
          have hbq := blk_alloc HQ.out (.cells (rtc (at_ l k) (sz_ l k)) 25)
          have hbp := blk_alloc HP.out (.cells (rtc (at_ l k) (sz_ l k)) 25)
          have HF2 := Lib.hid (HF1.out.alloc (.cells (rtc (at_ l k) (sz_ l k)) 25))
          have hlt2 := lt_of_block HQ.out
          clear hr k1 k2 k3 k4 t1 t2 t3 t4 hs1 hs2
          generalize hWX : wr.alloc (.cells (rtc (at_ l k) (sz_ l k)) 25) = X at *
          obtain ⟨q0, q1, qf0, qf1⟩ := two_facts hbq
          obtain ⟨n0, n1, _, _⟩ := two_facts hbn
          have HQX := Lib.hid hbq
          have HPX := Lib.hid hbp
          clear hbq hbp hbn
          go_upto_region 11 with fail
          go_region
          by_cases hok : TmOk (wsC l k + at_ l k) (wsD l k + sz_ l k)
          · have HOK := Lib.hid hok
            unfold chkT at HC
            rw [if_pos hok] at HC
            clear hok
            go_wp2_with (first | (go_at_call 11; (with_reducible refine (HC.out _).mono ?_); rintro _ w5 ⟨rfl, hf5⟩; have hxd := (Fr.refl (fun _ => False) X).drew; have hq5 := hf5.blk (two_set (hxd.blk HQX.out (fun h => h)) (.int .i64 (wsC l k + at_ l k)) (.int .i64 (wsD l k + sz_ l k))) (fun h => h); have hp5 := hf5.blk (blk_setCell_other (blk_setCell_other (hxd.blk HPX.out (fun h => h)) (p := ⟨w.heap.size + 1, 0, none⟩) (by simp) (.int .i64 (wsC l k + at_ l k))) (p := ⟨w.heap.size + 1, 1, none⟩) (by simp) (.int .i64 (wsD l k + sz_ l k))) (fun h => h); have hF5 := (two_fr (b := w.heap.size + 1) (HF2.out.trans hxd) (by omega) (.int .i64 (wsC l k + at_ l k)) (.int .i64 (wsD l k + sz_ l k))).trans hf5) | fail)
            go_roundw
            case rel => exact ⟨k + 1, by omega, by go_num, by rw [HS.out.1, HS.out.2]; exact HOK.out, hp5, by rw [HS.out.1, HS.out.2]; exact hq5, hF5⟩
            case measure => simp [intOf]; omega
          · have HNO := Lib.hid (way_no3 HA.out (HBAD.out hok))
            unfold chkT at HC
            rw [if_neg hok] at HC
            clear hok
            go_wp2_with (first | (go_at_call 11; (with_reducible refine (HC.out _).mono ?_); rintro _ w5 ⟨rfl, hf5⟩; have hxd := (Fr.refl (fun _ => False) X).drew; have hq5 := hf5.blk (two_set (hxd.blk HQX.out (fun h => h)) (.int .i64 (wsC l k + at_ l k)) (.int .i64 (wsD l k + sz_ l k))) (fun h => h); have hp5 := hf5.blk (blk_setCell_other (blk_setCell_other (hxd.blk HPX.out (fun h => h)) (p := ⟨w.heap.size + 1, 0, none⟩) (by simp) (.int .i64 (wsC l k + at_ l k))) (p := ⟨w.heap.size + 1, 1, none⟩) (by simp) (.int .i64 (wsD l k + sz_ l k))) (fun h => h); have hF5 := (two_fr (b := w.heap.size + 1) (HF2.out.trans hxd) (by omega) (.int .i64 (wsC l k + at_ l k)) (.int .i64 (wsD l k + sz_ l k))).trans hf5; obtain ⟨y0, y1, f0, f1⟩ := two_facts hp5) | fail)
            exact bodyPost_ret (results_row_tmp (p := 2) (u := 3) rfl _ _ w.heap.size _ _ _ _ rfl (two_set hp5 _ _) Try.underlying25 rfl (by kernel_rfl)) rfl ⟨by rw [HW.out.1, HW.out.2.1, HW.out.2.2, HNO.out.1, HNO.out.2.1, HNO.out.2.2]; rfl, two_fr hF5 (by omega) _ _⟩
        · have hkm : k = l.length := by omega
          subst hkm
          have HY := Lib.hid (way_yes HA.out HK.out)
          obtain ⟨q0, q1, _, _⟩ := two_facts HQ.out
          obtain ⟨_, _, f0, f1⟩ := two_facts HP.out
          go_wp2_with fail
          exact bodyPost_ret (results_row_tmp (p := 2) (u := 3) rfl _ _ w.heap.size _ _ _ _ rfl (two_set HP.out _ _) Try.underlying25 rfl (by kernel_rfl)) rfl ⟨by rw [HW.out.1, HW.out.2.1, HW.out.2.2, HY.out.1, HY.out.2.1, HY.out.2.2]; rfl, two_fr HF1.out (by omega) _ _⟩
set_option maxHeartbeats 2000000 in
theorem dWay_calls (A : Option Addr) (c : Nat) (l : List (Int × Int)) (w : World) (hR : Rd (fun _ => False) w A (sends l)) (hlen : l.length ≤ 1000) :
    Calls Try.prog 29 #[.slice A l.length c] w fun e w' => e = .returned (.tuple #[rtv (wayC l) (wayD l), .int .i64 (wayE l)]) ∧ Fr0 w w' := by
  have hmx : Try.prog.follows .mixedOrders = true := by kernel_rfl
  have HR := Lib.hid hR
  have HBA := Lib.hid (heap_alloc_new w (.cells (rtc 0 0) 25))
  have HF := Lib.hid ((Fr.refl (fun _ => False) w).alloc (.cells (rtc 0 0) 25))
  obtain ⟨wC, hwC⟩ : ∃ x, x = wayC l := ⟨_, rfl⟩
  obtain ⟨wD, hwD⟩ : ∃ x, x = wayD l := ⟨_, rfl⟩
  obtain ⟨wE, hwE⟩ : ∃ x, x = wayE l := ⟨_, rfl⟩
  rw [← hwC, ← hwD, ← hwE]
  have HW := Lib.hid (And.intro hwC (And.intro hwD hwE))
  clear hR hwC hwD hwE
  go_enter Try.func29, Try.ntmps29
  go_wp2_with fail
  generalize w.alloc (.cells #[.int .i64 0, .int .i64 0] 25) = W at *
  change Hid (W.heap[w.heap.size]? = some (.cells (rtc 0 0) 25 (0, 0))) at HBA
  go_loopw [4] (fun i wr => ∃ k : Nat, k ≤ l.length ∧ i = .int .i64 (k : Int) ∧ Hid (AllT (l.take k)) ∧ Hid (Fr0 W wr)) (fun i _ => l.length - (intOf i).toNat)
  case atStart => exact ⟨0, by omega, rfl, (fun x hx => by simp at hx), Fr.refl _ _⟩
  case round =>
    obtain ⟨k, hk, rfl, HA, HF1⟩ := hrel
    by_cases hlt : k < l.length
    · have hr := HR.out.kept (HF.out.trans HF1.out)
      obtain ⟨b, off, rfl⟩ := hr.some_ (by rw [sends_length]; omega)
      obtain ⟨d0, d1⟩ := rdl_cells hr k hlt
      have hi1 : (0 : Int) ≤ (k : Int) := by omega
      have hi2 : (k : Int) < (l.length : Int) := by omega
      have HC := Lib.hid (fun U => dright5_calls (at_ l k) (sz_ l k) U)
      have HT := Lib.hid (show l.take (k + 1) = l.take k ++ [(at_ l k, sz_ l k)] by rw [List.take_succ_eq_append_getElem hlt, at_eq l k hlt, sz_eq l k hlt])
      clear hr
      by_cases hok : TmOk (at_ l k) (sz_ l k)
      · rw [decide_eq_true hok] at HC
        have HOK := Lib.hid hok
        clear hok
        go_wp2_with (first | (go_at_call 12; (with_reducible refine (HC.out _).mono ?_); rintro _ w5 ⟨rfl, hf5⟩) | fail)
        go_roundw
        case rel =>
          refine ⟨k + 1, by omega, by go_num, ?_, HF1.out.trans hf5⟩
          intro x hx
          rw [HT.out] at hx
          rcases List.mem_append.1 hx with hx | hx
          · exact HA.out x hx
          · rw [List.mem_singleton.1 hx]; exact HOK.out
        case measure => simp [intOf]; omega
      · rw [decide_eq_false hok] at HC
        have HNO := Lib.hid (show ¬ AllT l from fun h => hok (h _ (at_mem hlt)))
        clear hok
        go_wp2_with (first | (go_at_call 12; (with_reducible refine (HC.out _).mono ?_); rintro _ w5 ⟨rfl, hf5⟩; have hb5 := (HF1.out.trans hf5).blk HBA.out (fun h => h); obtain ⟨c0, c1, f0, f1⟩ := two_facts hb5) | fail)
        have hn := way_no2 HNO.out
        exact bodyPost_ret (results_row_tmp (p := 2) (u := 3) rfl _ _ w.heap.size _ _ _ _ rfl (two_set hb5 _ _) Try.underlying25 rfl (by kernel_rfl)) rfl ⟨by rw [HW.out.1, HW.out.2.1, HW.out.2.2, hn.1, hn.2.1, hn.2.2]; rfl, two_fr (HF.out.trans (HF1.out.trans hf5)) (by omega) _ _⟩
    · have hkm : k = l.length := by omega
      subst hkm
      rw [List.take_length] at HA
      have HBA1 := Lib.hid (HF1.out.blk HBA.out (fun h => h))
      have HFW := Lib.hid (HF.out.trans HF1.out)
      clear HBA HF1 HF hlt hk
      go_wp2_with fail
      obtain ⟨W1, hW1⟩ : ∃ v, v = wr := ⟨_, rfl⟩
      subst hW1
      go_loopw [5, 6, 7] (fun s5 s6 i wr => ∃ k : Nat, k ≤ l.length ∧ i = .int .i64 (k : Int) ∧ s5 = .int .i64 (wsC l k) ∧ s6 = .int .i64 (wsD l k) ∧ Hid (Fr0 W1 wr)) (fun _ _ i _ => l.length - (intOf i).toNat)
      case atStart => exact ⟨0, by omega, rfl, rfl, rfl, Fr.refl _ _⟩
      case round =>
        obtain ⟨k, hk, rfl, rfl, rfl, HF1⟩ := hrel
        by_cases hlt : k < l.length
        · have hr := HR.out.kept (HFW.out.trans HF1.out)
          obtain ⟨b, off, rfl⟩ := hr.some_ (by rw [sends_length]; omega)
          obtain ⟨d0, d1⟩ := rdl_cells hr k hlt
          have hi1 : (0 : Int) ≤ (k : Int) := by omega
          have hi2 : (k : Int) < (l.length : Int) := by omega
          obtain ⟨hs1, hs2⟩ := ws_succ hlt
          obtain ⟨⟨k1, k2⟩, k3, k4⟩ := ws_range HA.out hk
          obtain ⟨t1, t2, t3, t4⟩ := allT_at HA.out hlt
          have g1 : wrap64 (wsC l k + at_ l k) = wsC l k + at_ l k := w64_id (by omega) (by omega)
          have g2 : wrap64 (wsD l k + sz_ l k) = wsD l k + sz_ l k := w64_id (by omega) (by omega)
          have HS := Lib.hid (And.intro hs1 hs2)
          clear hr k1 k2 k3 k4 t1 t2 t3 t4 hs1 hs2
          go_upto_region 10 with fail
          obtain ⟨W2, hW2⟩ : ∃ v, v = wr := ⟨_, rfl⟩
          subst hW2
          have r0 := cg_cell (W := W2) d0
          have r1 := cg_cell (W := W2) d1
          clear d0 d1
          refine wp_region_cg hmx (by kernel_rfl) ?_
          repeat (first | go_big_quiet_step (fail))
          refine wpQuiet_nil ?_
          intro w6 hf6
          go_wp2_with fail
          go_roundw
          case rel => exact ⟨k + 1, by omega, by go_num, by rw [HS.out.1, g1], by rw [HS.out.2, g2], HF1.out.trans hf6⟩
          case measure => simp [intOf]; omega
        · have hkm : k = l.length := by omega
          subst hkm
          have HC := Lib.hid (fun U => dright5_calls (wsC l l.length) (wsD l l.length) U)
          have HBA2 := Lib.hid (HF1.out.blk HBA1.out (fun h => h))
          have HF2 := Lib.hid (HFW.out.trans HF1.out)
          by_cases hok : TmOk (wsC l l.length) (wsD l l.length)
          · rw [decide_eq_true hok] at HC
            have HY := Lib.hid (way_yes HA.out hok)
            clear hok
            go_wp2_with (first | (go_at_call 12; (with_reducible refine (HC.out _).mono ?_); rintro _ w5 ⟨rfl, hf5⟩; have hb5 := hf5.blk HBA2.out (fun h => h); obtain ⟨c0, c1, f0, f1⟩ := two_facts hb5) | fail)
            exact bodyPost_ret (results_row_tmp (p := 2) (u := 3) rfl _ _ w.heap.size _ _ _ _ rfl (two_set hb5 _ _) Try.underlying25 rfl (by kernel_rfl)) rfl ⟨by rw [HW.out.1, HW.out.2.1, HW.out.2.2, HY.out.1, HY.out.2.1, HY.out.2.2]; rfl, two_fr (HF2.out.trans hf5) (by omega) _ _⟩
          · rw [decide_eq_false hok] at HC
            have HY := Lib.hid (way_no3 HA.out hok)
            clear hok
            go_wp2_with (first | (go_at_call 12; (with_reducible refine (HC.out _).mono ?_); rintro _ w5 ⟨rfl, hf5⟩; have hb5 := hf5.blk HBA2.out (fun h => h); obtain ⟨c0, c1, f0, f1⟩ := two_facts hb5) | fail)
            exact bodyPost_ret (results_row_tmp (p := 2) (u := 3) rfl _ _ w.heap.size _ _ _ _ rfl (two_set hb5 _ _) Try.underlying25 rfl (by kernel_rfl)) rfl ⟨by rw [HW.out.1, HW.out.2.1, HW.out.2.2, HY.out.1, HY.out.2.1, HY.out.2.2]; rfl, two_fr (HF2.out.trans hf5) (by omega) _ _⟩
end Go.Proofs.Ytjldogfpccbkeaa
