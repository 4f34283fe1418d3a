/- Chapter 24: the statement PoolOrder walked. -/
import Derived.Test.YtbhdkpcakjookaaPoS
import Derived.Deep.RegionHeld3
set_option linter.unusedVariables false
set_option linter.unusedSimpArgs false
namespace Go.Proofs.Ytbhdkpcakjookaa
open Go.RowKit
attribute [local go_sem] Oper.semAt_some

/-- What is put in turn i. -/
def ordM (ls ts : List UInt8) (i : Nat) : Msg := ⟨((i + 1 : Nat) : Int), (((ls.getD i 0).toNat % 48 : Nat) : Int), ((ts.getD i 0).toNat : Int), [UInt8.ofNat i]⟩
def ordL (ls ts : List UInt8) (n : Nat) : List Msg := (List.range n).map (ordM ls ts)
theorem ordL_succ (ls ts : List UInt8) (n : Nat) : ordL ls ts (n + 1) = ordL ls ts n ++ [ordM ls ts n] := by simp [ordL, List.range_succ]
theorem ordL_length (ls ts : List UInt8) (n : Nat) : (ordL ls ts n).length = n := by simp [ordL]
theorem u8_at {w : World} {A : Option Addr} {bs : List UInt8} (h : BArg w A bs) (k : Nat) (hk : k < bs.length) : ∃ b off, A = some ⟨b, off, none⟩ ∧ w.cell? ⟨b, off + k, none⟩ = some (.int .u8 ((bs.getD k 0).toNat : Int)) := by
  obtain ⟨b, off, rfl⟩ := h.rd.some_ (by rw [u8s_length]; omega)
  refine ⟨b, off, rfl, ?_⟩
  have := h.rd.at_ k (by rw [u8s_length]; exact hk)
  rw [this]
  simp [u8s, List.getD_eq_getElem?_getD, List.getElem?_eq_getElem hk]
theorem wrap_u8_small (n : Nat) (h : n < 256) : IntKind.u8.wrap (n : Int) = (n : Int) := by
  have : IntKind.u8.wrap (n : Int) = (n : Int) % 256 := rfl
  rw [this]; omega
theorem ordL_link (ls ts : List UInt8) (n : Nat) : ∀ m ∈ ordL ls ts n, 0 ≤ m.link ∧ m.link < 48 := by
  intro m hm
  simp only [ordL, List.mem_map, List.mem_range] at hm
  obtain ⟨i, _, rfl⟩ := hm
  simp only [ordM]
  omega
theorem ordL_num (ls ts : List UInt8) (n : Nat) : (ordL ls ts n).Pairwise (fun a b => a.num < b.num) := by
  rw [ordL, List.pairwise_map]
  refine List.Pairwise.imp ?_ List.pairwise_lt_range
  intro a b h
  simp only [ordM]
  omega
theorem ordL_drop (ls ts : List UInt8) (N n : Nat) (h : n < N) : (ordL ls ts N).drop n = ordM ls ts n :: (ordL ls ts N).drop (n + 1) := by
  rw [List.drop_eq_getElem_cons (by rw [ordL_length]; exact h)]
  simp [ordL]
theorem ordL_none {ms : List Msg} (h : ∀ m ∈ ms, 0 ≤ m.link ∧ m.link < 48) : ms.filter (fun m => decide (m.link < ((0 : Nat) : Int))) = [] := by
  rw [List.filter_eq_nil_iff]
  intro m hm
  have := h m hm
  simp; omega
theorem ordL_all {ms : List Msg} (h : ∀ m ∈ ms, 0 ≤ m.link ∧ m.link < 48) : ms.filter (fun m => decide (m.link < ((48 : Nat) : Int))) = ms := by
  rw [List.filter_eq_self]
  intro m hm
  have := h m hm
  simp; omega
theorem link_step (ms : List Msg) (n : Nat) : (ms.filter (fun m => decide (m.link < ((n + 1 : Nat) : Int)))).length = (ms.filter (fun m => decide (m.link < (n : Int)))).length + (ms.filter (fun m => decide (m.link = (n : Int)))).length := by
  induction ms with
  | nil => rfl
  | cons m ms ih =>
    rcases Int.lt_trichotomy m.link n with h | h | h
    · rw [List.filter_cons_of_pos (by simp; omega), List.filter_cons_of_pos (by simp; omega), List.filter_cons_of_neg (by simp; omega)]
      simp only [List.length_cons, ih]; omega
    · rw [List.filter_cons_of_pos (by simp; omega), List.filter_cons_of_neg (by simp; omega), List.filter_cons_of_pos (by simp; omega)]
      simp only [List.length_cons, ih]; omega
    · rw [List.filter_cons_of_neg (by simp; omega), List.filter_cons_of_neg (by simp; omega), List.filter_cons_of_neg (by simp; omega)]
      exact ih
theorem pw_over {w0 w : World} {b : Nat} {most last : Int} {ms : List Msg} (hp : Pw w0 w b most last ms) (link : Int) : Calls Try.prog 16 #[.pointer (some ⟨b, 0, none⟩), .int .i64 link] w (ListPost (ms.filter (fun m => decide (m.link = link))) w) := by
  obtain ⟨L, h1, rfl, h3, h4⟩ := hp
  exact over_calls b most last L link w h1
set_option maxRecDepth 100000 in
set_option maxHeartbeats 4000000 in
theorem porder_walk (A : Option Addr) (c : Nat) (ls : List UInt8) (A' : Option Addr) (c' : Nat) (ts : List UInt8) (w : World) (hR : Rd (fun _ => False) w A (u8s ls)) (hl : ls.length ≤ 140737488351232) (hR' : Rd (fun _ => False) w A' (u8s ts)) (hl' : ts.length ≤ 140737488351232) :
    Calls Try.prog 5 #[.slice A ls.length c, .slice A' ts.length c'] w (Yes w) := by
  have HKN := Lib.hid known24_calls
  by_cases hn : ls.length ≤ 40
  · by_cases hm : ls.length ≤ ts.length
    · have hg : ¬ (40 : Int) < (ls.length : Int) := by omega
      have hg1 : ¬ (ts.length : Int) < (ls.length : Int) := by omega
      have HLS := Lib.hid (BArg.of_rd hR (by omega))
      have HTS := Lib.hid (fun (k : Nat) (hk : k < ls.length) (U : World) (hf : Fr0 w U) => show ∃ b off, A' = some ⟨b, off, none⟩ ∧ U.cell? ⟨b, off + k, none⟩ = some (.int .u8 ((ts.getD k 0).toNat : Int)) from by
        obtain ⟨b, off, rfl⟩ := hR'.some_ (by rw [u8s_length]; omega)
        refine ⟨b, off, rfl, hf.cell ?_ (fun h => h)⟩
        have hk' : k < ts.length := by omega
        rw [hR'.at_ k (by rw [u8s_length]; exact hk')]
        simp [u8s, List.getD_eq_getElem?_getD, List.getElem?_eq_getElem hk'])
      clear hR hR'
      go_enter Try.func5, Try.ntmps5
      go_wp2_with fail
      refine (pw_new 40 w w (Fr.refl _ _) (by decide)).mono ?_
      rintro e W1 ⟨b, rfl, h1, _⟩
      have H1 := Lib.hid h1
      clear h1
      go_wp2_with fail
      go_loopw [7] (fun i wr => ∃ n : Nat, i = .int .i64 (n : Int) ∧ n ≤ ls.length ∧ Hid (Pw w wr b 40 n (ordL ls ts n)))
        (fun i _ => ls.length - (intOf i).toNat)
      case atStart => exact ⟨0, rfl, Nat.zero_le _, H1.out⟩
      case round =>
        obtain ⟨n, rfl, hnl, HP⟩ := hrel
        by_cases hlt : n < ls.length
        · obtain ⟨g, off, rfl, d0⟩ := u8_at HLS.out n hlt
          obtain ⟨g', off', rfl, d1⟩ := HTS.out n hlt w (Fr.refl _ _)
          have HK := Lib.hid (fun U (hf : Fr0 w U) => And.intro (hf.cell d0 (fun h => h)) (hf.cell d1 (fun h => h)))
          have hi1 : (0 : Int) ≤ (n : Int) := by omega
          have hi2 : (n : Int) < (ls.length : Int) := by omega
          have hi3 : (n : Int) < (ts.length : Int) := by omega
          have HM := Lib.hid (show ordM ls ts n = ⟨((n + 1 : Nat) : Int), (((ls.getD n 0).toNat % 48 : Nat) : Int), ((ts.getD n 0).toNat : Int), [UInt8.ofNat n]⟩ from rfl)
          have hx : (ls.getD n 0).toNat < 256 := UInt8.toNat_lt _
          have hy : (ts.getD n 0).toNat < 256 := UInt8.toNat_lt _
          generalize (ls.getD n 0).toNat = x at *
          generalize (ts.getD n 0).toNat = y at *
          have HPU := Lib.hid (show Calls Try.prog 11 #[.pointer (some ⟨b, 0, none⟩), .int .i64 ((IntKind.i64.wrap (x : Int)).tmod 48), .int .i64 (IntKind.i64.wrap (y : Int)), .slice (some ⟨wr.heap.size, 0, none⟩) 1 1] (wr.alloc (.cells #[.int .u8 (IntKind.u8.wrap (n : Int))] 5)).drew (fun e w' => e = .returned (.tuple #[.int .i64 ((n : Int) + 1), .int .i64 0]) ∧ Pw w w' b 40 ((n : Int) + 1) (ordL ls ts (n + 1)) ∧ Fr (fun k => k = b) (wr.alloc (.cells #[.int .u8 (IntKind.u8.wrap (n : Int))] 5)).drew w') from by
            rw [show IntKind.i64.wrap (x : Int) = (x : Int) by rw [IntKind.wrap_i64]; omega, show IntKind.i64.wrap (y : Int) = (y : Int) by rw [IntKind.wrap_i64]; omega, show ((x : Int).tmod 48) = ((x % 48 : Nat) : Int) from rfl]
            have hw8 : IntKind.u8.wrap (n : Int) = ((UInt8.ofNat n).toNat : Int) := by
              have : (UInt8.ofNat n).toNat = n := by rw [UInt8.toNat_ofNat']; omega
              rw [this]; exact wrap_u8_small n (by omega)
            rw [hw8, ordL_succ, HM.out]
            have hb := barg_new wr [UInt8.ofNat n] 5 (by simp)
            have hlen := ordL_length ls ts n
            have := pw_put (HP.out.kept ((Fr.refl _ wr).alloc (.cells (u8s [UInt8.ofNat n]).toArray 5)).drew) ((x % 48 : Nat) : Int) (y : Int) (some ⟨wr.heap.size, 0, none⟩) 1 [UInt8.ofNat n] (by omega) (hb.kept (Fr.refl _ _).drew) (by simp) (by rw [hlen]; omega) (by omega)
            exact this)
          clear d0 d1 HM hx hy
          go_wp2_with fail
          go_region_held3 (fun U => U.cell? ⟨g, off + n, none⟩ = some (.int .u8 (x : Int)) ∧ U.cell? ⟨g', off' + n, none⟩ = some (.int .u8 (y : Int)))
            (exact HK.out _ (by first | exact h5.fr | (with_reducible repeat (first | exact HP.out.fr | refine Fr.drew ?_ | refine Fr.alloc ?_ _))))
            ((go_at_call 11; refine HPU.out.mono ?_; rintro e w5 ⟨rfl, h5, hf5⟩))
          have HP5 := Lib.hid h5
          clear h5 hf5 HPU HK
          go_wp2_with fail
          go_roundw
          case rel => exact ⟨n + 1, by go_num, by omega, HP5.out⟩
          case measure => simp [intOf]; omega
        · obtain rfl : n = ls.length := by omega
          have HOL := Lib.hid (ordL_length ls ts ls.length)
          have HBN := Lib.hid (ordL_link ls ts ls.length)
          have HNU := Lib.hid (ordL_num ls ts ls.length)
          have HAT := Lib.hid (fun n h => ordL_drop ls ts ls.length n h)
          generalize ordL ls ts ls.length = ms at *
          generalize hnn : ls.length = N at *
          have HNN := Lib.hid hnn
          clear hnn
          go_wp2_with fail
          go_loopw [10, 11] (fun al k wr => ∃ n : Nat, k = .int .i64 (n : Int) ∧ n ≤ 48 ∧ al = .int .i64 (((ms.filter (fun m => decide (m.link < (n : Int)))).length : Nat) : Int) ∧ Hid (Pw w wr b 40 N ms))
            (fun _ k _ => 48 - (intOf k).toNat)
          case atStart => exact ⟨0, rfl, by decide, by rw [ordL_none HBN.out]; rfl, HP.out⟩
          case round =>
            obtain ⟨n, rfl, hn48, rfl, HP2⟩ := hrel
            by_cases hlt2 : n < 48
            · have HOV := Lib.hid (pw_over HP2.out (n : Int))
              have hlf : (ms.filter (fun m => decide (m.link = (n : Int)))).length ≤ 40 := Nat.le_trans (List.length_filter_le _ _) (by rw [HOL.out]; omega)
              have hla : (ms.filter (fun m => decide (m.link < (n : Int)))).length ≤ 40 := Nat.le_trans (List.length_filter_le _ _) (by rw [HOL.out]; omega)
              have HST := Lib.hid (link_step ms n)
              have HLK := Lib.hid (show ∀ m ∈ ms.filter (fun m => decide (m.link = (n : Int))), m.link = n from fun m hm => by simpa using (List.mem_filter.1 hm).2)
              have HNM := Lib.hid (HNU.out.filter (fun m => decide (m.link = (n : Int))))
              generalize ms.filter (fun m => decide (m.link = (n : Int))) = fs at *
              generalize (ms.filter (fun m => decide (m.link < (n : Int)))).length = al at *
              have hwr : IntKind.i64.wrap ((al : Int) + (fs.length : Int)) = ((al + fs.length : Nat) : Int) := by rw [IntKind.wrap_i64]; omega
              have HLF := Lib.hid hlf
              clear hlf
              go_wp2_with (go_at_call 16; refine HOV.out.mono ?_; rintro e w5 hpost; obtain ⟨A5, c5, M, rfl, hls5, hm5, _, hf5⟩ := hpost.isls (by have := HLF.out; omega); clear hpost)
              have HML := Lib.hid (show M.length = fs.length by rw [← hm5]; simp)
              have HI5 := Lib.hid hls5
              have HF5 := Lib.hid hf5
              have HML2 := Lib.hid (show ∀ j (h : j < M.length), M[j].m.link = n from fun j h => HLK.out _ (by rw [← hm5]; exact List.mem_map_of_mem (List.getElem_mem h)))
              have HMN2 := Lib.hid (show ∀ i j (h : i < j) (h2 : j < M.length), (M[i]'(Nat.lt_trans h h2)).m.num < M[j].m.num from fun i j h h2 => by
                have := List.pairwise_iff_getElem.1 HNM.out i j (by rw [← hm5]; simp only [msgs, List.length_map]; omega) (by rw [← hm5]; simpa using h2) h
                simpa [← hm5] using this)
              clear hls5 hm5 hf5
              go_loopw [13] (fun i wr => ∃ j : Nat, i = .int .i64 (j : Int) ∧ j ≤ fs.length ∧ Hid (Fr0 w5 wr)) (fun i _ => fs.length - (intOf i).toNat)
              case atStart => exact ⟨0, rfl, Nat.zero_le _, Fr.refl _ _⟩
              case round =>
                obtain ⟨j, rfl, hj, HFJ⟩ := hrel
                by_cases hlt3 : j < fs.length
                · have hjM : j < M.length := by rw [HML.out]; exact hlt3
                  have hjl := HML2.out j hjM
                  obtain ⟨g5, o5, rfl⟩ := HI5.out.rd.some_ (by rw [rms_length]; omega)
                  have HK := Lib.hid (fun (i : Nat) (hi : i < M.length) => rd_rm (HI5.out.rd.kept HFJ.out) i hi)
                  obtain ⟨d0, d1, d2, d3⟩ := HK.out j hjM
                  rw [hjl] at d1
                  have hi1 : (0 : Int) ≤ (j : Int) := by omega
                  have hi2 : (j : Int) < (fs.length : Int) := by omega
                  rcases Nat.eq_zero_or_pos j with hj0 | hj0
                  · subst hj0
                    go_wp2_with fail
                    go_quiet (fail)
                    go_wp2_with fail
                    go_roundw
                    case rel => exact ⟨0 + 1, by have := HLF.out; go_num, by omega, HFJ.out.drewN _⟩
                    case measure => have := HLF.out; simp [intOf]; omega
                  · have hnl := HMN2.out (j - 1) j (by omega) hjM
                    obtain ⟨y0, y1, y2, y3⟩ := HK.out (j - 1) (by omega)
                    generalize M[j - 1].m.num = z0 at *
                    generalize M[j].m.num = z1 at *
                    have hc0 : ¬ z1 ≤ z0 := by omega
                    have hc1 : (0 : Int) < (j : Int) := by omega
                    have hw2 : IntKind.i64.wrap ((j : Int) - 1) = ((j - 1 : Nat) : Int) := by have := HLF.out; rw [IntKind.wrap_i64]; omega
                    have hi3 : (0 : Int) ≤ ((j - 1 : Nat) : Int) := by omega
                    have hlf2 : fs.length ≤ 40 := HLF.out
                    have hi4 : ((j - 1 : Nat) : Int) < (fs.length : Int) := by omega
                    go_wp2_with fail
                    go_quiet (fail)
                    go_wp2_with fail
                    go_roundw
                    case rel => exact ⟨j + 1, by have := HLF.out; go_num, by omega, HFJ.out.drewN _⟩
                    case measure => have := HLF.out; simp [intOf]; omega
                · go_wp2_with fail
                  go_roundw
                  case rel => exact ⟨n + 1, by go_num, by omega, by rw [HST.out]; rfl, HP2.out.kept (HF5.out.trans HFJ.out)⟩
                  case measure => simp [intOf]; omega
            · have hA : (ms.filter (fun m => decide (m.link < (n : Int)))).length = N := by
                have h48 : n = 48 := by omega
                rw [h48, ordL_all HBN.out, HOL.out]
              rw [hA]
              clear hA
              go_wp2_with fail
              go_loopw [14] (fun i wr => ∃ n : Nat, i = .int .i64 (n : Int) ∧ n ≤ N ∧ Hid (Pw w wr b 40 N (ms.drop n))) (fun i _ => N - (intOf i).toNat)
              case atStart => exact ⟨0, rfl, Nat.zero_le _, HP2.out⟩
              case round =>
                obtain ⟨n, rfl, hnN, HP4⟩ := hrel
                by_cases hlt4 : n < N
                · obtain ⟨g, off, rfl, d0⟩ := u8_at HLS.out n (by rw [HNN.out]; exact hlt4)
                  obtain ⟨g', off', rfl, d1⟩ := HTS.out n hlt4 w (Fr.refl _ _)
                  have HD0 := Lib.hid d0
                  have HD1 := Lib.hid d1
                  have hi1 : (0 : Int) ≤ (n : Int) := by omega
                  have hi2 : (n : Int) < (N : Int) := by omega
                  have hi3 : (n : Int) < (ts.length : Int) := by omega
                  have hdr := HAT.out n hlt4
                  have HM := Lib.hid (show ordM ls ts n = ⟨(n : Int) + 1, (((ls.getD n 0).toNat % 48 : Nat) : Int), ((ts.getD n 0).toNat : Int), [UInt8.ofNat n]⟩ from rfl)
                  have hx : (ls.getD n 0).toNat < 256 := UInt8.toNat_lt _
                  have hy : (ts.getD n 0).toNat < 256 := UInt8.toNat_lt _
                  have hz : (((UInt8.ofNat n).toNat : Nat) : Int) = (n : Int) := by
                    have : (UInt8.ofNat n).toNat = n := by rw [UInt8.toNat_ofNat']; omega
                    rw [this]
                  have e3 : IntKind.u8.wrap (n : Int) = (n : Int) := wrap_u8_small n (by omega)
                  clear d0 d1
                  generalize (ls.getD n 0).toNat = x at *
                  generalize (ts.getD n 0).toNat = y at *
                  have HTA := Lib.hid (pw_take HP4.out 0 0 (ordM ls ts n) (by rw [hdr]; simp) (by decide) (by simp [rnd]) (by rw [hdr]; rfl) (ms.drop (n + 1)) (by rw [hdr]; rfl))
                  rw [HM.out] at HTA
                  have e1 : IntKind.i64.wrap (x : Int) = (x : Int) := by rw [IntKind.wrap_i64]; omega
                  have e2 : IntKind.i64.wrap (y : Int) = (y : Int) := by rw [IntKind.wrap_i64]; omega
                  have e4 : ((x : Int).tmod 48) = ((x % 48 : Nat) : Int) := rfl
                  have HX := Lib.hid hx
                  have HZ := Lib.hid hz
                  clear hdr hx hy hz HM
                  go_wp2_with (go_at_call 13; refine HTA.out.mono ?_; rintro e w5 ⟨⟨A5, c5, rfl, hb5, _⟩, h5, _⟩)
                  obtain ⟨q5, o5, rfl⟩ := hb5.rd.some_ (by simp [u8s])
                  have hfa := (Fr.refl (fun _ => False) w5).alloc (.cells #[.int .i64 ((n : Int) + 1), .int .i64 ((x : Int) % 48), .int .i64 (y : Int), .slice (some ⟨q5, o5, none⟩) 1 c5] 31)
                  have HP6 := Lib.hid (h5.kept hfa)
                  have d5 : (w5.alloc (.cells #[.int .i64 ((n : Int) + 1), .int .i64 ((x : Int) % 48), .int .i64 (y : Int), .slice (some ⟨q5, o5, none⟩) 1 c5] 31)).cell? ⟨q5, o5, none⟩ = some (.int .u8 (n : Int)) := by
                    have h : _ = some (Value.int .u8 (((UInt8.ofNat n).toNat : Nat) : Int)) := (hb5.kept hfa).rd.at_ 0 (by simp [u8s])
                    rw [HZ.out] at h
                    exact h
                  obtain ⟨⟨z0, z1, z2, z3⟩, _⟩ := m_cells (heap_alloc_new w5 (.cells #[.int .i64 ((n : Int) + 1), .int .i64 ((x : Int) % 48), .int .i64 (y : Int), .slice (some ⟨q5, o5, none⟩) 1 c5] 31))
                  generalize w5.alloc (.cells #[.int .i64 ((n : Int) + 1), .int .i64 ((x : Int) % 48), .int .i64 (y : Int), .slice (some ⟨q5, o5, none⟩) 1 c5] 31) = W6 at *
                  have d0 := HP6.out.fr.cell HD0.out (fun h => h)
                  have d1 := HP6.out.fr.cell HD1.out (fun h => h)
                  have e5 : IntKind.i64.wrap ((n : Int) + 1) = (n : Int) + 1 := by rw [IntKind.wrap_i64]; omega
                  have e6 : ((x : Int).tmod 48) = (x : Int) % 48 := rfl
                  clear e4 hfa h5 hb5
                  go_quiet (fail)
                  go_wp2_with fail
                  go_roundw
                  case rel => exact ⟨n + 1, by go_num, by omega, HP6.out.kept ((Fr.refl _ W6).drewN _)⟩
                  case measure => simp [intOf]; omega
                · obtain rfl : n = N := by omega
                  have HP5 := Lib.hid (show Pw w wr b 40 n [] by
                    have h := HP4.out
                    rwa [List.drop_of_length_le (by rw [HOL.out]; exact Nat.le_refl _)] at h)
                  have HLE := Lib.hid (pw_len HP5.out)
                  go_wp2_with (first
                    | (go_at_call 17; refine HLE.out.mono ?_; rintro e w5 ⟨rfl, rfl⟩)
                    | (go_at_call 9; refine (HKN.out _).mono ?_; rintro e w' ⟨rfl, hf⟩))
                  go_ret
                  exact ⟨rfl, HP5.out.fr.trans hf⟩
    · have hg : ¬ (40 : Int) < (ls.length : Int) := by omega
      have hg1 : (ts.length : Int) < (ls.length : Int) := by omega
      go_enter Try.func5, Try.ntmps5
      go_wp2_with (go_at_call 9; refine (HKN.out _).mono ?_; rintro e w' ⟨rfl, hf⟩)
      go_ret
      exact ⟨rfl, hf⟩
  · have hg : (40 : Int) < (ls.length : Int) := by omega
    go_enter Try.func5, Try.ntmps5
    go_wp2_with (go_at_call 9; refine (HKN.out _).mono ?_; rintro e w' ⟨rfl, hf⟩)
    go_ret
    exact ⟨rfl, hf⟩
end Go.Proofs.Ytbhdkpcakjookaa
