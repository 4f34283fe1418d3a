/- Chapter 12: the statement BucketCopies walked. -/
import Derived.Test.YtpelkgoipijiiaaBkK
set_option linter.unusedVariables false
set_option linter.unusedSimpArgs false
namespace Go.Proofs.Ytpelkgoipijiiaa
open Go.RowKit

/-- What is not taken, at the same tick, turns nothing. -/
theorem BkOf.tk_same {s : Sp} {l : List (Int × Int)} {B : Bk} (h : BkOf s l B) {t z : Int} (ho : ¬ okTk s l B t z) (hn : (B.tk t z).now = B.now) : B.tk t z = B := by
  unfold Bk.tk at *
  by_cases hm : B.may t
  · rw [if_pos hm] at hn ⊢
    unfold Bk.take at *
    have hf : ¬ (B.adv t).fits z := fun hf => ho ⟨hm, (h.take hm z).2.2 hf⟩
    rw [if_neg hf] at hn ⊢
    have ht : t = B.now := hn
    subst ht
    have e0 : B.k0.has ≤ B.k0.most := by rw [h.k0.1]; exact h.h0.le
    have e1 : B.k1.has ≤ B.k1.most := by rw [h.k1.1]; exact h.h1.le
    simp only [Bk.adv, Int.sub_self, K3.adv, Int.mul_zero, Int.add_zero, Int.min_eq_right e0, Int.min_eq_right e1]
  · rw [if_neg hm]

set_option maxRecDepth 100000 in
set_option maxHeartbeats 4000000 in
theorem bcopies_walk (s : Sp) (A A2 : Option Addr) (c c2 : Nat) (l m : List (Int × Int)) (w : World) (hR : Rd (fun _ => False) w A (sends l)) (hR2 : Rd (fun _ => False) w A2 (sends m)) (hl : l.length ≤ 140737488351232) (hl2 : m.length ≤ 140737488351232) :
    Calls Try.prog 6 #[spv s, .slice A l.length c, .slice A2 m.length c2] w (Yes w) := by
  have HR := Lib.hid hR
  have HR2 := Lib.hid hR2
  clear hR hR2
  have HKN := Lib.hid known12_calls
  have HBS := Lib.hid (heap_alloc_new w (.cells (spc s) 23))
  have HF0 := Lib.hid ((Fr.refl (fun _ => False) w).alloc (.cells (spc s) 23))
  have hmx : Try.prog.follows .mixedOrders = true := by kernel_rfl
  by_cases h40 : 40 < l.length + m.length
  · have hd : decide ((40 : Int) < (l.length : Int) + (m.length : Int)) = true := decide_eq_true (by omega)
    go_enter Try.func6, Try.ntmps6
    go_wp2_with (go_at_call 9; refine (HKN.out _).mono ?_; rintro e w6 ⟨rfl, hf6⟩)
    go_ret
    exact ⟨rfl, HF0.out.trans hf6⟩
  have hd : decide ((40 : Int) < (l.length : Int) + (m.length : Int)) = false := decide_eq_false (by omega)
  obtain ⟨c0, c1, c2_, c3, c4⟩ := sp_cells HBS.out
  by_cases hr : s.Right
  · have HN := Lib.hid (new_yes s hr)
    go_enter Try.func6, Try.ntmps6
    go_wp2_with fail
    refine (HN.out _).mono ?_
    rintro e w2 ⟨⟨g, rfl, hg, hb2⟩, hf2⟩
    have HF := Lib.hid (HF0.out.trans hf2)
    have HG := Lib.hid (show w.heap.size ≤ g by simp at hg; omega)
    have HB := Lib.hid hb2
    clear hf2 hg hb2 HN HBS HF0 c0 c1 c2_ c3 c4 hd
    have HOF := Lib.hid (bkOf_new hr)
    go_wp2_with fail
    go_loopw [9] (fun i wr => ∃ (k : Nat) (L : List (Int × Int)) (B : Bk), k ≤ l.length ∧ i = .int .i64 (k : Int) ∧ Hid (IsBk wr g B) ∧ Hid (BkOf s L B) ∧ Hid (Fr (· = g) w2 wr)) (fun i _ => l.length - (intOf i).toNat)
    case atStart => exact ⟨0, [], bkNew s, by omega, rfl, HB.out, HOF.out, Fr.refl _ _⟩
    case round =>
      obtain ⟨k, L, B, hk, rfl, HBK, HOK, HFR⟩ := hrel
      by_cases hlt : k < l.length
      · have hRW := HR.out.kept (fr_new HF.out HG.out HFR.out)
        obtain ⟨p, off, rfl⟩ := hRW.some_ (by rw [sends_length]; omega)
        obtain ⟨c0, c1⟩ := rdl_cells hRW k hlt
        have hi1 : (0 : Int) ≤ (k : Int) := by omega
        have hi2 : (k : Int) < (l.length : Int) := by omega
        have HTK := Lib.hid (fun w' hb => takeOf_calls HOK.out g (at_ l k) (sz_ l k) w' hb)
        have HBD := Lib.hid (show IsBk wr.drew g B from HBK.out)
        have HO2 := Lib.hid (HOK.out.tk (at_ l k) (sz_ l k))
        clear hRW
        go_wp2_with fail
        refine wp_region_class (· = wr.drew) 11 hmx (by kernel_rfl) rfl ?_
        simp only [List.take_succ_cons, List.take_zero, List.drop_succ_cons, List.drop_zero]
        repeat (go_big_quiet_step (fail))
        refine wpQuiet_nil ?_
        rintro _ rfl
        go_wp2_with (go_at_call 12; refine (HTK.out _ HBD.out).mono ?_; rintro e w3 ⟨rfl, hb3, hf3⟩)
        have HB3 := Lib.hid hb3
        have HF3 := Lib.hid (HFR.out.trans ((Fr.refl (· = g) wr).drew.trans hf3))
        clear hb3 hf3
        go_roundw
        case rel => exact ⟨k + 1, _, _, by omega, by go_num, HB3.out, HO2.out, HF3.out⟩
        case measure => simp [intOf]; omega
      · have HFW := Lib.hid (fr_new HF.out HG.out HFR.out)
        have HRT := Lib.hid HOK.out.rate
        have HCP := Lib.hid (copy_calls g B wr HBK.out HRT.out)
        have hfc := (Fr.refl (fun _ => False) wr).alloc (.cells (bkc B) 60)
        have HBC := Lib.hid (HBK.out.kept0 hfc)
        have HC := Lib.hid (heap_alloc_new wr (.cells (bkc B) 60))
        have HLT := Lib.hid HBK.out.lt
        have HFC := Lib.hid (HFW.out.trans hfc)
        have HNW := Lib.hid (fun w' hb => now_calls g B w' hb HRT.out)
        have HHS := Lib.hid (fun w' hb => hasOf_calls HOK.out g B.now w' hb)
        clear hfc
        generalize hasA B B.now = H at *
        obtain ⟨hx, hy, he⟩ := H
        have hgc : g ≠ wr.heap.size := by have := HLT.out; omega
        have hwc : w.heap.size ≤ wr.heap.size := HFW.out.size
        have HGC := Lib.hid (show g ≠ wr.heap.size ∧ w.heap.size ≤ wr.heap.size from ⟨hgc, hwc⟩)
        clear hgc hwc
        go_wp2_with (first
          | (go_at_call 17; refine HCP.out.mono ?_; rintro e w3 ⟨rfl, rfl⟩)
          | (go_at_call 14; refine (HNW.out _ HBC.out).mono ?_; rintro e w3 ⟨rfl, rfl⟩)
          | (go_at_call 18; refine (HHS.out _ HBC.out).mono ?_; rintro e w3 ⟨rfl, hf3⟩))
        have HB3 := Lib.hid (HBC.out.kept0 hf3)
        have HC3 := Lib.hid (IsBk.kept0 (b := wr.heap.size) (B := B) HC.out hf3)
        have HF3 := Lib.hid (HFC.out.trans hf3)
        clear hf3 HFW HCP HBC HC HFC HLT
        generalize wr.heap.size = cb at *
        go_wp2_with fail
        go_loopw [14, 15, 16, 17, 18, 19] (fun cv i _ _ _ _ wq => ∃ (k : Nat) (L : List (Int × Int)) (C : Bk) (ch : Bool), k ≤ m.length ∧ cv = .bool ch ∧ i = .int .i64 (k : Int) ∧ Hid (IsBk wq cb C) ∧ Hid (BkOf s L C) ∧ Hid (ch = false → C = B) ∧ Hid (Fr (· = cb) w3 wq)) (fun _ i _ _ _ _ _ => m.length - (intOf i).toNat)
        case atStart => exact ⟨0, L, B, false, by omega, rfl, rfl, HC3.out, HOK.out, fun _ => rfl, Fr.refl _ _⟩
        case round =>
          obtain ⟨j, M, C, ch, hj, rfl, rfl, HCK, HOC, HCH, HFQ⟩ := hrel
          have HFWQ := Lib.hid (fr_new HF3.out HGC.out.2 HFQ.out)
          by_cases hlt2 : j < m.length
          · have hRW := HR2.out.kept HFWQ.out
            obtain ⟨p, off, rfl⟩ := hRW.some_ (by rw [sends_length]; omega)
            have HK := Lib.hid (fun U (h : Fr0 w U) => rdl_cells (HR2.out.kept h) j hlt2)
            have hi1 : (0 : Int) ≤ (j : Int) := by omega
            have hi2 : (j : Int) < (m.length : Int) := by omega
            have HTK := Lib.hid (fun w' hb => takeOf_calls HOC.out cb (at_ m j) (sz_ m j) w' hb)
            have HBD := Lib.hid (show IsBk wr.drew cb C from HCK.out)
            have HO2 := Lib.hid (HOC.out.tk (at_ m j) (sz_ m j))
            have HSM := Lib.hid (fun (h1 : ¬ okTk s M C (at_ m j) (sz_ m j)) h2 => HOC.out.tk_same h1 h2)
            have HNC := Lib.hid (now_calls cb C wr HCK.out HOC.out.rate)
            have HND := Lib.hid (fun w' hb => now_calls cb (C.tk (at_ m j) (sz_ m j)) w' hb HO2.out.rate)
            generalize C.tk (at_ m j) (sz_ m j) = C2 at *
            clear hRW
            have arms : ch = true ∨ (ch = false ∧ okTk s M C (at_ m j) (sz_ m j)) ∨ (ch = false ∧ ¬ okTk s M C (at_ m j) (sz_ m j) ∧ C2.now ≠ C.now) ∨ (ch = false ∧ ¬ okTk s M C (at_ m j) (sz_ m j) ∧ C2.now = C.now) := by
              by_cases h1 : okTk s M C (at_ m j) (sz_ m j) <;> by_cases h2 : C2.now = C.now <;> cases ch <;> simp [h1, h2]
            rcases arms with rfl | ⟨rfl, h1⟩ | ⟨rfl, h1, h2⟩ | ⟨rfl, h1, h2⟩
            · clear HSM
              go_wp2_with (go_at_call 14; refine HNC.out.mono ?_; rintro e w4 ⟨rfl, rfl⟩)
              go_region_held3 (fun U => U.cell? ⟨p, off + j * 2, none⟩ = some (.int .i64 (at_ m j)) ∧ U.cell? ⟨p, off + j * 2 + 1, none⟩ = some (.int .i64 (sz_ m j)))
                (exact HK.out _ (by first | exact hfn | exact HFWQ.out.drew))
                ((go_at_call 12; refine (HTK.out _ HBD.out).mono ?_; rintro e w4 ⟨rfl, hb4, hf4⟩; have hfn := fr_new HF3.out HGC.out.2 (HFQ.out.trans ((Fr.refl (· = cb) wr).drew.trans hf4))))
              have HB4 := Lib.hid hb4
              have HF4 := Lib.hid (HFQ.out.trans ((Fr.refl (· = cb) wr).drew.trans hf4))
              clear hb4 hf4 hfn
              go_wp2_with (go_at_call 14; refine (HND.out _ HB4.out).mono ?_; rintro e w5 ⟨rfl, rfl⟩)
              go_roundw
              case rel => exact ⟨j + 1, _, _, true, by omega, rfl, by go_num, HB4.out, HO2.out, fun h => absurd h (by simp), HF4.out⟩
              case measure => simp [intOf]; omega
            · clear HSM
              rw [decide_eq_true h1] at HTK
              go_wp2_with (go_at_call 14; refine HNC.out.mono ?_; rintro e w4 ⟨rfl, rfl⟩)
              go_region_held3 (fun U => U.cell? ⟨p, off + j * 2, none⟩ = some (.int .i64 (at_ m j)) ∧ U.cell? ⟨p, off + j * 2 + 1, none⟩ = some (.int .i64 (sz_ m j)))
                (exact HK.out _ (by first | exact hfn | exact HFWQ.out.drew))
                ((go_at_call 12; refine (HTK.out _ HBD.out).mono ?_; rintro e w4 ⟨rfl, hb4, hf4⟩; have hfn := fr_new HF3.out HGC.out.2 (HFQ.out.trans ((Fr.refl (· = cb) wr).drew.trans hf4))))
              have HB4 := Lib.hid hb4
              have HF4 := Lib.hid (HFQ.out.trans ((Fr.refl (· = cb) wr).drew.trans hf4))
              clear hb4 hf4 hfn
              go_wp2_with (go_at_call 14; refine (HND.out _ HB4.out).mono ?_; rintro e w5 ⟨rfl, rfl⟩)
              go_roundw
              case rel => exact ⟨j + 1, _, _, true, by omega, rfl, by go_num, HB4.out, HO2.out, fun h => absurd h (by simp), HF4.out⟩
              case measure => simp [intOf]; omega
            · clear HSM
              rw [decide_eq_false h1] at HTK
              go_wp2_with (go_at_call 14; refine HNC.out.mono ?_; rintro e w4 ⟨rfl, rfl⟩)
              go_region_held3 (fun U => U.cell? ⟨p, off + j * 2, none⟩ = some (.int .i64 (at_ m j)) ∧ U.cell? ⟨p, off + j * 2 + 1, none⟩ = some (.int .i64 (sz_ m j)))
                (exact HK.out _ (by first | exact hfn | exact HFWQ.out.drew))
                ((go_at_call 12; refine (HTK.out _ HBD.out).mono ?_; rintro e w4 ⟨rfl, hb4, hf4⟩; have hfn := fr_new HF3.out HGC.out.2 (HFQ.out.trans ((Fr.refl (· = cb) wr).drew.trans hf4))))
              have HB4 := Lib.hid hb4
              have HF4 := Lib.hid (HFQ.out.trans ((Fr.refl (· = cb) wr).drew.trans hf4))
              clear hb4 hf4 hfn
              go_wp2_with (go_at_call 14; refine (HND.out _ HB4.out).mono ?_; rintro e w5 ⟨rfl, rfl⟩)
              go_roundw
              case rel => exact ⟨j + 1, _, _, true, by omega, by simp [h2], by go_num, HB4.out, HO2.out, fun h => absurd h (by simp), HF4.out⟩
              case measure => simp [intOf]; omega
            · have HE := Lib.hid ((HSM.out h1 h2).trans (HCH.out rfl))
              clear HSM
              rw [decide_eq_false h1] at HTK
              rw [h2] at HND
              clear h2
              go_wp2_with (go_at_call 14; refine HNC.out.mono ?_; rintro e w4 ⟨rfl, rfl⟩)
              go_region_held3 (fun U => U.cell? ⟨p, off + j * 2, none⟩ = some (.int .i64 (at_ m j)) ∧ U.cell? ⟨p, off + j * 2 + 1, none⟩ = some (.int .i64 (sz_ m j)))
                (exact HK.out _ (by first | exact hfn | exact HFWQ.out.drew))
                ((go_at_call 12; refine (HTK.out _ HBD.out).mono ?_; rintro e w4 ⟨rfl, hb4, hf4⟩; have hfn := fr_new HF3.out HGC.out.2 (HFQ.out.trans ((Fr.refl (· = cb) wr).drew.trans hf4))))
              have HB4 := Lib.hid hb4
              have HF4 := Lib.hid (HFQ.out.trans ((Fr.refl (· = cb) wr).drew.trans hf4))
              clear hb4 hf4 hfn
              go_wp2_with (go_at_call 14; refine (HND.out _ HB4.out).mono ?_; rintro e w5 ⟨rfl, rfl⟩)
              go_roundw
              case rel => exact ⟨j + 1, _, _, false, by omega, rfl, by go_num, HB4.out, HO2.out, fun _ => HE.out, HF4.out⟩
              case measure => simp [intOf]; omega
          · have HBQ := Lib.hid (HB3.out.kept HFQ.out HGC.out.1)
            have HSC := Lib.hid (fun (h : ch = false) w' (hf : Fr0 wr w') => same_eq g cb B w' (HBQ.out.kept0 hf) (HCH.out h ▸ HCK.out.kept0 hf) HRT.out)
            have HCC := Lib.hid (fun w' hb => copy_calls g B w' hb HRT.out)
            have HSS := Lib.hid (fun w' (hb : IsBk w' g B) => same_eq g w'.heap.size B _ (hb.kept0 ((Fr.refl (fun _ => False) w').alloc (.cells (bkc B) 60))) (heap_alloc_new w' _) HRT.out)
            have HSN := Lib.hid (fun w' (hb : IsBk w' g B) => same_nil g B (.pointer none) w' hb HRT.out (.inl rfl))
            have fin : ∀ w' : World, Fr0 wr w' → Fr0 w w' := fun w' h => HFWQ.out.trans h
            have HFIN := Lib.hid fin
            clear fin
            cases ch
            · have HSE : Hid (∀ w1, Fr0 wr w1 → Calls Try.prog 19 #[.pointer (some ⟨g, 0, none⟩), .pointer (some ⟨cb, 0, none⟩)] w1 fun e w2 => e = .returned (.bool true) ∧ Fr0 w1 w2) := Lib.hid (HSC.out rfl)
              clear HSC
              go_wp2_with (first
                | (go_at_call 14; refine (HNW.out _ HBQ.out).mono ?_; rintro e w5 ⟨rfl, rfl⟩)
                | (go_at_call 18; refine (HHS.out _ HBQ.out).mono ?_; rintro e w5 ⟨rfl, hf5⟩; have HFA := Lib.hid hf5; clear hf5))
              refine (HSE.out _ HFA.out).mono ?_
              rintro e w6 ⟨rfl, hf6⟩
              have HFA := Lib.hid (HFA.out.trans hf6)
              clear hf6
              go_wp2_with (go_at_call 17; refine (HCC.out _ (HBQ.out.kept0 HFA.out)).mono ?_; rintro e w7 ⟨rfl, rfl⟩)
              refine (HSS.out _ (HBQ.out.kept0 HFA.out)).mono ?_
              rintro e w7 ⟨rfl, hf7⟩
              have HFC := Lib.hid ((HFA.out.alloc _).trans hf7)
              clear hf7
              go_wp2_with fail
              refine (HSN.out _ (HBQ.out.kept0 HFC.out)).mono ?_
              rintro e w8 ⟨rfl, rfl⟩
              go_wp2_with (go_at_call 9; refine (HKN.out _).mono ?_; rintro e w6 ⟨rfl, hf6⟩)
              go_ret
              exact ⟨rfl, HFIN.out _ (HFC.out.trans hf6)⟩
            · go_wp2_with (first
                | (go_at_call 14; refine (HNW.out _ HBQ.out).mono ?_; rintro e w5 ⟨rfl, rfl⟩)
                | (go_at_call 18; refine (HHS.out _ HBQ.out).mono ?_; rintro e w5 ⟨rfl, hf5⟩; have HFA := Lib.hid hf5; clear hf5)
                | (go_at_call 17; refine (HCC.out _ (HBQ.out.kept0 HFA.out)).mono ?_; rintro e w7 ⟨rfl, rfl⟩))
              refine (HSS.out _ (HBQ.out.kept0 HFA.out)).mono ?_
              rintro e w7 ⟨rfl, hf7⟩
              have HFC := Lib.hid ((HFA.out.alloc _).trans hf7)
              clear hf7
              go_wp2_with fail
              refine (HSN.out _ (HBQ.out.kept0 HFC.out)).mono ?_
              rintro e w8 ⟨rfl, rfl⟩
              go_wp2_with (go_at_call 9; refine (HKN.out _).mono ?_; rintro e w6 ⟨rfl, hf6⟩)
              go_ret
              exact ⟨rfl, HFIN.out _ (HFC.out.trans hf6)⟩
  · have HN := Lib.hid (new_no s hr)
    go_enter Try.func6, Try.ntmps6
    go_wp2_with fail
    refine (HN.out _).mono ?_
    rintro e w2 ⟨rfl, hf2⟩
    have HF := Lib.hid (HF0.out.trans hf2)
    clear hf2
    go_wp2_with (go_at_call 9; refine (HKN.out _).mono ?_; rintro e w6 ⟨rfl, hf6⟩)
    go_ret
    exact ⟨rfl, HF.out.trans hf6⟩
end Go.Proofs.Ytpelkgoipijiiaa
