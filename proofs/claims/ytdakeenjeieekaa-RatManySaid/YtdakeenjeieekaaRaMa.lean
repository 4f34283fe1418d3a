/- Chapter 01: RatMany walked (written by genRaMa.py). -/
import Derived.Test.YtdakeenjeieekaaRaMn
import Derived.Test.YtdakeenjeieekaaRc4
import Derived.Deep.AppendLies
set_option linter.unusedVariables false
set_option linter.unusedSimpArgs false
namespace Go.Proofs.Ytdakeenjeieekaa
open Go.RowKit
attribute [local go_sem] Oper.semAt_some

/-- The least (the greatest) of the first k; nothing of none. -/
def lstK (s : Bool) (l : List (Int × Int)) (k : Nat) : Int × Int := if k = 0 then (0, 0) else firstK s l k
theorem lstK_succ {s : Bool} {l : List (Int × Int)} {k : Nat} (h : k < l.length) : lstK s l (k + 1) = if (decide (k = 0) || ahB s (at_ l k, sz_ l k) (lstK s l k)) = true then (at_ l k, sz_ l k) else lstK s l k := by
  unfold lstK
  rw [if_neg (by omega)]
  by_cases h0 : k = 0
  · subst h0
    rw [firstK_one]
    simp
  · rw [firstK_succ (by omega) h, if_neg h0, decide_eq_false h0, Bool.false_or]
    unfold pickR
    rfl
theorem lstK_mem {s : Bool} {l : List (Int × Int)} {k : Nat} (h : 0 < l.length) (hk : k ≠ 0) : lstK s l k ∈ l := by
  unfold lstK
  rw [if_neg hk]
  exact firstK_mem h k
theorem firstR_tup (s : Bool) (l : List (Int × Int)) (h : AllR l) : tupR (firstR s l) = .tuple #[rtv (lstK s l l.length).1 (lstK s l l.length).2, .int .i64 (if l.length = 0 then 2 else 0)] := by
  unfold firstR lstK
  by_cases h0 : l.length = 0
  · rw [if_pos h0, if_pos h0, if_pos h0]; rfl
  · rw [if_neg h0, if_neg h0, if_neg h0, if_pos h]; rfl
theorem sumK_err110 {l : List (Int × Int)} : ∀ {k : Nat} {e : Int}, k ≤ l.length → sumK l k = .error e → e = 110
  | 0, e, _, h => by rw [sumK_zero] at h; cases h
  | k + 1, e, hk, h => by
    rw [sumK_succ (by omega)] at h
    unfold addR at h
    split at h
    · exact rR_err h
    · rename_i e' he
      injection h with h
      exact h ▸ sumK_err110 (by omega) he
set_option maxHeartbeats 4000000 in
set_option maxRecDepth 20000 in
theorem many_yes (A : Option Addr) (c : Nat) (l : List (Int × Int)) (w : World) (h20 : l.length ≤ 20) (hall : AllR l) (hl : I64l l) (hR : Rd (fun _ => False) w A (sends l)) (s1 s2 s3 no : Int)
    (h1s : rN (sumK l l.length) = s1) (h2s : rD (sumK l l.length) = s2) (h3s : rE (sumK l l.length) = s3) (hno : (if l.length = 0 then (2 : Int) else 0) = no)
    (HS : Hid (∀ U, Fr0 w U → Calls Try.prog 31 #[.slice A l.length c] U fun e w' => e = .returned (.tuple #[rtv s1 s2, .int .i64 s3]) ∧ Fr0 U w'))
    (HL : Hid (∀ U, Fr0 w U → Calls Try.prog 32 #[.slice A l.length c] U fun e w' => e = .returned (.tuple #[rtv (lstK true l l.length).1 (lstK true l l.length).2, .int .i64 no]) ∧ Fr0 U w'))
    (HG : Hid (∀ U, Fr0 w U → Calls Try.prog 33 #[.slice A l.length c] U fun e w' => e = .returned (.tuple #[rtv (lstK false l l.length).1 (lstK false l l.length).2, .int .i64 no]) ∧ Fr0 U w')) :
    Calls Try.prog 10 #[.slice A l.length c] w fun e w' => e = .returned (.bool true) ∧ Fr0 w w' := by
  have hmx : Try.prog.follows .mixedOrders = true := by kernel_rfl
  have h1 : decide (20 < l.length) = false := decide_eq_false (by omega)
  have h2 : decide ((20 : Int) < (l.length : Int)) = false := decide_eq_false (by omega)
  have HK := Lib.hid known_calls
  have HR := Lib.hid hR
  have HI := Lib.hid hl
  have HAL := Lib.hid hall
  have HSE := Lib.hid (And.intro h1s (And.intro h2s (And.intro h3s hno)))
  have HF0 := Lib.hid (Fr.refl (fun _ => False) w)
  clear hall hl hR h1s h2s h3s hno
  go_enter Try.func10, Try.ntmps10
  go_wp2_with (first
    | (go_at_call 31; (with_reducible refine (HS.out _ HF0.out).mono ?_); rintro _ w3 ⟨rfl, hf3⟩; have K3 := Lib.hid (heap_alloc_new w3 (.cells (rtc s1 s2) 23)); have HF3 := Lib.hid ((HF0.out.trans hf3).alloc (.cells (rtc s1 s2) 23)))
    | (go_at_call 32; (with_reducible refine (HL.out _ HF3.out).mono ?_); rintro _ w5 ⟨rfl, hf5⟩; have K35 := Lib.hid (blk_alloc (hf5.blk K3.out (fun h => h)) (.cells (rtc (lstK true l l.length).1 (lstK true l l.length).2) 23)); have K5 := Lib.hid (heap_alloc_new w5 (.cells (rtc (lstK true l l.length).1 (lstK true l l.length).2) 23)); have HF5 := Lib.hid ((HF3.out.trans hf5).alloc (.cells (rtc (lstK true l l.length).1 (lstK true l l.length).2) 23)))
    | (go_at_call 33; (with_reducible refine (HG.out _ HF5.out).mono ?_); rintro _ w7 ⟨rfl, hf7⟩; have K37 := Lib.hid (blk_alloc (hf7.blk K35.out (fun h => h)) (.cells (rtc (lstK false l l.length).1 (lstK false l l.length).2) 23)); have K57 := Lib.hid (blk_alloc (hf7.blk K5.out (fun h => h)) (.cells (rtc (lstK false l l.length).1 (lstK false l l.length).2) 23)); have K7 := Lib.hid (heap_alloc_new w7 (.cells (rtc (lstK false l l.length).1 (lstK false l l.length).2) 23)); have HF7 := Lib.hid ((HF5.out.trans hf7).alloc (.cells (rtc (lstK false l l.length).1 (lstK false l l.length).2) 23)))
    | fail)
  have J3 := Lib.hid (blk_alloc (blk_alloc (blk_alloc (K37.out) (.cells (rtc 0 1) 23)) (.cells (rtc 0 0) 23)) (.cells (rtc 0 0) 23))
  have J5 := Lib.hid (blk_alloc (blk_alloc (blk_alloc (K57.out) (.cells (rtc 0 1) 23)) (.cells (rtc 0 0) 23)) (.cells (rtc 0 0) 23))
  have J7 := Lib.hid (blk_alloc (blk_alloc (blk_alloc (K7.out) (.cells (rtc 0 1) 23)) (.cells (rtc 0 0) 23)) (.cells (rtc 0 0) 23))
  have J9 := Lib.hid (blk_alloc (blk_alloc (heap_an (w := w7.alloc (.cells (rtc (lstK false l l.length).1 (lstK false l l.length).2) 23)) (k := w7.heap.size + 1) (.cells (rtc 0 1) 23) (by simp)) (.cells (rtc 0 0) 23)) (.cells (rtc 0 0) 23))
  have J11 := Lib.hid (blk_alloc (heap_an (w := (w7.alloc (.cells (rtc (lstK false l l.length).1 (lstK false l l.length).2) 23)).alloc (.cells (rtc 0 1) 23)) (k := w7.heap.size + 1 + 1) (.cells (rtc 0 0) 23) (by simp)) (.cells (rtc 0 0) 23))
  have J12 := Lib.hid (heap_an (w := ((w7.alloc (.cells (rtc (lstK false l l.length).1 (lstK false l l.length).2) 23)).alloc (.cells (rtc 0 1) 23)).alloc (.cells (rtc 0 0) 23)) (k := w7.heap.size + 1 + 1 + 1) (.cells (rtc 0 0) 23) (by simp))
  have JF := Lib.hid (((HF7.out.alloc (.cells (rtc 0 1) 23)).alloc (.cells (rtc 0 0) 23)).alloc (.cells (rtc 0 0) 23))
  generalize (((w7.alloc (.cells (rtc (lstK false l l.length).1 (lstK false l l.length).2) 23)).alloc (.cells (rtc 0 1) 23)).alloc (.cells (rtc 0 0) 23)).alloc (.cells (rtc 0 0) 23) = W at *
  have hs5 := hf5.size
  have hs7 := hf7.size
  have hs3 := HF3.out.size
  have e5 : (w3.alloc (.cells (rtc s1 s2) 23)).heap.size = w3.heap.size + 1 := by simp
  have e7 : (w5.alloc (.cells (rtc (lstK true l l.length).1 (lstK true l l.length).2) 23)).heap.size = w5.heap.size + 1 := by simp
  have e3 : w.heap.size ≤ w3.heap.size := hf3.size
  clear K3 HF3 K35 K5 HF5 K37 K57 K7 HF7 HS HL HG hf3 hf5 hf7
  generalize hb7 : w7.heap.size = b7 at *
  generalize w5.heap.size = b5 at *
  generalize w3.heap.size = b3 at *
  have HN : Hid (w.heap.size ≤ b3 ∧ b3 < b5 ∧ b5 < b7) := ⟨by omega, by omega, by omega⟩
  clear hs5 hs7 hs3 e5 e7 e3 hb7
  go_loopw [13] (fun i wr => ∃ k : Nat, k ≤ l.length ∧ i = .int .i64 (k : Int) ∧ Hid (Fr0 W wr)) (fun i _ => l.length - (intOf i).toNat)
  case atStart => exact ⟨0, by omega, rfl, Fr.refl _ _⟩
  case round =>
    obtain ⟨k, hk, rfl, HF⟩ := hrel
    by_cases hlt : k < l.length
    · have hr := HR.out.kept (JF.out.trans HF.out)
      obtain ⟨b, off, rfl⟩ := hr.some_ (by rw [sends_length]; omega)
      obtain ⟨d0, d1⟩ := rdl_cells hr k hlt
      have hi1 : (0 : Int) ≤ (k : Int) := by omega
      have hi2 : (k : Int) < (l.length : Int) := by omega
      have hi64 := HI.out _ (at_mem hlt)
      have HRT := Lib.hid (fun U => right_calls (at_ l k) (sz_ l k) hi64.1 hi64.2 U)
      rw [decide_eq_true (allR_at HAL.out hlt)] at HRT
      clear hr hi64
      go_wp2_with (first | (go_at_call 14; (with_reducible refine (HRT.out _).mono ?_); rintro _ v5 ⟨rfl, hf5⟩) | fail)
      go_roundw
      case rel => exact ⟨k + 1, by omega, by go_num, HF.out.trans hf5⟩
      case measure => simp [intOf]; omega
    · have hkm : k = l.length := by omega
      subst hkm
      have I3 := Lib.hid ((HF.out).blk J3.out (fun h => h))
      have I5 := Lib.hid ((HF.out).blk J5.out (fun h => h))
      have I7 := Lib.hid ((HF.out).blk J7.out (fun h => h))
      have I9 := Lib.hid ((HF.out).blk J9.out (fun h => h))
      have I11 := Lib.hid ((HF.out).blk J11.out (fun h => h))
      have I12 := Lib.hid ((HF.out).blk J12.out (fun h => h))
      have IF := Lib.hid (JF.out.trans (HF.out))
      clear HF J3 J5 J7 J9 J11 J12 JF
      go_wp2_with fail
      go_loopw [10, 14] (fun s10 s14 wr => ∃ k : Nat, k ≤ l.length ∧ s14 = .int .i64 (k : Int) ∧ s10 = .int .i64 (rE (sumK l k)) ∧ Hid (wr.heap[b3]? = some (.cells (rtc s1 s2) 23 (0, 0))) ∧ Hid (wr.heap[b5]? = some (.cells (rtc (lstK true l l.length).1 (lstK true l l.length).2) 23 (0, 0))) ∧ Hid (wr.heap[b7]? = some (.cells (rtc (lstK false l l.length).1 (lstK false l l.length).2) 23 (0, 0))) ∧ Hid (wr.heap[b7 + 1]? = some (.cells (rtc (rN (sumK l k)) (rD (sumK l k))) 23 (0, 0))) ∧ Hid (wr.heap[b7 + 1 + 1]? = some (.cells (rtc (lstK true l k).1 (lstK true l k).2) 23 (0, 0))) ∧ Hid (wr.heap[b7 + 1 + 1 + 1]? = some (.cells (rtc (lstK false l k).1 (lstK false l k).2) 23 (0, 0))) ∧ Hid (Fr0 w wr)) (fun _ i _ => l.length - (intOf i).toNat)
      case atStart => exact ⟨0, by omega, rfl, rfl, I3, I5, I7, I9, I11, I12, IF⟩
      case round =>
        obtain ⟨k, hk, rfl, rfl, A3, A5, A7, A9, A11, A12, AF⟩ := hrel
        clear I3 I5 I7 I9 I11 I12 IF
        by_cases hlt : k < l.length
        · have hr := HR.out.kept AF.out
          obtain ⟨b, off, rfl⟩ := hr.some_ (by rw [sends_length]; omega)
          have HD := Lib.hid (fun (U : World) (hf : Fr0 w U) => rdl_cells (HR.out.kept hf) k hlt)
          have hi1 : (0 : Int) ≤ (k : Int) := by omega
          have hi2 : (k : Int) < (l.length : Int) := by omega
          have HI64 := Lib.hid (HI.out _ (at_mem hlt))
          have HOK := Lib.hid (allR_at HAL.out hlt)
          obtain ⟨t1, ht1⟩ : ∃ t, t = (decide (k = 0) || ahB true (at_ l k, sz_ l k) (lstK true l k)) := ⟨_, rfl⟩
          obtain ⟨t2, ht2⟩ : ∃ t, t = (decide (k = 0) || ahB false (at_ l k, sz_ l k) (lstK false l k)) := ⟨_, rfl⟩
          have HL1 := Lib.hid (lstK_succ (s := true) hlt)
          have HL2 := Lib.hid (lstK_succ (s := false) hlt)
          rw [← ht1] at HL1
          rw [← ht2] at HL2
          have HT1 := Lib.hid ht1
          have HT2 := Lib.hid ht2
          have HCS : Hid ((rE (sumK l k) = 0 ∧ RtOk (rN (sumK l k)) (rD (sumK l k)) ∧ I64r (rN (sumK l k)) ∧ I64r (rD (sumK l k)) ∧ sumK l (k + 1) = rR (rq (rN (sumK l k)) (rD (sumK l k)) + rq (at_ l k) (sz_ l k))) ∨ (rE (sumK l k) = 110 ∧ sumK l (k + 1) = sumK l k)) := by
            have hsk := sumK_succ hlt
            cases hz : sumK l k with
            | ok p =>
              obtain ⟨g1, g2, g3⟩ := sumK_good (n := p.1) (d := p.2) hz hk
              rw [hz] at hsk
              exact .inl ⟨rfl, g1, g2, g3, hsk⟩
            | error e =>
              have := sumK_err110 hk hz
              subst this
              rw [hz] at hsk
              exact .inr ⟨rfl, hsk⟩
          clear hr ht1 ht2
          go_upto_region 16 with fail
          go_cut [85] from 69 to 115 (fun sx wx => sx = .bool t1 ∧ Hid (Fr0 wr wx))
          case first =>
            have ht := HT1.out
            by_cases hk0 : k = 0
            · have z1 : ((k : Int) == 0) = true := by simp [hk0]
              have z2 : decide ((k : Int) = 0) = true := decide_eq_true (by omega)
              have e1 : t1 = true := by rw [ht, decide_eq_true hk0]; rfl
              subst e1
              clear ht hk0 HL1 HL2 HCS HT1
              refine wp_region_cg hmx (by kernel_rfl) ?_
              repeat (first | go_big_quiet_step (fail))
              refine wpQuiet_nil ?_
              intro w6 hf6
              go_wp2_with fail
              go_meet
              exact ⟨rfl, hf6⟩
            · have z1 : ((k : Int) == 0) = false := by simp [hk0]
              have z2 : decide ((k : Int) = 0) = false := decide_eq_false (by omega)
              have hm := lstK_mem (s := true) (l := l) (k := k) (by omega) hk0
              have HCL := Lib.hid (fun U => dcmp_calls (at_ l k) (sz_ l k) (lstK true l k).1 (lstK true l k).2 HOK.out (HAL.out _ hm) HI64.out (HI.out _ hm) U)
              have e1 : t1 = decide (cmpN (at_ l k) (sz_ l k) (lstK true l k).1 (lstK true l k).2 < 0) := by rw [ht, decide_eq_false hk0]; rfl
              obtain ⟨d0, d1⟩ := HD.out _ AF.out
              obtain ⟨c0, c1, _, _⟩ := two_facts A11.out
              have r0 := cg_cell d0
              have r1 := cg_cell d1
              have r2 := cg_cell c0
              have r3 := cg_cell c1
              clear ht hk0 HL1 HL2 HCS HT1 d0 d1 c0 c1 hm
              refine wp_region_cg hmx (by kernel_rfl) ?_
              repeat (first
                | go_big_quiet_step (fail)
                | go_big_quiet_step ((go_at_call 30; with_reducible exact quiet_cg (HCL.out _))))
              refine wpQuiet_nil ?_
              intro w6 hf6
              go_wp2_with fail
              go_meet
              exact ⟨by rw [e1], hf6⟩
          case rest =>
            obtain ⟨rfl, HX1⟩ := hcut
            obtain ⟨x1, hx1⟩ : ∃ v, v = wc := ⟨_, rfl⟩
            subst hx1
            have B3 := Lib.hid ((HX1.out).blk A3.out (fun h => h))
            have B5 := Lib.hid ((HX1.out).blk A5.out (fun h => h))
            have B7 := Lib.hid ((HX1.out).blk A7.out (fun h => h))
            have B9 := Lib.hid ((HX1.out).blk A9.out (fun h => h))
            have B11 := Lib.hid ((HX1.out).blk A11.out (fun h => h))
            have B12 := Lib.hid ((HX1.out).blk A12.out (fun h => h))
            have BF := Lib.hid (AF.out.trans (HX1.out))
            clear A3 A5 A7 A9 A11 A12 AF HT1
            go_upto_if 85 with fail
            go_cut [] from 69 to 115 (fun wx => Hid (wx.heap[b3]? = some (.cells (rtc s1 s2) 23 (0, 0))) ∧ Hid (wx.heap[b5]? = some (.cells (rtc (lstK true l l.length).1 (lstK true l l.length).2) 23 (0, 0))) ∧ Hid (wx.heap[b7]? = some (.cells (rtc (lstK false l l.length).1 (lstK false l l.length).2) 23 (0, 0))) ∧ Hid (wx.heap[b7 + 1]? = some (.cells (rtc (rN (sumK l k)) (rD (sumK l k))) 23 (0, 0))) ∧ Hid (wx.heap[b7 + 1 + 1]? = some (.cells (rtc (lstK true l (k + 1)).1 (lstK true l (k + 1)).2) 23 (0, 0))) ∧ Hid (wx.heap[b7 + 1 + 1 + 1]? = some (.cells (rtc (lstK false l k).1 (lstK false l k).2) 23 (0, 0))) ∧ Hid (Fr0 w wx))
            case first =>
              rcases t1 with _ | _
              · go_wp2_with fail
                go_meet
                rw [(show lstK true l (k + 1) = lstK true l k from HL1.out)]
                exact ⟨B3, B5, B7, B9, B11, B12, BF⟩
              · obtain ⟨d0, d1⟩ := HD.out _ BF.out
                obtain ⟨_, _, f0, f1⟩ := two_facts B11.out
                go_wp2_with fail
                go_meet
                rw [(show lstK true l (k + 1) = ((at_ l k), (sz_ l k)) from HL1.out)]
                have hn := HN.out
                exact ⟨blk_setCell_other (blk_setCell_other B3.out (p := ⟨b7 + 1 + 1, 0, none⟩) (by simp <;> omega) _) (p := ⟨b7 + 1 + 1, 1, none⟩) (by simp <;> omega) _, blk_setCell_other (blk_setCell_other B5.out (p := ⟨b7 + 1 + 1, 0, none⟩) (by simp <;> omega) _) (p := ⟨b7 + 1 + 1, 1, none⟩) (by simp <;> omega) _, blk_setCell_other (blk_setCell_other B7.out (p := ⟨b7 + 1 + 1, 0, none⟩) (by simp <;> omega) _) (p := ⟨b7 + 1 + 1, 1, none⟩) (by simp <;> omega) _, blk_setCell_other (blk_setCell_other B9.out (p := ⟨b7 + 1 + 1, 0, none⟩) (by simp <;> omega) _) (p := ⟨b7 + 1 + 1, 1, none⟩) (by simp <;> omega) _, two_set B11.out _ _, blk_setCell_other (blk_setCell_other B12.out (p := ⟨b7 + 1 + 1, 0, none⟩) (by simp <;> omega) _) (p := ⟨b7 + 1 + 1, 1, none⟩) (by simp <;> omega) _, two_fr BF.out (by omega) _ _⟩
            case rest =>
              obtain ⟨C3, C5, C7, C9, C11, C12, CF⟩ := hcut
              obtain ⟨wq, hwq⟩ : ∃ v, v = wc := ⟨_, rfl⟩
              subst hwq
              go_upto_region 18 with fail
              go_cut [100] from 69 to 115 (fun sx wx => sx = .bool t2 ∧ Hid (Fr0 wq wx))
              case first =>
                have ht := HT2.out
                by_cases hk0 : k = 0
                · have z1 : ((k : Int) == 0) = true := by simp [hk0]
                  have z2 : decide ((k : Int) = 0) = true := decide_eq_true (by omega)
                  have e1 : t2 = true := by rw [ht, decide_eq_true hk0]; rfl
                  subst e1
                  clear ht hk0 HL1 HL2 HCS HT2
                  refine wp_region_cg hmx (by kernel_rfl) ?_
                  repeat (first | go_big_quiet_step (fail))
                  refine wpQuiet_nil ?_
                  intro w6 hf6
                  go_wp2_with fail
                  go_meet
                  exact ⟨rfl, hf6⟩
                · have z1 : ((k : Int) == 0) = false := by simp [hk0]
                  have z2 : decide ((k : Int) = 0) = false := decide_eq_false (by omega)
                  have hm := lstK_mem (s := false) (l := l) (k := k) (by omega) hk0
                  have HCL := Lib.hid (fun U => dcmp_calls (at_ l k) (sz_ l k) (lstK false l k).1 (lstK false l k).2 HOK.out (HAL.out _ hm) HI64.out (HI.out _ hm) U)
                  have e1 : t2 = decide (0 < cmpN (at_ l k) (sz_ l k) (lstK false l k).1 (lstK false l k).2) := by rw [ht, decide_eq_false hk0]; rfl
                  obtain ⟨d0, d1⟩ := HD.out _ CF.out
                  obtain ⟨c0, c1, _, _⟩ := two_facts C12.out
                  have r0 := cg_cell d0
                  have r1 := cg_cell d1
                  have r2 := cg_cell c0
                  have r3 := cg_cell c1
                  clear ht hk0 HL1 HL2 HCS HT2 d0 d1 c0 c1 hm
                  refine wp_region_cg hmx (by kernel_rfl) ?_
                  repeat (first
                    | go_big_quiet_step (fail)
                    | go_big_quiet_step ((go_at_call 30; with_reducible exact quiet_cg (HCL.out _))))
                  refine wpQuiet_nil ?_
                  intro w6 hf6
                  go_wp2_with fail
                  go_meet
                  exact ⟨by rw [e1], hf6⟩
              case rest =>
                obtain ⟨rfl, HX2⟩ := hcut
                obtain ⟨x2, hx2⟩ : ∃ v, v = wc := ⟨_, rfl⟩
                subst hx2
                have D3 := Lib.hid ((HX2.out).blk C3.out (fun h => h))
                have D5 := Lib.hid ((HX2.out).blk C5.out (fun h => h))
                have D7 := Lib.hid ((HX2.out).blk C7.out (fun h => h))
                have D9 := Lib.hid ((HX2.out).blk C9.out (fun h => h))
                have D11 := Lib.hid ((HX2.out).blk C11.out (fun h => h))
                have D12 := Lib.hid ((HX2.out).blk C12.out (fun h => h))
                have DF := Lib.hid (CF.out.trans (HX2.out))
                clear C3 C5 C7 C9 C11 C12 CF HT2
                go_upto_if 100 with fail
                go_cut [] from 69 to 115 (fun wx => Hid (wx.heap[b3]? = some (.cells (rtc s1 s2) 23 (0, 0))) ∧ Hid (wx.heap[b5]? = some (.cells (rtc (lstK true l l.length).1 (lstK true l l.length).2) 23 (0, 0))) ∧ Hid (wx.heap[b7]? = some (.cells (rtc (lstK false l l.length).1 (lstK false l l.length).2) 23 (0, 0))) ∧ Hid (wx.heap[b7 + 1]? = some (.cells (rtc (rN (sumK l k)) (rD (sumK l k))) 23 (0, 0))) ∧ Hid (wx.heap[b7 + 1 + 1]? = some (.cells (rtc (lstK true l (k + 1)).1 (lstK true l (k + 1)).2) 23 (0, 0))) ∧ Hid (wx.heap[b7 + 1 + 1 + 1]? = some (.cells (rtc (lstK false l (k + 1)).1 (lstK false l (k + 1)).2) 23 (0, 0))) ∧ Hid (Fr0 w wx))
                case first =>
                  rcases t2 with _ | _
                  · go_wp2_with fail
                    go_meet
                    rw [(show lstK false l (k + 1) = lstK false l k from HL2.out)]
                    exact ⟨D3, D5, D7, D9, D11, D12, DF⟩
                  · obtain ⟨d0, d1⟩ := HD.out _ DF.out
                    obtain ⟨_, _, f0, f1⟩ := two_facts D12.out
                    go_wp2_with fail
                    go_meet
                    rw [(show lstK false l (k + 1) = ((at_ l k), (sz_ l k)) from HL2.out)]
                    have hn := HN.out
                    exact ⟨blk_setCell_other (blk_setCell_other D3.out (p := ⟨b7 + 1 + 1 + 1, 0, none⟩) (by simp <;> omega) _) (p := ⟨b7 + 1 + 1 + 1, 1, none⟩) (by simp <;> omega) _, blk_setCell_other (blk_setCell_other D5.out (p := ⟨b7 + 1 + 1 + 1, 0, none⟩) (by simp <;> omega) _) (p := ⟨b7 + 1 + 1 + 1, 1, none⟩) (by simp <;> omega) _, blk_setCell_other (blk_setCell_other D7.out (p := ⟨b7 + 1 + 1 + 1, 0, none⟩) (by simp <;> omega) _) (p := ⟨b7 + 1 + 1 + 1, 1, none⟩) (by simp <;> omega) _, blk_setCell_other (blk_setCell_other D9.out (p := ⟨b7 + 1 + 1 + 1, 0, none⟩) (by simp <;> omega) _) (p := ⟨b7 + 1 + 1 + 1, 1, none⟩) (by simp <;> omega) _, blk_setCell_other (blk_setCell_other D11.out (p := ⟨b7 + 1 + 1 + 1, 0, none⟩) (by simp <;> omega) _) (p := ⟨b7 + 1 + 1 + 1, 1, none⟩) (by simp <;> omega) _, two_set D12.out _ _, two_fr DF.out (by omega) _ _⟩
                case rest =>
                  obtain ⟨E3, E5, E7, E9, E11, E12, EF⟩ := hcut
                  obtain ⟨wp, hwp⟩ : ∃ v, v = wc := ⟨_, rfl⟩
                  subst hwp
                  rcases HCS.out with ⟨he, g1, g2, g3, hsk⟩ | ⟨he, hsk⟩
                  · have HPL := Lib.hid (fun U => plus_calls (rN (sumK l k)) (rD (sumK l k)) (at_ l k) (sz_ l k) g1 HOK.out ⟨g2, g3⟩ HI64.out U)
                    rw [← hsk] at HPL
                    unfold tupR at HPL
                    have e1 : decide (rE (sumK l k) = 0) = true := decide_eq_true he
                    have e2 : (rE (sumK l k) == 0) = true := by simp [he]
                    obtain ⟨d0, d1⟩ := HD.out _ EF.out.drew
                    obtain ⟨c0, c1, _, _⟩ := two_facts ((Fr.refl (fun _ => False) wp).drew.blk E9.out (fun h => h))
                    clear he g1 g2 g3 hsk HCS HL1 HL2
                    obtain ⟨na, hna⟩ : ∃ x, x = rN (sumK l (k + 1)) := ⟨_, rfl⟩
                    obtain ⟨nb, hnb⟩ : ∃ x, x = rD (sumK l (k + 1)) := ⟨_, rfl⟩
                    obtain ⟨nk, hnk⟩ : ∃ x, x = rE (sumK l (k + 1)) := ⟨_, rfl⟩
                    rw [← hna, ← hnb, ← hnk] at HPL
                    have HNA := Lib.hid (And.intro hna (And.intro hnb hnk))
                    clear hna hnb hnk
                    go_upto_region 21 with fail
                    go_region_law ((go_simp; go_at_call 23; (with_reducible refine (HPL.out _).mono ?_); rintro e wA ⟨rfl, hfA⟩; have hF := (Fr.refl (fun _ => False) wp).drew.trans hfA; have hb9 := hF.blk E9.out (fun h => h); obtain ⟨_, _, f0, f1⟩ := two_facts hb9))
                    all_goals
                      go_wp2_with fail
                      have hn := HN.out
                      go_roundw
                      case rel =>
                        refine ⟨k + 1, by omega, by go_num, by rw [← HNA.out.2.2], ?_⟩
                        rw [← HNA.out.1, ← HNA.out.2.1]
                        exact ⟨blk_setCell_other (blk_setCell_other (hF.blk E3.out (fun h => h)) (p := ⟨b7 + 1, 0, none⟩) (by simp <;> omega) _) (p := ⟨b7 + 1, 1, none⟩) (by simp <;> omega) _, blk_setCell_other (blk_setCell_other (hF.blk E5.out (fun h => h)) (p := ⟨b7 + 1, 0, none⟩) (by simp <;> omega) _) (p := ⟨b7 + 1, 1, none⟩) (by simp <;> omega) _, blk_setCell_other (blk_setCell_other (hF.blk E7.out (fun h => h)) (p := ⟨b7 + 1, 0, none⟩) (by simp <;> omega) _) (p := ⟨b7 + 1, 1, none⟩) (by simp <;> omega) _, two_set hb9 _ _, blk_setCell_other (blk_setCell_other (hF.blk E11.out (fun h => h)) (p := ⟨b7 + 1, 0, none⟩) (by simp <;> omega) _) (p := ⟨b7 + 1, 1, none⟩) (by simp <;> omega) _, blk_setCell_other (blk_setCell_other (hF.blk E12.out (fun h => h)) (p := ⟨b7 + 1, 0, none⟩) (by simp <;> omega) _) (p := ⟨b7 + 1, 1, none⟩) (by simp <;> omega) _, two_fr (EF.out.trans hF) (by omega) _ _⟩
                      case measure => simp [intOf]; omega
                  · have e1 : decide (rE (sumK l k) = 0) = false := decide_eq_false (by omega)
                    have e2 : (rE (sumK l k) == 0) = false := by simp [he]
                    clear HCS HL1 HL2
                    go_wp2_with fail
                    go_roundw
                    case rel =>
                      refine ⟨k + 1, by omega, by go_num, by rw [hsk], ?_⟩
                      rw [hsk]
                      exact ⟨E3, E5, E7, E9, E11, E12, EF⟩
                    case measure => simp [intOf]; omega
        · have hkm : k = l.length := by omega
          subst hkm
          obtain ⟨hs1, hs2, hs3, hno⟩ := HSE.out
          rw [hs1, hs2] at A9
          rw [hs3]
          by_cases h0 : l.length = 0
          · rw [if_pos h0] at hno
            have e1 : decide ((l.length : Int) = 0) = true := decide_eq_true (by omega)
            have e2 : ((l.length : Int) == 0) = true := by simp [h0]
            subst hno
            clear h0 hs1 hs2 hs3 HSE hlt hk
            obtain ⟨p0, p1, _, _⟩ := two_facts A3.out
            obtain ⟨q0, q1, _, _⟩ := two_facts A9.out
            go_wp2_with (first
              | (go_at_call 22; (with_reducible refine (told_same2 s1 s2 s3 _).mono ?_); rintro _ v5 ⟨rfl, hf5⟩; obtain ⟨_, _, _, _⟩ := two_facts (hf5.blk A5.out (fun h => h)); obtain ⟨_, _, _, _⟩ := two_facts (hf5.blk A11.out (fun h => h)))
              | (go_at_call 22; (with_reducible refine (told_same2 (lstK true l l.length).1 (lstK true l l.length).2 2 _).mono ?_); rintro _ v6 ⟨rfl, hf6⟩; obtain ⟨_, _, _, _⟩ := two_facts ((hf5.trans hf6).blk A7.out (fun h => h)); obtain ⟨_, _, _, _⟩ := two_facts ((hf5.trans hf6).blk A12.out (fun h => h)))
              | (go_at_call 22; (with_reducible refine (told_same2 (lstK false l l.length).1 (lstK false l l.length).2 2 _).mono ?_); rintro _ v7 ⟨rfl, hf7⟩)
              | (go_at_call 15; (with_reducible refine (HK.out _).mono ?_); rintro _ v8 ⟨rfl, hf8⟩)
              | fail)
            go_ret
            exact ⟨rfl, AF.out.trans (((hf5.trans hf6).trans hf7).trans hf8)⟩
          · rw [if_neg h0] at hno
            have e1 : decide ((l.length : Int) = 0) = false := decide_eq_false (by omega)
            have e2 : ((l.length : Int) == 0) = false := by simp [h0]
            subst hno
            clear h0 hs1 hs2 hs3 HSE hlt hk
            obtain ⟨p0, p1, _, _⟩ := two_facts A3.out
            obtain ⟨q0, q1, _, _⟩ := two_facts A9.out
            go_wp2_with (first
              | (go_at_call 22; (with_reducible refine (told_same2 s1 s2 s3 _).mono ?_); rintro _ v5 ⟨rfl, hf5⟩; obtain ⟨_, _, _, _⟩ := two_facts (hf5.blk A5.out (fun h => h)); obtain ⟨_, _, _, _⟩ := two_facts (hf5.blk A11.out (fun h => h)))
              | (go_at_call 22; (with_reducible refine (told_same2 (lstK true l l.length).1 (lstK true l l.length).2 0 _).mono ?_); rintro _ v6 ⟨rfl, hf6⟩; obtain ⟨_, _, _, _⟩ := two_facts ((hf5.trans hf6).blk A7.out (fun h => h)); obtain ⟨_, _, _, _⟩ := two_facts ((hf5.trans hf6).blk A12.out (fun h => h)))
              | (go_at_call 22; (with_reducible refine (told_same2 (lstK false l l.length).1 (lstK false l l.length).2 0 _).mono ?_); rintro _ v7 ⟨rfl, hf7⟩)
              | (go_at_call 15; (with_reducible refine (HK.out _).mono ?_); rintro _ v8 ⟨rfl, hf8⟩)
              | fail)
            go_ret
            exact ⟨rfl, AF.out.trans (((hf5.trans hf6).trans hf7).trans hf8)⟩
theorem many_walk (A : Option Addr) (c : Nat) (l : List (Int × Int)) (w : World) (hR : Rd (fun _ => False) w A (sends l)) (hl : I64l l) (hc : l.length ≤ c) :
    Calls Try.prog 10 #[.slice A l.length c] w fun e w' => e = .returned (.bool true) ∧ Fr0 w w' := by
  by_cases h20 : 20 < l.length
  · exact many_long A c l w h20
  have hlen : l.length ≤ 1000000000 := by omega
  have HS := Lib.hid (fun (U : World) (hU : Fr0 w U) => rsum_calls A c l U (hR.kept hU) hl hlen)
  have HL := Lib.hid (fun (U : World) (hU : Fr0 w U) => rleast_calls A c l U (hR.kept hU) hl hlen hc)
  have HG := Lib.hid (fun (U : World) (hU : Fr0 w U) => rgreatest_calls A c l U (hR.kept hU) hl hlen hc)
  by_cases hall : AllR l
  · rw [firstR_tup true l hall] at HL
    rw [firstR_tup false l hall] at HG
    rw [show sumR l = sumK l l.length from if_pos hall] at HS
    exact many_yes A c l w (by omega) hall hl hR _ _ _ _ rfl rfl rfl rfl HS HL HG
  · have h0 : l.length ≠ 0 := by
      intro h
      refine hall (fun x hx => ?_)
      rw [List.length_eq_zero_iff.1 h] at hx
      cases hx
    rw [show sumR l = .error 2 from if_neg hall] at HS
    rw [show firstR true l = .error 2 by unfold firstR; rw [if_neg h0, if_neg hall]] at HL
    rw [show firstR false l = .error 2 by unfold firstR; rw [if_neg h0, if_neg hall]] at HG
    exact many_no A c l w (by omega) hall hl hR HS HL HG
end Go.Proofs.Ytdakeenjeieekaa
