/- Chapter 01: what is added and taken away again: RatField walked. -/
import Derived.Test.YtdakeenjeieekaaRaR
import Derived.Deep.RegionHeld3
set_option linter.unusedVariables false
set_option linter.unusedSimpArgs false
namespace Go.Proofs.Ytdakeenjeieekaa
open Go.RowKit
attribute [local go_sem] Oper.semAt_some

abbrev trp (x y k : Int) : Value := .tuple #[rtv x y, .int .i64 k]
theorem cAdd (a b : Int × Int) (ia : I64p a) (ib : I64p b) (U : World) : Calls Try.prog 18 #[rtv a.1 a.2, rtv b.1 b.2] U fun e w' => e = .returned (trp (rP (addT a b)).1 (rP (addT a b)).2 (rE (addT a b))) ∧ Fr0 U w' := radd_calls a b ia ib U
theorem cSub (a b : Int × Int) (ia : I64p a) (ib : I64p b) (U : World) : Calls Try.prog 20 #[rtv a.1 a.2, rtv b.1 b.2] U fun e w' => e = .returned (trp (rP (subT a b)).1 (rP (subT a b)).2 (rE (subT a b))) ∧ Fr0 U w' := rsub_calls a b ia ib U
theorem cMul (a b : Int × Int) (ia : I64p a) (ib : I64p b) (U : World) : Calls Try.prog 21 #[rtv a.1 a.2, rtv b.1 b.2] U fun e w' => e = .returned (trp (rP (mulT a b)).1 (rP (mulT a b)).2 (rE (mulT a b))) ∧ Fr0 U w' := rmul_calls a b ia ib U
theorem cDiv (a b : Int × Int) (ia : I64p a) (ib : I64p b) (U : World) : Calls Try.prog 19 #[rtv a.1 a.2, rtv b.1 b.2] U fun e w' => e = .returned (trp (rP (divT a b)).1 (rP (divT a b)).2 (rE (divT a b))) ∧ Fr0 U w' := rdiv_calls a b ia ib U
theorem q_same (x y : Int) (U : World) : (Op.equalIn 10000 23 (rtv x y) (rtv x y)).run Try.prog U = .ok true U := by rw [eq_rat]; simp
/-- A number as an errno: nought or not. -/
theorem e_dec (k : Int) : (k = 0 ∧ decide (k = 0) = true ∧ (k == 0) = true ∧ (k != 0) = false) ∨ (k ≠ 0 ∧ decide (k = 0) = false ∧ (k == 0) = false ∧ (k != 0) = true) := by
  by_cases h : k = 0
  · exact .inl ⟨h, by simpa using h, by simpa using h, by simpa using h⟩
  · exact .inr ⟨h, by simpa using h, by simpa using h, by simpa using h⟩
set_option maxHeartbeats 8000000 in
set_option maxRecDepth 20000 in
theorem field_walk (a b c : Int × Int) (ia : I64p a) (ib : I64p b) (ic : I64p c) (w : World) : Calls Try.prog 7 #[rtv a.1 a.2, rtv b.1 b.2, rtv c.1 c.2] w fun e w' => e = .returned (.bool true) ∧ Fr0 w w' := by
  have HKN := Lib.hid known_calls
  have C1 := Lib.hid (cAdd a b ia ib)
  have C2 := Lib.hid (cAdd b a ib ia)
  rw [← addT_comm a b] at C2
  have C3 := Lib.hid (cMul a b ia ib)
  have C4 := Lib.hid (cMul b a ib ia)
  rw [← mulT_comm a b] at C4
  have C5 : rE (addT a b) = 0 → Hid (∀ U, Calls Try.prog 20 #[rtv (rP (addT a b)).1 (rP (addT a b)).2, rtv b.1 b.2] U fun e w' => e = .returned (trp a.1 a.2 0) ∧ Fr0 U w') := fun h U => by
    have := cSub (rP (addT a b)) b (addT_range a b) ib U
    rw [field_sub ia h] at this
    exact this
  have C6 : rE (mulT a b) = 0 → b.1 ≠ 0 → Hid (∀ U, Calls Try.prog 19 #[rtv (rP (mulT a b)).1 (rP (mulT a b)).2, rtv b.1 b.2] U fun e w' => e = .returned (trp a.1 a.2 0) ∧ Fr0 U w') := fun h hb U => by
    have := cDiv (rP (mulT a b)) b (mulT_range a b) ib U
    rw [field_div ia h hb] at this
    exact this
  have C7 := Lib.hid (cMul (rP (addT a b)) c (addT_range a b) ic)
  have C8 := Lib.hid (cMul a c ia ic)
  have C9 := Lib.hid (cMul b c ib ic)
  have C10 := Lib.hid (cAdd (rP (mulT a c)) (rP (mulT b c)) (mulT_range a c) (mulT_range b c))
  have C11 := Lib.hid (cAdd (rP (addT a b)) c (addT_range a b) ic)
  have C12 := Lib.hid (cAdd b c ib ic)
  have C13 := Lib.hid (cAdd a (rP (addT b c)) ia (addT_range b c))
  have F4 := fun h1 h2 h3 => congrArg rP (field_over (a := a) (b := b) (c := c) h1 h2 h3)
  have F5 := fun h1 h2 => congrArg rP (field_assoc (a := a) (b := b) (c := c) h1 h2)
  generalize mulT (rP (addT a b)) c = r7 at *
  generalize addT (rP (mulT a c)) (rP (mulT b c)) = r10 at *
  generalize addT (rP (addT a b)) c = r11 at *
  generalize addT a (rP (addT b c)) = r13 at *
  generalize addT a b = r1 at *
  generalize mulT a b = r3 at *
  generalize mulT a c = r8 at *
  generalize mulT b c = r9 at *
  generalize addT b c = r12 at *
  generalize rP r1 = v1 at *
  generalize rE r1 = k1 at *
  generalize rP r3 = v3 at *
  generalize rE r3 = k3 at *
  generalize rP r7 = v7 at *
  generalize rE r7 = k7 at *
  generalize rP r8 = v8 at *
  generalize rE r8 = k8 at *
  generalize rP r9 = v9 at *
  generalize rE r9 = k9 at *
  generalize rP r10 = v10 at *
  generalize rE r10 = k10 at *
  generalize rP r11 = v11 at *
  generalize rE r11 = k11 at *
  generalize rP r12 = v12 at *
  generalize rE r12 = k12 at *
  generalize rP r13 = v13 at *
  generalize rE r13 = k13 at *
  obtain ⟨a1, a2⟩ := a
  obtain ⟨b1, b2⟩ := b
  obtain ⟨c1, c2⟩ := c
  obtain ⟨x1, y1⟩ := v1
  obtain ⟨x3, y3⟩ := v3
  obtain ⟨x7, y7⟩ := v7
  obtain ⟨x8, y8⟩ := v8
  obtain ⟨x9, y9⟩ := v9
  obtain ⟨x10, y10⟩ := v10
  obtain ⟨x11, y11⟩ := v11
  obtain ⟨x12, y12⟩ := v12
  obtain ⟨x13, y13⟩ := v13
  dsimp only at C1 C2 C3 C4 C5 C6 C7 C8 C9 C10 C11 C12 C13 F4 F5 ⊢
  have HR0 := Lib.hid (((Rs.nil w).push (Fr.refl _ _) a1 a2).push (Fr.refl _ _) b1 b2)
  have HF0 := Lib.hid ((((Fr.refl (fun _ => False) w).alloc (.cells (rtc a1 a2) 23)).alloc (.cells (rtc b1 b2) 23)).alloc (.cells (rtc c1 c2) 23))
  have HR00 := Lib.hid (HR0.out.push (Fr.refl _ _) c1 c2)
  rw [show (w.alloc (.cells (rtc a1 a2) 23)).heap.size = w.heap.size + 1 by simp, show ((w.alloc (.cells (rtc a1 a2) 23)).alloc (.cells (rtc b1 b2) 23)).heap.size = w.heap.size + 1 + 1 by simp] at HR00
  clear HR0
  have qs := q_same
  obtain ⟨fa0, fa1⟩ := HR00.out.c w.heap.size a1 a2 (by simp)
  obtain ⟨fb0, fb1⟩ := HR00.out.c (w.heap.size + 1) b1 b2 (by simp)
  go_enter Try.func7, Try.ntmps7
  go_upto_if 76 with (first
    | (go_at_call 18; (with_reducible refine (C1.out _).mono ?_); rintro _ w1 ⟨rfl, hf1⟩; have HR1 := Lib.hid (HR00.out.push hf1 x1 y1); obtain ⟨lw10, mw10⟩ := HR1.out.c w.heap.size a1 a2 (by simp); obtain ⟨lw11, mw11⟩ := HR1.out.c (w.heap.size + 1) b1 b2 (by simp))
    | (go_at_call 18; (with_reducible refine (C2.out _).mono ?_); rintro _ w2 ⟨rfl, hf2⟩; have HR2 := Lib.hid (HR1.out.push hf2 x1 y1); obtain ⟨lw20, mw20⟩ := HR2.out.c w.heap.size a1 a2 (by simp); obtain ⟨lw21, mw21⟩ := HR2.out.c (w.heap.size + 1) b1 b2 (by simp))
    | (go_at_call 21; (with_reducible refine (C3.out _).mono ?_); rintro _ w3 ⟨rfl, hf3⟩; have HR3 := Lib.hid (HR2.out.push hf3 x3 y3); obtain ⟨lw30, mw30⟩ := HR3.out.c w.heap.size a1 a2 (by simp); obtain ⟨lw31, mw31⟩ := HR3.out.c (w.heap.size + 1) b1 b2 (by simp))
    | (go_at_call 21; (with_reducible refine (C4.out _).mono ?_); rintro _ w4 ⟨rfl, hf4⟩; have HR4 := Lib.hid (HR3.out.push hf4 x3 y3); obtain ⟨lw40, mw40⟩ := HR4.out.c w.heap.size a1 a2 (by simp); obtain ⟨lw41, mw41⟩ := HR4.out.c (w.heap.size + 1) b1 b2 (by simp); obtain ⟨lw42, mw42⟩ := HR4.out.c (w.heap.size + 1 + 1) c1 c2 (by simp); obtain ⟨lw43, mw43⟩ := HR4.out.c w1.heap.size x1 y1 (by simp); obtain ⟨lw44, mw44⟩ := HR4.out.c w2.heap.size x1 y1 (by simp); obtain ⟨lw45, mw45⟩ := HR4.out.c w3.heap.size x3 y3 (by simp); obtain ⟨lw46, mw46⟩ := HR4.out.c w4.heap.size x3 y3 (by simp))
    | fail)
  have HF4 := Lib.hid ((((HF0.out.trans hf1).alloc _).trans hf2).alloc (.cells (rtc x1 y1) 23))
  have HF4' := Lib.hid (((HF4.out.trans hf3).alloc (.cells (rtc x3 y3) 23)).trans hf4)
  clear HF0 HF4 HR00 HR1 HR2 HR3
  generalize hW : w4.alloc (.cells (rtc x3 y3) 23) = W4 at *
  have HF5 : Hid (Fr0 w W4) := by rw [← hW]; exact HF4'.out.alloc _
  clear HF4' hf1 hf2 hf3 hf4 fa0 fa1 fb0 fb1 hW
  have HRA : Hid (Rs [(w4.heap.size, x3, y3), (w3.heap.size, x3, y3), (w2.heap.size, x1, y1), (w1.heap.size, x1, y1), (w.heap.size + 1 + 1, c1, c2), (w.heap.size + 1, b1, b2), (w.heap.size, a1, a2)] W4) := HR4
  clear HR4
  go_cut [15, 16] from 75 to 89 (fun _ _ wx => Hid (Rs [(w4.heap.size, x3, y3), (w3.heap.size, x3, y3), (w2.heap.size, x1, y1), (w1.heap.size, x1, y1), (w.heap.size + 1 + 1, c1, c2), (w.heap.size + 1, b1, b2), (w.heap.size, a1, a2)] wx) ∧ Hid (Fr0 w wx))
  case first =>
    rcases e_dec k1 with ⟨h, hd, hq, hn⟩ | ⟨h, hd, hq, hn⟩
    · have C5' := C5 h
      clear h C5
      obtain ⟨f0, f0'⟩ := HRA.out.c w1.heap.size x1 y1 (by simp)
      obtain ⟨f1, f1'⟩ := HRA.out.c (w.heap.size + 1) b1 b2 (by simp)
      obtain ⟨f2, f2'⟩ := HRA.out.c w.heap.size a1 a2 (by simp)
      go_wp2_with (first | (go_at_call 20; (with_reducible refine (C5'.out _).mono ?_); rintro _ w5 ⟨rfl, hf5⟩; have HR5 := Lib.hid (HRA.out.push hf5 a1 a2); obtain ⟨lw50, mw50⟩ := HR5.out.c w5.heap.size a1 a2 (by simp); obtain ⟨lw51, mw51⟩ := HR5.out.c w.heap.size a1 a2 (by simp)) | fail)
      go_meet
      exact ⟨(HRA.out.kept hf5).kept ((Fr.refl _ _).alloc _), (HF5.out.trans hf5).alloc _⟩
    · clear h C5
      go_wp2_with fail
      go_meet
      exact ⟨HRA, HF5⟩
  case rest =>
    obtain ⟨HRB, HF6⟩ := hcut
    clear HRA HF5 C5
    obtain ⟨W5, hW5⟩ : ∃ W5, W5 = wc := ⟨_, rfl⟩
    subst hW5
    go_upto_region 11 with fail
    go_cut [96] from 90 to 96 (fun s96 wx => ∃ t96 : Bool, s96 = .bool t96 ∧ Hid (t96 = decide (k3 = 0 ∧ b1 ≠ 0)) ∧ Hid (Rs [(w4.heap.size, x3, y3), (w3.heap.size, x3, y3), (w2.heap.size, x1, y1), (w1.heap.size, x1, y1), (w.heap.size + 1 + 1, c1, c2), (w.heap.size + 1, b1, b2), (w.heap.size, a1, a2)] wx) ∧ Hid (Fr0 w wx))
    case first =>
      obtain ⟨f0, f0'⟩ := HRB.out.c (w.heap.size + 1) b1 b2 (by simp)
      rcases e_dec k3 with ⟨h, hd, hq, hn⟩ | ⟨h, hd, hq, hn⟩
      · rcases e_dec b1 with ⟨g, gd, gq, gn⟩ | ⟨g, gd, gq, gn⟩
        · have hv : decide (k3 = 0 ∧ b1 ≠ 0) = false := decide_eq_false (fun x => x.2 g)
          have HV := Lib.hid hv.symm
          clear hv h g
          go_wp2_with fail
          go_meet
          exact ⟨_, rfl, HV, HRB, HF6⟩
        · have hv : decide (k3 = 0 ∧ b1 ≠ 0) = true := decide_eq_true ⟨h, g⟩
          have HV := Lib.hid hv.symm
          clear hv h g
          go_wp2_with fail
          go_meet
          exact ⟨_, rfl, HV, HRB, HF6⟩
      · have hv : decide (k3 = 0 ∧ b1 ≠ 0) = false := decide_eq_false (fun x => h x.1)
        have HV := Lib.hid hv.symm
        clear hv h
        go_wp2_with fail
        go_meet
        exact ⟨_, rfl, HV, HRB, HF6⟩
    case rest =>
      obtain ⟨t96, rfl, HV, HRC, HF7⟩ := hcut
      clear HRB HF6
      obtain ⟨W6, hW6⟩ : ∃ W6, W6 = wc := ⟨_, rfl⟩
      subst hW6
      go_upto_if 96 with fail
      go_cut [17, 18] from 96 to 109 (fun _ _ wx => Hid (Rs [(w4.heap.size, x3, y3), (w3.heap.size, x3, y3), (w2.heap.size, x1, y1), (w1.heap.size, x1, y1), (w.heap.size + 1 + 1, c1, c2), (w.heap.size + 1, b1, b2), (w.heap.size, a1, a2)] wx) ∧ Hid (Fr0 w wx))
      case first =>
        cases t96
        rotate_left
        · have hkb := of_decide_eq_true HV.out.symm
          have C6' := C6 hkb.1 hkb.2
          clear hkb C6
          obtain ⟨f0, f0'⟩ := HRC.out.c w3.heap.size x3 y3 (by simp)
          obtain ⟨f1, f1'⟩ := HRC.out.c (w.heap.size + 1) b1 b2 (by simp)
          obtain ⟨f2, f2'⟩ := HRC.out.c w.heap.size a1 a2 (by simp)
          go_wp2_with (first | (go_at_call 19; (with_reducible refine (C6'.out _).mono ?_); rintro _ w6 ⟨rfl, hf6⟩; have HR6 := Lib.hid (HRC.out.push hf6 a1 a2); obtain ⟨lw60, mw60⟩ := HR6.out.c w6.heap.size a1 a2 (by simp); obtain ⟨lw61, mw61⟩ := HR6.out.c w.heap.size a1 a2 (by simp)) | fail)
          go_meet
          exact ⟨(HRC.out.kept hf6).kept ((Fr.refl _ _).alloc _), (HF7.out.trans hf6).alloc _⟩
        · clear C6
          go_wp2_with fail
          go_meet
          exact ⟨HRC, HF7⟩
      case rest =>
        obtain ⟨HRD, HF8⟩ := hcut
        clear HRC HF7 C6 HV
        obtain ⟨W7, hW7⟩ : ∃ W7, W7 = wc := ⟨_, rfl⟩
        subst hW7
        obtain ⟨f0, f0'⟩ := HRD.out.c w1.heap.size x1 y1 (by simp)
        obtain ⟨f1, f1'⟩ := HRD.out.c (w.heap.size + 1 + 1) c1 c2 (by simp)
        go_upto_region 19 with (first
          | (go_at_call 21; (with_reducible refine (C7.out _).mono ?_); rintro _ w7 ⟨rfl, hf7⟩; have HR7 := Lib.hid (HRD.out.push hf7 x7 y7); obtain ⟨lw70, mw70⟩ := HR7.out.c w.heap.size a1 a2 (by simp); obtain ⟨lw71, mw71⟩ := HR7.out.c (w.heap.size + 1 + 1) c1 c2 (by simp))
          | (go_at_call 21; (with_reducible refine (C8.out _).mono ?_); rintro _ w8 ⟨rfl, hf8⟩; have HR8 := Lib.hid (HR7.out.push hf8 x8 y8); obtain ⟨lw80, mw80⟩ := HR8.out.c (w.heap.size + 1) b1 b2 (by simp); obtain ⟨lw81, mw81⟩ := HR8.out.c (w.heap.size + 1 + 1) c1 c2 (by simp))
          | (go_at_call 21; (with_reducible refine (C9.out _).mono ?_); rintro _ w9 ⟨rfl, hf9⟩; have HR9 := Lib.hid (HR8.out.push hf9 x9 y9); obtain ⟨lw90, mw90⟩ := HR9.out.c w8.heap.size x8 y8 (by simp); obtain ⟨lw91, mw91⟩ := HR9.out.c w9.heap.size x9 y9 (by simp))
          | (go_at_call 18; (with_reducible refine (C10.out _).mono ?_); rintro _ w10 ⟨rfl, hf10⟩; have HR10 := Lib.hid (HR9.out.push hf10 x10 y10); obtain ⟨lw100, mw100⟩ := HR10.out.c w7.heap.size x7 y7 (by simp); obtain ⟨lw101, mw101⟩ := HR10.out.c w10.heap.size x10 y10 (by simp))
          | fail)
        have HFX := Lib.hid (((HF8.out.trans hf7).alloc (.cells (rtc x7 y7) 23)).trans hf8)
        have HFY := Lib.hid (((HFX.out.alloc (.cells (rtc x8 y8) 23)).trans hf9).alloc (.cells (rtc x9 y9) 23))
        have HFZ := Lib.hid (HFY.out.trans hf10)
        clear HFX HFY HF8 hf7 hf8 hf9 hf10 HR7 HR8 HR9 HRD
        generalize hW8 : w10.alloc (.cells (rtc x10 y10) 23) = W8 at *
        have HF9 : Hid (Fr0 w W8) := by rw [← hW8]; exact HFZ.out.alloc _
        clear HFZ hW8
        have HRE : Hid (Rs [(w10.heap.size, x10, y10), (w9.heap.size, x9, y9), (w8.heap.size, x8, y8), (w7.heap.size, x7, y7), (w4.heap.size, x3, y3), (w3.heap.size, x3, y3), (w2.heap.size, x1, y1), (w1.heap.size, x1, y1), (w.heap.size + 1 + 1, c1, c2), (w.heap.size + 1, b1, b2), (w.heap.size, a1, a2)] W8) := HR10
        clear HR10
        go_cut [156] from 134 to 156 (fun s wx => s = .bool false ∧ Hid (Rs [(w10.heap.size, x10, y10), (w9.heap.size, x9, y9), (w8.heap.size, x8, y8), (w7.heap.size, x7, y7), (w4.heap.size, x3, y3), (w3.heap.size, x3, y3), (w2.heap.size, x1, y1), (w1.heap.size, x1, y1), (w.heap.size + 1 + 1, c1, c2), (w.heap.size + 1, b1, b2), (w.heap.size, a1, a2)] wx) ∧ Hid (Fr0 w wx))
        case first =>
          rcases e_dec k1 with ⟨h1, hd1, hq1, hn1⟩ | ⟨h1, hd1, hq1, hn1⟩
          · rcases e_dec k7 with ⟨h7, hd7, hq7, hn7⟩ | ⟨h7, hd7, hq7, hn7⟩
            · rcases e_dec k8 with ⟨h8, hd8, hq8, hn8⟩ | ⟨h8, hd8, hq8, hn8⟩
              · rcases e_dec k9 with ⟨h9, hd9, hq9, hn9⟩ | ⟨h9, hd9, hq9, hn9⟩
                · rcases e_dec k10 with ⟨h10, hd10, hq10, hn10⟩ | ⟨h10, hd10, hq10, hn10⟩
                  · obtain ⟨e1, e2⟩ := Prod.mk.inj (F4 h1 h8 h9)
                    subst e1 e2
                    clear h1
                    clear h7
                    clear h8
                    clear h9
                    clear h10
                    go_wp2_with fail
                    go_meet
                    exact ⟨rfl, HRE, HF9⟩
                  · clear h10 h1 h7 h8 h9
                    go_wp2_with fail
                    go_meet
                    exact ⟨rfl, HRE, HF9⟩
                · clear h9 h1 h7 h8
                  go_wp2_with fail
                  go_meet
                  exact ⟨rfl, HRE, HF9⟩
              · clear h8 h1 h7
                go_wp2_with fail
                go_meet
                exact ⟨rfl, HRE, HF9⟩
            · clear h7 h1
              go_wp2_with fail
              go_meet
              exact ⟨rfl, HRE, HF9⟩
          · clear h1 
            go_wp2_with fail
            go_meet
            exact ⟨rfl, HRE, HF9⟩
        case rest =>
          obtain ⟨rfl, HRF, HF10⟩ := hcut
          clear HRE HF9 F4
          obtain ⟨W9, hW9⟩ : ∃ W9, W9 = wc := ⟨_, rfl⟩
          subst hW9
          obtain ⟨f0, f0'⟩ := HRF.out.c w1.heap.size x1 y1 (by simp)
          obtain ⟨f1, f1'⟩ := HRF.out.c (w.heap.size + 1 + 1) c1 c2 (by simp)
          go_upto_region 24 with (first
            | (go_at_call 18; (with_reducible refine (C11.out _).mono ?_); rintro _ w11 ⟨rfl, hf11⟩; have HR11 := Lib.hid (HRF.out.push hf11 x11 y11); obtain ⟨lw110, mw110⟩ := HR11.out.c (w.heap.size + 1) b1 b2 (by simp); obtain ⟨lw111, mw111⟩ := HR11.out.c (w.heap.size + 1 + 1) c1 c2 (by simp))
            | (go_at_call 18; (with_reducible refine (C12.out _).mono ?_); rintro _ w12 ⟨rfl, hf12⟩; have HR12 := Lib.hid (HR11.out.push hf12 x12 y12); obtain ⟨lw120, mw120⟩ := HR12.out.c w.heap.size a1 a2 (by simp); obtain ⟨lw121, mw121⟩ := HR12.out.c w12.heap.size x12 y12 (by simp))
            | (go_at_call 18; (with_reducible refine (C13.out _).mono ?_); rintro _ w13 ⟨rfl, hf13⟩; have HR13 := Lib.hid (HR12.out.push hf13 x13 y13); obtain ⟨lw130, mw130⟩ := HR13.out.c w11.heap.size x11 y11 (by simp); obtain ⟨lw131, mw131⟩ := HR13.out.c w13.heap.size x13 y13 (by simp))
            | fail)
          have HFX := Lib.hid (((HF10.out.trans hf11).alloc (.cells (rtc x11 y11) 23)).trans hf12)
          have HFY := Lib.hid (((HFX.out.alloc (.cells (rtc x12 y12) 23)).trans hf13).alloc (.cells (rtc x13 y13) 23))
          clear HFX HF10 hf11 hf12 hf13 HR11 HR12 HRF HR13
          rcases e_dec k1 with ⟨h1, hd1, hq1, hn1⟩ | ⟨h1, hd1, hq1, hn1⟩
          · rcases e_dec k11 with ⟨h11, hd11, hq11, hn11⟩ | ⟨h11, hd11, hq11, hn11⟩
            · rcases e_dec k12 with ⟨h12, hd12, hq12, hn12⟩ | ⟨h12, hd12, hq12, hn12⟩
              · rcases e_dec k13 with ⟨h13, hd13, hq13, hn13⟩ | ⟨h13, hd13, hq13, hn13⟩
                · obtain ⟨e1, e2⟩ := Prod.mk.inj (F5 h1 h12)
                  subst e1 e2
                  clear h1 h11 h12 h13
                  go_wp2_with (first | (go_at_call 15; (with_reducible refine (HKN.out _).mono ?_); rintro _ wk ⟨rfl, hfk⟩) | fail)
                  go_ret
                  exact ⟨rfl, HFY.out.trans hfk⟩
                · clear h13 h1 h11 h12
                  go_wp2_with (first | (go_at_call 15; (with_reducible refine (HKN.out _).mono ?_); rintro _ wk ⟨rfl, hfk⟩) | fail)
                  go_ret
                  exact ⟨rfl, HFY.out.trans hfk⟩
              · clear h12 h1 h11
                go_wp2_with (first | (go_at_call 15; (with_reducible refine (HKN.out _).mono ?_); rintro _ wk ⟨rfl, hfk⟩) | fail)
                go_ret
                exact ⟨rfl, HFY.out.trans hfk⟩
            · clear h11 h1
              go_wp2_with (first | (go_at_call 15; (with_reducible refine (HKN.out _).mono ?_); rintro _ wk ⟨rfl, hfk⟩) | fail)
              go_ret
              exact ⟨rfl, HFY.out.trans hfk⟩
          · clear h1 
            go_wp2_with (first | (go_at_call 15; (with_reducible refine (HKN.out _).mono ?_); rintro _ wk ⟨rfl, hfk⟩) | fail)
            go_ret
            exact ⟨rfl, HFY.out.trans hfk⟩
end Go.Proofs.Ytdakeenjeieekaa
