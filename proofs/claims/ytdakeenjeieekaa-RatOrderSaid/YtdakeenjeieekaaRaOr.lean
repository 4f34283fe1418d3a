/- Chapter 01: of two one is less, or they are the same: RatOrder walked. -/
import Derived.Test.YtdakeenjeieekaaRaOp0
set_option linter.unusedVariables false
set_option linter.unusedSimpArgs false
namespace Go.Proofs.Ytdakeenjeieekaa
open Go.RowKit
attribute [local go_sem] Oper.semAt_some

/-- The first answers: alike and turned, and nought just for the same. -/
def Ord1 (a b : Int × Int) (n m e : Int) : Prop := (e = 0 ∧ ∃ z : Bool, decide (a.1 = b.1 ∧ a.2 = b.2) = z ∧ ((n = 0 ∧ m = 0 ∧ z = true) ∨ (n = 1 ∧ m = -1 ∧ z = false) ∨ (n = -1 ∧ m = 1 ∧ z = false))) ∨ (e = 2 ∧ n = 0 ∧ m = 0)
theorem ord1 (a b : Int × Int) : Ord1 a b (cmpV a b) (cmpV b a) (cmpE a b) ∧ cmpE b a = cmpE a b := by
  unfold Ord1 cmpV cmpE
  by_cases h : RtOk a.1 a.2 ∧ RtOk b.1 b.2
  · rw [if_pos h, if_pos h, if_pos h.symm, if_pos h.symm]
    refine ⟨.inl ⟨rfl, _, rfl, ?_⟩, rfl⟩
    have h1 := ok_eq h.1 h.2
    have h2 := cmpN_anti a.1 a.2 b.1 b.2
    rcases cmpN_range a.1 a.2 b.1 b.2 with h3 | h3 | h3
    · exact .inr (.inr ⟨h3, by omega, decide_eq_false (fun h => by have := h1.2 h; omega)⟩)
    · exact .inl ⟨h3, by omega, decide_eq_true (h1.1 h3)⟩
    · exact .inr (.inl ⟨h3, by omega, decide_eq_false (fun h => by have := h1.2 h; omega)⟩)
  · rw [if_neg h, if_neg h, if_neg (fun x => h x.symm), if_neg (fun x => h x.symm)]
    exact ⟨.inr ⟨rfl, rfl, rfl⟩, rfl⟩
/-- The difference has the sign of the comparison. -/
def Ord2 (n d k : Int) : Prop := k ≠ 0 ∨ (k = 0 ∧ ((n = 0 ∧ d = 0) ∨ (n = 1 ∧ 0 < d) ∨ (n = -1 ∧ d < 0)))
theorem ord2 (a b : Int × Int) : Ord2 (cmpV a b) (rP (subT a b)).1 (rE (subT a b)) := by
  unfold Ord2
  by_cases h : rE (subT a b) = 0
  · obtain ⟨ha, hb, _⟩ := twoR_inv h
    refine .inr ⟨h, ?_⟩
    obtain ⟨h1, h2⟩ := sub_sign h
    unfold cmpV
    rw [if_pos ⟨ha, hb⟩]
    rcases cmpN_range a.1 a.2 b.1 b.2 with h3 | h3 | h3 <;> omega
  · exact .inl h
theorem floor_ok {n d : Int} (h : RtOk n d) (hn : I64r n) : RtOk (n / d) 1 ∧ I64p (n / d, 1) := by
  have h1 := floor_range h.1 hn
  refine ⟨⟨by decide, ?_, Nat.gcd_one_right _⟩, h1, show I64r 1 from ⟨by decide, by decide⟩⟩
  have h2 := h.2.1
  have h3 : -9223372036854775807 ≤ n / d := by
    have hd := h.1
    rw [Int.le_ediv_iff_mul_le (by omega)]
    have : (-9223372036854775807 : Int) * d ≤ -9223372036854775807 * 1 := Int.mul_le_mul_of_nonpos_left (by omega) (by omega)
    have := hn.1
    omega
  omega
set_option maxHeartbeats 8000000 in
set_option maxRecDepth 20000 in
theorem order_walk (a b : Int × Int) (ia : I64p a) (ib : I64p b) (w : World) : Calls Try.prog 9 #[rtv a.1 a.2, rtv b.1 b.2] w fun e w' => e = .returned (.bool true) ∧ Fr0 w w' := by
  have HKN := Lib.hid known_calls
  have C1 := Lib.hid (rcmp_calls a b ia ib)
  have C2 := Lib.hid (rcmp_calls b a ib ia)
  obtain ⟨o1, o2⟩ := ord1 a b
  have o3 := ord2 a b
  rw [o2] at C2
  have C3 := Lib.hid (cSub a b ia ib)
  have CF := Lib.hid (fun U => rfloor_calls a.1 a.2 ia.1 ia.2 U)
  have CC := Lib.hid (fun U => rceil_calls a.1 a.2 ia.1 ia.2 U)
  have hfin : (¬ RtOk a.1 a.2) ∨ (RtOk a.1 a.2 ∧ ∃ dn : Int, Hid (∀ U, Calls Try.prog 27 #[rtv (floorN a.1 a.2) 1, rtv a.1 a.2] U fun e w' => e = .returned (.tuple #[.int .i64 dn, .int .i64 0]) ∧ Fr0 U w') ∧ ((a.2 = 1 ∧ dn = 0 ∧ ceilN a.1 a.2 = floorN a.1 a.2) ∨ (a.2 ≠ 1 ∧ dn = -1 ∧ ceilN a.1 a.2 = floorN a.1 a.2 + 1 ∧ wrap64 (floorN a.1 a.2 + 1) = floorN a.1 a.2 + 1))) := by
    by_cases h : RtOk a.1 a.2
    · refine .inr ?_
      obtain ⟨f1, f2⟩ := floor_ok h ia.1
      obtain ⟨g1, g2⟩ := floor_down h
      obtain ⟨u1, u2⟩ := ceil_up h
      have hc := rcmp_calls (a.1 / a.2, 1) a f2 ia
      unfold cmpV cmpE at hc
      rw [if_pos ⟨f1, h⟩, if_pos ⟨f1, h⟩] at hc
      unfold floorN ceilN
      rw [if_pos h, if_pos h]
      by_cases hd : a.2 = 1
      · dsimp only at hc
        rw [g1.2 hd] at hc
        exact ⟨h, 0, hc, .inl ⟨hd, rfl, u1 hd⟩⟩
      · have hne : cmpN (a.1 / a.2) 1 a.1 a.2 ≠ 0 := fun h => hd (g1.1 h)
        have hm : cmpN (a.1 / a.2) 1 a.1 a.2 = -1 := by
          rcases cmpN_range (a.1 / a.2) 1 a.1 a.2 with h3 | h3 | h3
          · exact h3
          · exact absurd h3 hne
          · omega
        dsimp only at hc
        rw [hm] at hc
        refine ⟨h, -1, hc, .inr ⟨hd, rfl, u2 hd, wrap64_id ?_⟩⟩
        have h1 := floor_range h.1 ia.1
        refine ⟨by have := h1.1; omega, ?_⟩
        have h5 := Int.ediv_mul_le a.1 (show a.2 ≠ 0 by have := h.1; omega)
        have h6 : a.1 / a.2 ≠ 9223372036854775807 := by
          intro h7
          rw [h7] at h5
          have := h.1; have := ia.1.2; omega
        have := h1.2; omega
    · exact .inl h
  unfold chk at CF CC
  obtain ⟨a1, a2⟩ := a
  obtain ⟨b1, b2⟩ := b
  dsimp only at *
  have hflr : I64r (floorN a1 a2) := by
    unfold floorN; split
    · rename_i h; exact floor_range h.1 ia.1
    · exact i64_zero.1
  generalize cmpV (a1, a2) (b1, b2) = n at *
  generalize cmpV (b1, b2) (a1, a2) = m at *
  generalize cmpE (a1, a2) (b1, b2) = e at *
  clear o2
  generalize rP (subT (a1, a2) (b1, b2)) = d at *
  generalize rE (subT (a1, a2) (b1, b2)) = k5 at *
  obtain ⟨d1, d2⟩ := d
  dsimp only at C3 o3 o1
  unfold Ord1 at o1
  unfold Ord2 at o3
  dsimp only at o1
  generalize floorN a1 a2 = fl at *
  generalize ceilN a1 a2 = up at *
  have HR0 := Lib.hid ((Rs.nil w).push (Fr.refl _ _) a1 a2)
  have HRA : Hid (Rs [(w.heap.size + 1, b1, b2), (w.heap.size, a1, a2)] ((w.alloc (.cells (rtc a1 a2) 23)).alloc (.cells (rtc b1 b2) 23))) := by
    have := HR0.out.push (Fr.refl _ _) b1 b2
    rwa [show (w.alloc (.cells (rtc a1 a2) 23)).heap.size = w.heap.size + 1 by simp] at this
  have HF0 := Lib.hid (((Fr.refl (fun _ => False) w).alloc (.cells (rtc a1 a2) 23)).alloc (.cells (rtc b1 b2) 23))
  clear HR0 ia ib hflr
  obtain ⟨fa0, fa1⟩ := HRA.out.c w.heap.size a1 a2 (by simp)
  obtain ⟨fb0, fb1⟩ := HRA.out.c (w.heap.size + 1) b1 b2 (by simp)
  go_enter Try.func9, Try.ntmps9
  go_upto_region 3 with (first
    | (go_at_call 27; (with_reducible refine (C1.out _).mono ?_); rintro _ w1 ⟨rfl, hf1⟩; have HR1 := Lib.hid (HRA.out.kept hf1); obtain ⟨g0, g1⟩ := HR1.out.c w.heap.size a1 a2 (by simp); obtain ⟨g2, g3⟩ := HR1.out.c (w.heap.size + 1) b1 b2 (by simp))
    | (go_at_call 27; (with_reducible refine (C2.out _).mono ?_); rintro _ w2 ⟨rfl, hf2⟩)
    | fail)
  have HRB := Lib.hid (HR1.out.kept hf2)
  have HF2 := Lib.hid ((HF0.out.trans hf1).trans hf2)
  clear HRA HF0 HR1 fa0 fa1 fb0 fb1 g0 g1 g2 g3 hf1 hf2
  go_cut [50] from 30 to 50 (fun s wx => s = .bool false ∧ Hid (Rs [(w.heap.size + 1, b1, b2), (w.heap.size, a1, a2)] wx) ∧ Hid (Fr0 w wx))
  case first =>
    obtain ⟨fa0, fa1⟩ := HRB.out.c w.heap.size a1 a2 (by simp)
    obtain ⟨fb0, fb1⟩ := HRB.out.c (w.heap.size + 1) b1 b2 (by simp)
    have heq : ∀ U, (Op.equalIn 10000 23 (rtv a1 a2) (rtv b1 b2)).run Try.prog U = .ok (decide (a1 = b1 ∧ a2 = b2)) U := eq_rat a1 a2 b1 b2
    clear o3 hfin
    rcases o1 with ⟨rfl, z, hz, ⟨rfl, rfl, rfl⟩ | ⟨rfl, rfl, rfl⟩ | ⟨rfl, rfl, rfl⟩⟩ | ⟨rfl, rfl, rfl⟩
    · rw [hz] at heq
      clear hz
      go_wp2_with fail
      go_meet
      exact ⟨rfl, HRB, HF2⟩
    · rw [hz] at heq
      clear hz
      go_wp2_with fail
      go_meet
      exact ⟨rfl, HRB, HF2⟩
    · rw [hz] at heq
      clear hz
      go_wp2_with fail
      go_meet
      exact ⟨rfl, HRB, HF2⟩
    · go_wp2_with fail
      go_meet
      exact ⟨rfl, HRB, HF2⟩
  case rest =>
    obtain ⟨rfl, HRC, HF3⟩ := hcut
    clear HRB HF2 o1
    obtain ⟨W3, hW3⟩ : ∃ W3, W3 = wc := ⟨_, rfl⟩
    subst hW3
    obtain ⟨fa0, fa1⟩ := HRC.out.c w.heap.size a1 a2 (by simp)
    obtain ⟨fb0, fb1⟩ := HRC.out.c (w.heap.size + 1) b1 b2 (by simp)
    go_upto_region 6 with (first
      | (go_at_call 20; (with_reducible refine (C3.out _).mono ?_); rintro _ w5 ⟨rfl, hf5⟩; have HRD := Lib.hid (HRC.out.push hf5 d1 d2))
      | fail)
    have HF5 := Lib.hid ((HF3.out.trans hf5).alloc (.cells (rtc d1 d2) 23))
    clear HRC HF3 fa0 fa1 fb0 fb1 hf5
    go_cut [78] from 57 to 78 (fun s wx => s = .bool false ∧ Hid (Rs [(w5.heap.size, d1, d2), (w.heap.size + 1, b1, b2), (w.heap.size, a1, a2)] wx) ∧ Hid (Fr0 w wx))
    case first =>
      obtain ⟨fd0, fd1⟩ := HRD.out.c w5.heap.size d1 d2 (by simp)
      clear hfin
      rcases o3 with h | ⟨rfl, h⟩
      · have q1 : decide (k5 = 0) = false := decide_eq_false h
        have q2 : (k5 == 0) = false := by simpa using h
        clear h
        go_wp2_with fail
        go_meet
        exact ⟨rfl, HRD, HF5⟩
      · rcases h with ⟨rfl, rfl⟩ | ⟨rfl, h⟩ | ⟨rfl, h⟩
        · go_wp2_with fail
          go_meet
          exact ⟨rfl, HRD, HF5⟩
        · have q1 : decide (d1 < 0) = false := decide_eq_false (by omega)
          have q2 : decide (d1 = 0) = false := decide_eq_false (by omega)
          have q3 : (d1 == 0) = false := by simp; omega
          clear h
          go_wp2_with fail
          go_meet
          exact ⟨rfl, HRD, HF5⟩
        · have q1 : decide (d1 < 0) = true := decide_eq_true h
          have q2 : decide (d1 = 0) = false := decide_eq_false (by omega)
          have q3 : (d1 == 0) = false := by simp; omega
          clear h
          go_wp2_with fail
          go_meet
          exact ⟨rfl, HRD, HF5⟩
    case rest =>
      obtain ⟨rfl, HRE, HF6⟩ := hcut
      clear HRD HF5 o3
      obtain ⟨W6, hW6⟩ : ∃ W6, W6 = wc := ⟨_, rfl⟩
      subst hW6
      obtain ⟨fa0, fa1⟩ := HRE.out.c w.heap.size a1 a2 (by simp)
      rcases hfin with hno | ⟨hyes, dn, C4, hcase⟩
      · rw [if_neg hno] at CF CC
        clear hno
        go_wp2_with (first
          | (go_at_call 16; (with_reducible refine (CF.out _).mono ?_); rintro _ w6 ⟨rfl, hf6⟩)
          | (go_at_call 15; (with_reducible refine (HKN.out _).mono ?_); rintro _ wk ⟨rfl, hfk⟩)
          | fail)
        go_ret
        exact ⟨rfl, (HF6.out.trans hf6).trans hfk⟩
      · rw [if_pos hyes] at CF CC
        clear hyes
        rcases hcase with ⟨h2, rfl, rfl⟩ | ⟨h2, rfl, rfl, hw⟩
        · have q1 : decide (a2 = 1) = true := decide_eq_true h2
          have q2 : (a2 == 1) = true := by simpa using h2
          clear h2
          go_wp2_with (first
            | (go_at_call 16; (with_reducible refine (CF.out _).mono ?_); rintro _ w6 ⟨rfl, hf6⟩; obtain ⟨g0, g1⟩ := (HRE.out.kept hf6).c w.heap.size a1 a2 (by simp))
            | (go_at_call 27; (with_reducible refine (C4.out _).mono ?_); rintro _ w7 ⟨rfl, hf7⟩; obtain ⟨g2, g3⟩ := ((HRE.out.kept hf6).kept hf7).c w.heap.size a1 a2 (by simp))
            | (go_at_call 17; (with_reducible refine (CC.out _).mono ?_); rintro _ w8 ⟨rfl, hf8⟩; obtain ⟨g4, g5⟩ := (((HRE.out.kept hf6).kept hf7).kept hf8).c w.heap.size a1 a2 (by simp))
            | (go_at_call 15; (with_reducible refine (HKN.out _).mono ?_); rintro _ wk ⟨rfl, hfk⟩)
            | fail)
          go_ret
          exact ⟨rfl, (((HF6.out.trans hf6).trans hf7).trans hf8).trans hfk⟩
        · have q1 : decide (a2 = 1) = false := decide_eq_false h2
          have q2 : (a2 == 1) = false := by simpa using h2
          clear h2
          go_wp2_with (first
            | (go_at_call 16; (with_reducible refine (CF.out _).mono ?_); rintro _ w6 ⟨rfl, hf6⟩; obtain ⟨g0, g1⟩ := (HRE.out.kept hf6).c w.heap.size a1 a2 (by simp))
            | (go_at_call 27; (with_reducible refine (C4.out _).mono ?_); rintro _ w7 ⟨rfl, hf7⟩; obtain ⟨g2, g3⟩ := ((HRE.out.kept hf6).kept hf7).c w.heap.size a1 a2 (by simp))
            | (go_at_call 17; (with_reducible refine (CC.out _).mono ?_); rintro _ w8 ⟨rfl, hf8⟩; obtain ⟨g4, g5⟩ := (((HRE.out.kept hf6).kept hf7).kept hf8).c w.heap.size a1 a2 (by simp))
            | (go_at_call 15; (with_reducible refine (HKN.out _).mono ?_); rintro _ wk ⟨rfl, hfk⟩)
            | fail)
          go_ret
          exact ⟨rfl, (((HF6.out.trans hf6).trans hf7).trans hf8).trans hfk⟩
end Go.Proofs.Ytdakeenjeieekaa
