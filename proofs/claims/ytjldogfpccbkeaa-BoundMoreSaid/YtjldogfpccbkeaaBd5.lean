/- Chapter 05: Rate, a link's terms. -/
import Derived.Test.YtjldogfpccbkeaaBd4
set_option linter.unusedVariables false
set_option linter.unusedSimpArgs false
namespace Go.Proofs.Ytjldogfpccbkeaa
open Go.RowKit
attribute [local go_sem] Oper.semAt_some

theorem tks_falls {s : Sp} {r c d : Int} (h : MayP s r c d) (hr : r + 1 ≤ 1000000) : tks s (r + 1) c d ≤ tks s r c d := by
  have h1 := bDen_pos h.ok
  have hok2 : BOk s.peak s.rate s.burst s.most (r + 1) c d := by
    obtain ⟨a1, a2, a3, a4, a5, a6, a7, a8, a9, a10, a11, a12, a13⟩ := h.ok
    exact ⟨a1, a2, a3, a4, a5, a6, a7, a8, a9, a10, a11, by omega, by omega⟩
  have h2 := bDen_pos hok2
  have h3 := leF_cut (by omega) (by omega) (bq_falls h.ok hr)
  refine ceil_mono ?_ ?_ h3
  · exact Int.natCast_pos.2 (Rat.den_pos _)
  · exact Int.natCast_pos.2 (Rat.den_pos _)
set_option maxHeartbeats 2000000 in
theorem bleast_calls (K : FuncId) (u1 u2 u3 : Value) (P : Int → Bool) (lo hi : Int) (w : World) (h1 : 1 ≤ lo) (h2 : lo ≤ hi) (h3 : hi ≤ 1000000) (hmon : ∀ x, lo ≤ x → x < hi → P x = true → P (x + 1) = true)
    (HE : ∀ (args : Array Value) (U : World), (callFunc K args).run Try.prog U = .ok (.enter K args) U)
    (HP : ∀ x, lo ≤ x → x ≤ hi → ∀ U, Fr0 w U → Calls Try.prog K #[.int .i64 x, u1, u2, u3] U fun e w' => e = .returned (.bool (P x)) ∧ Fr0 U w') :
    Calls Try.prog 52 #[.int .i64 lo, .int .i64 hi, .func (.func K) #[] #[u1, u2, u3]] w fun e w' =>
      ((P hi = false ∧ e = .returned (.tuple #[.int .i64 0, .bool false])) ∨ (∃ R, lo ≤ R ∧ R ≤ hi ∧ P R = true ∧ (∀ x, lo ≤ x → x < R → P x = false) ∧ e = .returned (.tuple #[.int .i64 R, .bool true]))) ∧ Fr0 w w' := by
  have HP' := Lib.hid HP
  have HH := Lib.hid (And.intro h1 (And.intro h2 (And.intro h3 hmon)))
  clear HP hmon
  cases ht : P hi with
  | false =>
    have HT := Lib.hid ht
    clear ht
    go_enter Try.func52, Try.ntmps52
    go_wp2_with (first | (go_at_fn K; refine (HP'.out hi (by omega) (by omega) _ (Fr.refl _ _)).mono ?_; rw [HT.out]; rintro _ w3 ⟨rfl, hf3⟩) | fail)
    go_ret2
    exact ⟨.inl ⟨by first | exact HT.out | trivial, rfl⟩, hf3⟩
  | true =>
    have HT := Lib.hid ht
    clear ht
    go_enter Try.func52, Try.ntmps52
    go_wp2_with (first | (go_at_fn K; refine (HP'.out hi (by omega) (by omega) _ (Fr.refl _ _)).mono ?_; rw [HT.out]; rintro _ w3 ⟨rfl, hf3⟩) | fail)
    go_loopw [0, 1] (fun s0 s1 wr => ∃ a b : Int, s0 = .int .i64 a ∧ s1 = .int .i64 b ∧ lo ≤ a ∧ a ≤ b ∧ b ≤ hi ∧ Hid (P b = true) ∧ Hid (∀ x, lo ≤ x → x < a → P x = false) ∧ Hid (Fr0 w wr)) (fun s0 s1 _ => (intOf s1 - intOf s0).toNat)
    case atStart => exact ⟨lo, hi, rfl, rfl, by omega, h2, by omega, HT.out, (fun x hx hx2 => absurd hx (by omega)), hf3⟩
    case round =>
      obtain ⟨a, b, rfl, rfl, ha, hab, hb, HB, HA, HF⟩ := hrel
      by_cases hlt : a < b
      · obtain ⟨m, hm⟩ : ∃ m, m = (a + b).tdiv 2 := ⟨_, rfl⟩
        have hm2 : m = (a + b) / 2 := by rw [hm, Int.tdiv_eq_ediv_of_nonneg (by omega)]
        have hma : a ≤ m ∧ m < b := by omega
        have hd : decide (a < b) = true := decide_eq_true hlt
        have g1 : IntKind.i64.wrap (a + b) = a + b := by rw [IntKind.wrap_i64]; omega
        have g2 : wrap64 (a + b) = a + b := w64_id (by omega) (by omega)
        have g3 : IntKind.i64.wrap ((a + b).tdiv 2) = m := by rw [← hm, IntKind.wrap_i64]; omega
        have g4 : wrap64 ((a + b).tdiv 2) = m := by rw [← hm]; exact w64_id (by omega) (by omega)
        have g5 : (a + b).tdiv 2 = m := hm.symm
        have g6 : wrap64 (m + 1) = m + 1 := w64_id (by omega) (by omega)
        have g7 : wrap64 m = m := w64_id (by omega) (by omega)
        have HPM := Lib.hid (HP'.out m (by omega) (by omega))
        have HMA := Lib.hid hma
        clear hm hm2 hma
        cases htm : P m with
        | true =>
          have HTM := Lib.hid htm
          rw [htm] at HPM
          clear htm
          go_wp2_with (first | (go_at_fn K; with_reducible refine (HPM.out _ HF.out).mono ?_; rintro _ w5 ⟨rfl, hf5⟩) | fail)
          go_roundw
          case rel => exact ⟨a, m, rfl, rfl, ha, HMA.out.1, by have := HMA.out.2; omega, HTM.out, HA.out, HF.out.trans hf5⟩
          case measure => have := HMA.out; simp [intOf]; omega
        | false =>
          have HTM := Lib.hid htm
          rw [htm] at HPM
          clear htm
          go_wp2_with (first | (go_at_fn K; with_reducible refine (HPM.out _ HF.out).mono ?_; rintro _ w5 ⟨rfl, hf5⟩) | fail)
          go_roundw
          case rel =>
            have hma := HMA.out
            refine ⟨m + 1, b, by first | rfl | rw [g6], rfl, by omega, by omega, hb, HB.out, fun x hx hx2 => ?_, HF.out.trans hf5⟩
            cases hpx : P x with
            | false => rfl
            | true =>
              exfalso
              have up : ∀ n : Nat, x + n ≤ m → P (x + n) = true := by
                intro n
                induction n with
                | zero => intro _; simpa using hpx
                | succ n ih =>
                  intro hn
                  have := HH.out.2.2.2 (x + n) (by omega) (by omega) (ih (by omega))
                  rwa [show x + (n : Int) + 1 = x + ((n + 1 : Nat) : Int) by omega] at this
              have := up (m - x).toNat (by omega)
              rw [show x + ((m - x).toNat : Int) = m by omega, HTM.out] at this
              cases this
          case measure => have := HMA.out; simp [intOf]; omega
      · have hd : decide (a < b) = false := decide_eq_false hlt
        have hba : b = a := by omega
        subst hba
        clear hlt
        go_wp2_with fail
        go_ret2
        exact ⟨.inr ⟨b, ha, hb, HB.out, HA.out, rfl⟩, HF.out⟩
theorem brate1_calls (s : Sp) (c d ticks x : Int) (p3 p4 p5 : Nat) (h : MayP s x c d) (w : World) (h3 : w.heap[p3]? = some (.cells (spc s) 23 (0, 0))) (h4 : w.heap[p4]? = some (.cells (rtc c d) 25 (0, 0)))
    (h5 : w.heap[p5]? = some (.cells #[.int .i64 ticks] 2 (0, 0))) :
    Calls Try.prog 53 #[.int .i64 x, .pointer (some ⟨p3, 0, none⟩), .pointer (some ⟨p4, 0, none⟩), .pointer (some ⟨p5, 0, none⟩)] w fun e w' => e = .returned (.bool (decide (tks s x c d ≤ ticks))) ∧ Fr0 w w' := by
  have HM := Lib.hid (fun U => bTicks_yes s x c d h U)
  have H5 := Lib.hid h5
  obtain ⟨s0, s1, s2, s3, s4⟩ := sp_cells h3
  obtain ⟨t0, t1, _, _⟩ := two_facts h4
  clear h h3 h4 h5
  generalize tks s x c d = t at *
  go_enter Try.func53, Try.ntmps53
  go_wp2_with (first | (go_at_call 9; (with_reducible refine (HM.out _).mono ?_); rintro _ w3 ⟨rfl, hf3⟩; have y0 : w3.cell? ⟨p5, 0, none⟩ = some (.int .i64 ticks) := cell_of_blk (hf3.blk H5.out (fun h => h)) 0) | fail)
  go_ret
  exact ⟨rfl, hf3⟩
/-- What Rate answers. -/
def RateR (s : Sp) (c d ticks v k : Int) : Prop :=
  (¬ (s.Right ∧ TmOk c d ∧ (0 ≤ ticks ∧ ticks ≤ 1000000)) ∧ v = 0 ∧ k = 2) ∨
  (s.Right ∧ TmOk c d ∧ (0 ≤ ticks ∧ ticks ≤ 1000000) ∧ ticks < tks s 1000000 c d ∧ v = 0 ∧ k = 150) ∨
  (s.Right ∧ TmOk c d ∧ (0 ≤ ticks ∧ ticks ≤ 1000000) ∧ k = 0 ∧ s.rate ≤ v ∧ v ≤ 1000000 ∧ tks s v c d ≤ ticks ∧ ∀ x, s.rate ≤ x → x < v → ticks < tks s x c d)
set_option maxHeartbeats 2000000 in
theorem bRate_calls (s : Sp) (c d ticks : Int) (w : World) :
    Calls Try.prog 26 #[spv s, rtv c d, .int .i64 ticks] w fun e w' => (∃ v k, e = .returned (.tuple #[.int .i64 v, .int .i64 k]) ∧ RateR s c d ticks v k) ∧ Fr0 w w' := by
  have hmf : ∀ (fn : Fn) (first cap : Array Value) (w : World), (Instr.makeFunc fn first cap).run Try.prog w = .ok (.func fn first cap) w := fun _ _ _ _ => rfl
  have e1 := blk_alloc (blk_alloc (heap_alloc_new w (.cells (spc s) 23)) (.cells (rtc c d) 25)) (.cells #[.int .i64 ticks] 2)
  have e2 := blk_alloc (heap_an (w := w.alloc (.cells (spc s) 23)) (k := w.heap.size + 1) (.cells (rtc c d) 25) (by simp)) (.cells #[.int .i64 ticks] 2)
  have e3 := heap_an (w := (w.alloc (.cells (spc s) 23)).alloc (.cells (rtc c d) 25)) (k := w.heap.size + 1 + 1) (.cells #[.int .i64 ticks] 2) (by simp)
  have HA := Lib.hid e1
  have HB := Lib.hid e2
  have HX := Lib.hid e3
  have HF := Lib.hid ((((Fr.refl (fun _ => False) w).alloc (.cells (spc s) 23)).alloc (.cells (rtc c d) 25)).alloc (.cells #[.int .i64 ticks] 2))
  obtain ⟨s0, s1, s2, s3, s4⟩ := sp_cells e1
  clear e1 e2 e3
  have HS := Lib.hid (fun U => check_calls s U)
  have HT := Lib.hid (fun U => bcheck_calls c d U)
  have HW := Lib.hid (fun U => bwithin_calls ticks 0 1000000 U)
  unfold chk at HS
  unfold chkT at HT
  by_cases h1 : s.Right
  · rw [if_pos h1] at HS
    by_cases h2 : TmOk c d
    · rw [if_pos h2] at HT
      by_cases h3 : 0 ≤ ticks ∧ ticks ≤ 1000000
      · rw [decide_eq_true h3] at HW
        have hmay : ∀ x, s.rate ≤ x → x ≤ 1000000 → MayP s x c d := fun x hx hx2 => ⟨h1, h2, hx, hx2⟩
        have HLE := Lib.hid (fun (U : World) (hU : Fr0 ((((w.alloc (.cells (spc s) 23)).alloc (.cells (rtc c d) 25)).alloc (.cells #[.int .i64 ticks] 2))) U) =>
          bleast_calls 53 (.pointer (some ⟨w.heap.size, 0, none⟩)) (.pointer (some ⟨w.heap.size + 1, 0, none⟩)) (.pointer (some ⟨w.heap.size + 1 + 1, 0, none⟩)) (fun x => decide (tks s x c d ≤ ticks)) s.rate 1000000 U h1.r1 (by have := h1.r2; have := h1.r3; omega) (by omega)
            (fun x hx hx2 hp => by
              have h4 := tks_falls (hmay x hx (by omega)) (by omega)
              have h5 := of_decide_eq_true hp
              exact decide_eq_true (by omega))
            (enters_of' Try.func53 (by kernel_rfl) rfl)
            (fun x hx hx2 V hV => brate1_calls s c d ticks x w.heap.size (w.heap.size + 1) (w.heap.size + 1 + 1) (hmay x hx hx2) V ((hU.trans hV).blk HA.out (fun h => h)) ((hU.trans hV).blk HB.out (fun h => h)) ((hU.trans hV).blk HX.out (fun h => h))))
        have HH := Lib.hid (And.intro h1 (And.intro h2 h3))
        clear hmay h1 h2 h3
        have y9 : True := trivial
        go_enter Try.func26, Try.ntmps26
        go_wp2_with (first
          | (go_at_call 51; (with_reducible refine (HS.out _).mono ?_); rintro _ w3 ⟨rfl, hf3⟩; obtain ⟨t0, t1, _, _⟩ := two_facts (hf3.blk HB.out (fun h => h)))
          | (go_at_call 11; (with_reducible refine (HT.out _).mono ?_); rintro _ w4 ⟨rfl, hf4⟩; have y0 : w4.cell? ⟨w.heap.size + 1 + 1, 0, none⟩ = some (.int .i64 ticks) := cell_of_blk ((hf3.trans hf4).blk HX.out (fun h => h)) 0; obtain ⟨v0, v1, v2, v3, v4⟩ := sp_cells ((hf3.trans hf4).blk HA.out (fun h => h)))
          | (go_at_call 34; (with_reducible refine (HW.out _).mono ?_); rintro _ _ ⟨rfl, rfl⟩)
          | (go_at_call 52; refine (HLE.out _ (hf3.trans hf4)).mono ?_; rintro _ w5 ⟨hor, hf5⟩; rcases hor with ⟨hp, rfl⟩ | ⟨R, hR1, hR2, hR3, hR4, rfl⟩)
          | fail)
        · go_ret2
          refine ⟨⟨0, 150, rfl, .inr (.inl ⟨HH.out.1, HH.out.2.1, HH.out.2.2, ?_, rfl, rfl⟩)⟩, HF.out.trans ((hf3.trans hf4).trans hf5)⟩
          have := of_decide_eq_false hp
          omega
        · go_ret2
          refine ⟨⟨R, 0, rfl, .inr (.inr ⟨HH.out.1, HH.out.2.1, HH.out.2.2, rfl, hR1, hR2, of_decide_eq_true hR3, fun x hx hx2 => ?_⟩)⟩, HF.out.trans ((hf3.trans hf4).trans hf5)⟩
          have := of_decide_eq_false (hR4 x hx hx2)
          omega
      · rw [decide_eq_false h3] at HW
        have HN : Hid (RateR s c d ticks 0 2) := .inl ⟨fun h => h3 h.2.2, rfl, rfl⟩
        clear h1 h2 h3
        go_enter Try.func26, Try.ntmps26
        go_wp2_with (first
          | (go_at_call 51; (with_reducible refine (HS.out _).mono ?_); rintro _ w3 ⟨rfl, hf3⟩; obtain ⟨t0, t1, _, _⟩ := two_facts (hf3.blk HB.out (fun h => h)))
          | (go_at_call 11; (with_reducible refine (HT.out _).mono ?_); rintro _ w4 ⟨rfl, hf4⟩; have y0 : w4.cell? ⟨w.heap.size + 1 + 1, 0, none⟩ = some (.int .i64 ticks) := cell_of_blk ((hf3.trans hf4).blk HX.out (fun h => h)) 0)
          | (go_at_call 34; (with_reducible refine (HW.out _).mono ?_); rintro _ _ ⟨rfl, rfl⟩)
          | fail)
        go_ret2
        exact ⟨⟨0, 2, rfl, HN.out⟩, HF.out.trans (hf3.trans hf4)⟩
    · rw [if_neg h2] at HT
      have HN : Hid (RateR s c d ticks 0 2) := .inl ⟨fun h => h2 h.2.1, rfl, rfl⟩
      clear h1 h2
      go_enter Try.func26, Try.ntmps26
      go_wp2_with (first
        | (go_at_call 51; (with_reducible refine (HS.out _).mono ?_); rintro _ w3 ⟨rfl, hf3⟩; obtain ⟨t0, t1, _, _⟩ := two_facts (hf3.blk HB.out (fun h => h)))
        | (go_at_call 11; (with_reducible refine (HT.out _).mono ?_); rintro _ w4 ⟨rfl, hf4⟩)
        | fail)
      go_ret2
      exact ⟨⟨0, 2, rfl, HN.out⟩, HF.out.trans (hf3.trans hf4)⟩
  · rw [if_neg h1] at HS
    have HN : Hid (RateR s c d ticks 0 2) := .inl ⟨fun h => h1 h.1, rfl, rfl⟩
    clear h1
    go_enter Try.func26, Try.ntmps26
    go_wp2_with (first
      | (go_at_call 51; (with_reducible refine (HS.out _).mono ?_); rintro _ w3 ⟨rfl, hf3⟩)
      | fail)
    go_ret2
    exact ⟨⟨0, 2, rfl, HN.out⟩, HF.out.trans hf3⟩
end Go.Proofs.Ytjldogfpccbkeaa
