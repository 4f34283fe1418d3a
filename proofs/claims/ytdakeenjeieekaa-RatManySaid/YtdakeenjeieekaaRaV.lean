/- Chapter 01: Add, Sub, Mul, Div. -/
import Derived.Test.YtdakeenjeieekaaRaU
set_option linter.unusedVariables false
set_option linter.unusedSimpArgs false
namespace Go.Proofs.Ytdakeenjeieekaa
open Go.RowKit
attribute [local go_sem] Oper.semAt_some

theorem rtwo_calls (K : FuncId) (a b : Int × Int) (r : Ra) (ia : I64r a.1 ∧ I64r a.2) (ib : I64r b.1 ∧ I64r b.2) (w : World)
    (HE : ∀ (args : Array Value) (U : World), (callFunc K args).run Try.prog U = .ok (.enter K args) U)
    (HK : RtOk a.1 a.2 → RtOk b.1 b.2 → ∀ U, Calls Try.prog K #[rtv a.1 a.2, rtv b.1 b.2] U fun e w' => e = endR r ∧ Fr0 U w') :
    Calls Try.prog 44 #[rtv a.1 a.2, rtv b.1 b.2, clv K #[]] w fun e w' => e = .returned (tupR (twoR a b r)) ∧ Fr0 w w' := by
  have hmf : ∀ (fn : Fn) (first cap : Array Value) (w : World), (Instr.makeFunc fn first cap).run Try.prog w = .ok (.func fn first cap) w := fun _ _ _ _ => rfl
  have HF := Lib.hid (((((Fr.refl (fun _ => False) w).alloc (.cells (rtc a.1 a.2) 23)).alloc (.cells (rtc b.1 b.2) 23)).alloc (.cells #[clv K #[]] 64)).alloc (.cells (rtc 0 0) 23))
  have HB := Lib.hid (heap_an (w := ((w.alloc (.cells (rtc a.1 a.2) 23)).alloc (.cells (rtc b.1 b.2) 23)).alloc (.cells #[clv K #[]] 64)) (k := w.heap.size + 1 + 1 + 1) (.cells (rtc 0 0) 23) (by simp))
  have h1 := blk_alloc (blk_alloc (blk_alloc (heap_alloc_new w (.cells (rtc a.1 a.2) 23)) (.cells (rtc b.1 b.2) 23)) (.cells #[clv K #[]] 64)) (.cells (rtc 0 0) 23)
  have h2 := blk_alloc (blk_alloc (heap_an (w := w.alloc (.cells (rtc a.1 a.2) 23)) (k := w.heap.size + 1) (.cells (rtc b.1 b.2) 23) (by simp)) (.cells #[clv K #[]] 64)) (.cells (rtc 0 0) 23)
  have h3 := cell_of_blk (blk_alloc (heap_an (w := (w.alloc (.cells (rtc a.1 a.2) 23)).alloc (.cells (rtc b.1 b.2) 23)) (k := w.heap.size + 1 + 1) (.cells #[clv K #[]] 64) (by simp)) (.cells (rtc 0 0) 23)) 0
  have HT := Lib.hid (rtry_calls 66 #[.pointer (some ⟨w.heap.size, 0, none⟩), .pointer (some ⟨w.heap.size + 1, 0, none⟩), .pointer (some ⟨w.heap.size + 1 + 1, 0, none⟩)] (twoR a b r) _
    (enters_of' Try.func66 (by kernel_rfl) rfl)
    (fun U hU => rtwo1_calls K a b r ia ib w.heap.size (w.heap.size + 1) (w.heap.size + 1 + 1) U (hU.blk h1 (fun h => h)) (hU.blk h2 (fun h => h)) (hU.cell h3 (fun h => h)) HE HK))
  clear h1 h2 h3 HK
  obtain ⟨an, ad⟩ := a
  obtain ⟨bn, bd⟩ := b
  simp only at *
  unfold tupR at HT ⊢
  generalize twoR (an, ad) (bn, bd) r = rr at *
  generalize rN rr = x at *
  generalize rD rr = y at *
  generalize rE rr = k at *
  go_enter Try.func44, Try.ntmps44
  go_wp2_with (first | (go_at_call 34; refine HT.out.mono ?_; rintro _ w3 ⟨rfl, hf3⟩; have hb3 := hf3.blk HB.out (fun h => h); obtain ⟨c0, c1, f0, f1⟩ := two_facts hb3) | fail)
  exact bodyPost_ret (results_row_tmp (p := 6) (u := 7) rfl _ _ (w.heap.size + 1 + 1 + 1) _ _ _ _ rfl (two_set hb3 _ _) Try.underlying23 rfl (by kernel_rfl)) rfl ⟨rfl, two_fr (HF.out.trans hf3) (by omega) _ _⟩
theorem rminus_calls (n d : Int) (hn : n ≠ -9223372036854775808) (ia : I64r n) (w : World) : Calls Try.prog 49 #[rtv n d] w fun e w' => e = .returned (rtv (-n) d) ∧ Fr0 w w' := by
  have e : IntKind.i64.wrap (-n) = -n := by rw [IntKind.wrap_i64]; have := ia.1; have := ia.2; omega
  go_enter Try.func49, Try.ntmps49
  go_wp2_with fail
  exact bodyPost_ret (results_cell_row rfl _ _ (w.heap.size + 1) _ _ _ _ rfl (heap_an (w := w.alloc (.cells (rtc n d) 23)) (k := w.heap.size + 1) (.cells (rtc (-n) d) 23) (by simp)) Try.underlying23 rfl (by kernel_rfl)) rfl ⟨rfl, ((Fr.refl (fun _ => False) w).alloc _).alloc _⟩
theorem rq_neg (n d : Int) : rq (-n) d = - rq n d := by unfold rq; rw [Rat.neg_mkRat]
theorem rtOk_neg {n d : Int} (h : RtOk n d) (ia : I64r n) : RtOk (-n) d ∧ I64r (-n) := by
  obtain ⟨h1, h2, h3⟩ := h
  obtain ⟨i1, i2⟩ := ia
  refine ⟨⟨h1, by omega, by rw [Int.natAbs_neg]; exact h3⟩, by omega, by omega⟩
theorem rsub1_calls (a b : Int × Int) (ia : I64r a.1 ∧ I64r a.2) (ib : I64r b.1 ∧ I64r b.2) (ha : RtOk a.1 a.2) (hb : RtOk b.1 b.2) (w : World) :
    Calls Try.prog 48 #[rtv a.1 a.2, rtv b.1 b.2] w fun e w' => e = endR (rR (rq a.1 a.2 - rq b.1 b.2)) ∧ Fr0 w w' := by
  obtain ⟨an, ad⟩ := a
  obtain ⟨bn, bd⟩ := b
  simp only at *
  have hmx : Try.prog.follows .mixedOrders = true := by kernel_rfl
  have hng := rtOk_neg hb ib.1
  have HMI := Lib.hid (fun U => rminus_calls bn bd hb.2.1 ib.1 U)
  have HAD := Lib.hid (fun U => radded_calls an ad (-bn) bd ha hng.1 ia ⟨hng.2, ib.2⟩ U)
  rw [rq_neg, ← Rat.sub_eq_add_neg] at HAD
  have HF := Lib.hid ((((Fr.refl (fun _ => False) w).alloc (.cells (rtc an ad) 23)).alloc (.cells (rtc bn bd) 23)).alloc (.cells (rtc 0 0) 23))
  have HB := Lib.hid (heap_an (w := (w.alloc (.cells (rtc an ad) 23)).alloc (.cells (rtc bn bd) 23)) (k := w.heap.size + 1 + 1) (.cells (rtc 0 0) 23) (by simp))
  obtain ⟨ca0, ca1, _, _⟩ := two_facts (blk_alloc (blk_alloc (heap_alloc_new w (.cells (rtc an ad) 23)) (.cells (rtc bn bd) 23)) (.cells (rtc 0 0) 23))
  obtain ⟨cb0, cb1, _, _⟩ := two_facts (blk_alloc (heap_an (w := w.alloc (.cells (rtc an ad) 23)) (k := w.heap.size + 1) (.cells (rtc bn bd) 23) (by simp)) (.cells (rtc 0 0) 23))
  clear ha hb ia ib hng
  obtain ⟨er, her⟩ : ∃ er, er = endR (rR (rq an ad - rq bn bd)) := ⟨_, rfl⟩
  rw [← her] at HAD ⊢
  have hec := endR_cases (rR (rq an ad - rq bn bd))
  rw [← her] at hec
  clear her
  go_enter Try.func48, Try.ntmps48
  go_wp2_with fail
  generalize ((w.alloc (.cells (rtc an ad) 23)).alloc (.cells (rtc bn bd) 23)).alloc (.cells (rtc 0 0) 23) = W at *
  have r0 := cg_cell (W := W) ca0
  have r1 := cg_cell (W := W) ca1
  have r2 := cg_cell (W := W) cb0
  have r3 := cg_cell (W := W) cb1
  refine wp_region_class (fun U => ∃ x : Wx W, U = x.u) 3 hmx (by kernel_rfl) ⟨⟨W.drew, (Fr.refl _ W).drew⟩, rfl⟩ ?_
  simp only [List.take_succ_cons, List.take_zero, List.drop_succ_cons, List.drop_zero]
  repeat (first
    | go_big_quiet_step (fail)
    | go_big_quiet_step ((go_at_call 49; with_reducible exact quiet_cg (HMI.out _))))
  refine wpQuiet_nil ?_
  rintro U ⟨y, rfl⟩
  rcases hec with ⟨p1, p2, rfl⟩ | ⟨k, rfl⟩
  · go_wp2_with (first | (go_at_call 45; refine (HAD.out _).mono ?_; rintro _ w3 ⟨rfl, hf3⟩; have hb3 := (y.fr.trans hf3).blk HB.out (fun h => h); obtain ⟨c0, c1, f0, f1⟩ := two_facts hb3) | fail)
    exact bodyPost_ret (results_cell_row rfl _ _ (w.heap.size + 1 + 1) _ _ _ _ rfl (two_set hb3 _ _) Try.underlying23 rfl (by kernel_rfl)) rfl ⟨rfl, two_fr ((HF.out.trans y.fr).trans hf3) (by omega) _ _⟩
  · go_wp2_with (first | (go_at_call 45; refine (HAD.out _).mono ?_; rintro _ w3 ⟨rfl, hf3⟩) | fail)
    exact ⟨rfl, rfl, (HF.out.trans y.fr).trans hf3⟩
theorem rq_mul_self {n d : Int} (hn : n ≠ 0) (hd : 1 ≤ d) {m e : Int} (h : (m = d ∧ e = n ∧ 0 < n) ∨ (m = -d ∧ e = -n ∧ n < 0)) : rq m e * rq n d = 1 := by
  unfold rq
  rw [Rat.mkRat_mul_mkRat]
  rcases h with ⟨rfl, rfl, h⟩ | ⟨rfl, rfl, h⟩
  · have : ((e.natAbs * m.natAbs : Nat) : Int) = m * e := by
      rw [Int.natCast_mul, Int.natAbs_of_nonneg (by omega), Int.natAbs_of_nonneg (by omega), Int.mul_comm]
    rw [← this]
    exact Rat.mkRat_self 1 ▸ (Rat.mkRat_eq_iff (Nat.mul_ne_zero (by omega) (by omega)) (by decide)).2 (by simp)
  · have : (((-n).natAbs * d.natAbs : Nat) : Int) = -d * n := by
      rw [Int.natCast_mul, Int.natAbs_of_nonneg (by omega), Int.natAbs_of_nonneg (by omega), Int.neg_mul, Int.neg_mul, Int.mul_comm]
    rw [← this]
    exact Rat.mkRat_self 1 ▸ (Rat.mkRat_eq_iff (Nat.mul_ne_zero (by omega) (by omega)) (by decide)).2 (by simp)
theorem rq_ne_zero {n d : Int} (hn : n ≠ 0) (hd : 1 ≤ d) : rq n d ≠ 0 := by
  unfold rq
  intro h
  exact hn ((Rat.mkRat_eq_zero (by omega)).1 h)
theorem rq_inv {n d m e : Int} (hn : n ≠ 0) (hd : 1 ≤ d) (h : (m = d ∧ e = n ∧ 0 < n) ∨ (m = -d ∧ e = -n ∧ n < 0)) (x : Rat) : x * rq m e = x / rq n d := by
  have h1 := rq_mul_self hn hd h
  have h2 := rq_ne_zero hn hd
  rw [Rat.div_def]
  congr 1
  have h3 := Rat.mul_inv_cancel (rq n d) h2
  calc rq m e = rq m e * (rq n d * (rq n d)⁻¹) := by rw [h3, Rat.mul_one]
    _ = (rq n d)⁻¹ := by rw [← Rat.mul_assoc, h1, Rat.one_mul]
/-- One by another one. -/
def divR (a b : Int × Int) : Ra := if b.1 = 0 then .error 2 else rR (rq a.1 a.2 / rq b.1 b.2)
theorem rdiv1_calls (a b : Int × Int) (ia : I64r a.1 ∧ I64r a.2) (ib : I64r b.1 ∧ I64r b.2) (ha : RtOk a.1 a.2) (hb : RtOk b.1 b.2) (w : World) :
    Calls Try.prog 46 #[rtv a.1 a.2, rtv b.1 b.2] w fun e w' => e = endR (divR a b) ∧ Fr0 w w' := by
  obtain ⟨an, ad⟩ := a
  obtain ⟨bn, bd⟩ := b
  unfold divR
  simp only at *
  have HF := Lib.hid ((((Fr.refl (fun _ => False) w).alloc (.cells (rtc an ad) 23)).alloc (.cells (rtc bn bd) 23)).alloc (.cells (rtc 0 0) 23))
  have HB := fun o => Lib.hid (blk_alloc (heap_an (w := (w.alloc (.cells (rtc an ad) 23)).alloc (.cells (rtc bn bd) 23)) (k := w.heap.size + 1 + 1) (.cells (rtc 0 0) 23) (by simp)) o)
  by_cases hz : bn = 0
  · rw [if_pos hz]
    subst hz
    have HM := Lib.hid (fun U => rmust_no 2 U)
    clear ha hb ia ib
    go_enter Try.func46, Try.ntmps46
    go_wp2_with (first | (go_at_call 36; (with_reducible refine (HM.out _).mono ?_); rintro _ _ ⟨rfl, rfl⟩) | fail)
    exact ⟨rfl, rfl, HF.out⟩
  · rw [if_neg hz]
    have HM := Lib.hid (fun U => rmust_yes 2 U)
    have d1 : decide (bn = 0) = false := decide_eq_false hz
    have d2 : (bn == 0) = false := by simpa using hz
    have d3 : (bn != 0) = true := by simpa using hz
    obtain ⟨b1, b2, b3⟩ := hb
    obtain ⟨ib1, ib2⟩ := ib
    have l1 := ib1.1
    have l2 := ib1.2
    have l3 := ib2.1
    have l4 := ib2.2
    have e1 : IntKind.i64.wrap (-bd) = -bd := by rw [IntKind.wrap_i64]; omega
    have e2 : IntKind.i64.wrap (-bn) = -bn := by rw [IntKind.wrap_i64]; omega
    have hec := endR_cases (rR (rq an ad / rq bn bd))
    by_cases hs : bn < 0
    · have ds : decide (bn < 0) = true := decide_eq_true hs
      have HMU := Lib.hid (fun U => rmultiplied_calls an ad (-bd) (-bn) ha ⟨by omega, by omega, by rw [Int.natAbs_neg, Int.natAbs_neg, Nat.gcd_comm]; exact b3⟩ ia ⟨⟨by omega, by omega⟩, ⟨by omega, by omega⟩⟩ U)
      rw [rq_inv hz b1 (.inr ⟨rfl, rfl, hs⟩)] at HMU
      generalize endR (rR (rq an ad / rq bn bd)) = er at *
      clear hz hs b1 b2 b3 l1 l2 l3 l4 ib1 ib2 ia ha
      rcases hec with ⟨p1, p2, rfl⟩ | ⟨k, rfl⟩
      · go_enter Try.func46, Try.ntmps46
        go_wp2_with (first | (go_at_call 36; (with_reducible refine (HM.out _).mono ?_); rintro _ _ ⟨rfl, rfl⟩) | (go_at_call 47; refine (HMU.out _).mono ?_; rintro _ w3 ⟨rfl, hf3⟩; have hb3 := hf3.blk (HB _).out (fun h => h); obtain ⟨c0, c1, f0, f1⟩ := two_facts hb3) | fail)
        exact bodyPost_ret (results_cell_row rfl _ _ (w.heap.size + 1 + 1) _ _ _ _ rfl (two_set hb3 _ _) Try.underlying23 rfl (by kernel_rfl)) rfl ⟨rfl, two_fr ((HF.out.alloc _).trans hf3) (by omega) _ _⟩
      · go_enter Try.func46, Try.ntmps46
        go_wp2_with (first | (go_at_call 36; (with_reducible refine (HM.out _).mono ?_); rintro _ _ ⟨rfl, rfl⟩) | (go_at_call 47; refine (HMU.out _).mono ?_; rintro _ w3 ⟨rfl, hf3⟩) | fail)
        exact ⟨rfl, rfl, (HF.out.alloc _).trans hf3⟩
    · have ds : decide (bn < 0) = false := decide_eq_false hs
      have HMU := Lib.hid (fun U => rmultiplied_calls an ad bd bn ha ⟨by omega, by omega, by rw [Nat.gcd_comm]; exact b3⟩ ia ⟨ib2, ib1⟩ U)
      rw [rq_inv hz b1 (.inl ⟨rfl, rfl, by omega⟩)] at HMU
      generalize endR (rR (rq an ad / rq bn bd)) = er at *
      clear hz hs b1 b2 b3 l1 l2 l3 l4 ib1 ib2 ia ha
      rcases hec with ⟨p1, p2, rfl⟩ | ⟨k, rfl⟩
      · go_enter Try.func46, Try.ntmps46
        go_wp2_with (first | (go_at_call 36; (with_reducible refine (HM.out _).mono ?_); rintro _ _ ⟨rfl, rfl⟩) | (go_at_call 47; refine (HMU.out _).mono ?_; rintro _ w3 ⟨rfl, hf3⟩; have hb3 := hf3.blk (HB _).out (fun h => h); obtain ⟨c0, c1, f0, f1⟩ := two_facts hb3) | fail)
        exact bodyPost_ret (results_cell_row rfl _ _ (w.heap.size + 1 + 1) _ _ _ _ rfl (two_set hb3 _ _) Try.underlying23 rfl (by kernel_rfl)) rfl ⟨rfl, two_fr ((HF.out.alloc _).trans hf3) (by omega) _ _⟩
      · go_enter Try.func46, Try.ntmps46
        go_wp2_with (first | (go_at_call 36; (with_reducible refine (HM.out _).mono ?_); rintro _ _ ⟨rfl, rfl⟩) | (go_at_call 47; refine (HMU.out _).mono ?_; rintro _ w3 ⟨rfl, hf3⟩) | fail)
        exact ⟨rfl, rfl, (HF.out.alloc _).trans hf3⟩
theorem radd_make (a b : Int × Int) (ia : I64r a.1 ∧ I64r a.2) (ib : I64r b.1 ∧ I64r b.2) (ha : RtOk a.1 a.2) (hb : RtOk b.1 b.2) (w : World) :
    Calls Try.prog 45 #[rtv a.1 a.2, rtv b.1 b.2] w fun e w' => e = endR (rR (rq a.1 a.2 + rq b.1 b.2)) ∧ Fr0 w w' := radded_calls a.1 a.2 b.1 b.2 ha hb ia ib w
theorem rmul_make (a b : Int × Int) (ia : I64r a.1 ∧ I64r a.2) (ib : I64r b.1 ∧ I64r b.2) (ha : RtOk a.1 a.2) (hb : RtOk b.1 b.2) (w : World) :
    Calls Try.prog 47 #[rtv a.1 a.2, rtv b.1 b.2] w fun e w' => e = endR (rR (rq a.1 a.2 * rq b.1 b.2)) ∧ Fr0 w w' := rmultiplied_calls a.1 a.2 b.1 b.2 ha hb ia ib w
theorem rsub_make (a b : Int × Int) (ia : I64r a.1 ∧ I64r a.2) (ib : I64r b.1 ∧ I64r b.2) (ha : RtOk a.1 a.2) (hb : RtOk b.1 b.2) (w : World) :
    Calls Try.prog 48 #[rtv a.1 a.2, rtv b.1 b.2] w fun e w' => e = endR (rR (rq a.1 a.2 - rq b.1 b.2)) ∧ Fr0 w w' := rsub1_calls a b ia ib ha hb w
theorem rdiv_make (a b : Int × Int) (ia : I64r a.1 ∧ I64r a.2) (ib : I64r b.1 ∧ I64r b.2) (ha : RtOk a.1 a.2) (hb : RtOk b.1 b.2) (w : World) :
    Calls Try.prog 46 #[rtv a.1 a.2, rtv b.1 b.2] w fun e w' => e = endR (divR a b) ∧ Fr0 w w' := rdiv1_calls a b ia ib ha hb w

/-- Add of two. -/
theorem radd_calls (a b : Int × Int) (ia : I64r a.1 ∧ I64r a.2) (ib : I64r b.1 ∧ I64r b.2) (w : World) :
    Calls Try.prog 18 #[rtv a.1 a.2, rtv b.1 b.2] w fun e w' => e = .returned (tupR (twoR a b (rR (rq a.1 a.2 + rq b.1 b.2)))) ∧ Fr0 w w' := by
  have HF := Lib.hid ((((Fr.refl (fun _ => False) w).alloc (.cells (rtc a.1 a.2) 23)).alloc (.cells (rtc b.1 b.2) 23)).alloc (.cells (rtc 0 0) 23))
  have HB := Lib.hid (heap_an (w := (w.alloc (.cells (rtc a.1 a.2) 23)).alloc (.cells (rtc b.1 b.2) 23)) (k := w.heap.size + 1 + 1) (.cells (rtc 0 0) 23) (by simp))
  have HT := Lib.hid (fun U => rtwo_calls 45 a b (rR (rq a.1 a.2 + rq b.1 b.2)) ia ib U (enters_of' Try.func45 (by kernel_rfl) rfl) (fun ha hb V => radd_make a b ia ib ha hb V))
  obtain ⟨an, ad⟩ := a
  obtain ⟨bn, bd⟩ := b
  simp only at *
  unfold tupR at HT ⊢
  generalize hrr : twoR (an, ad) (bn, bd) _ = rr at *
  clear hrr
  generalize rN rr = x at *
  generalize rD rr = y at *
  generalize rE rr = k at *
  go_enter Try.func18, Try.ntmps18
  go_wp2_with (first | (go_at_call 44; refine (HT.out _).mono ?_; rintro _ w3 ⟨rfl, hf3⟩; have hb3 := hf3.blk HB.out (fun h => h); obtain ⟨c0, c1, f0, f1⟩ := two_facts hb3) | fail)
  exact bodyPost_ret (results_row_tmp (p := 4) (u := 5) rfl _ _ (w.heap.size + 1 + 1) _ _ _ _ rfl (two_set hb3 _ _) Try.underlying23 rfl (by kernel_rfl)) rfl ⟨rfl, two_fr (HF.out.trans hf3) (by omega) _ _⟩

/-- Sub of two. -/
theorem rsub_calls (a b : Int × Int) (ia : I64r a.1 ∧ I64r a.2) (ib : I64r b.1 ∧ I64r b.2) (w : World) :
    Calls Try.prog 20 #[rtv a.1 a.2, rtv b.1 b.2] w fun e w' => e = .returned (tupR (twoR a b (rR (rq a.1 a.2 - rq b.1 b.2)))) ∧ Fr0 w w' := by
  have HF := Lib.hid ((((Fr.refl (fun _ => False) w).alloc (.cells (rtc a.1 a.2) 23)).alloc (.cells (rtc b.1 b.2) 23)).alloc (.cells (rtc 0 0) 23))
  have HB := Lib.hid (heap_an (w := (w.alloc (.cells (rtc a.1 a.2) 23)).alloc (.cells (rtc b.1 b.2) 23)) (k := w.heap.size + 1 + 1) (.cells (rtc 0 0) 23) (by simp))
  have HT := Lib.hid (fun U => rtwo_calls 48 a b (rR (rq a.1 a.2 - rq b.1 b.2)) ia ib U (enters_of' Try.func48 (by kernel_rfl) rfl) (fun ha hb V => rsub_make a b ia ib ha hb V))
  obtain ⟨an, ad⟩ := a
  obtain ⟨bn, bd⟩ := b
  simp only at *
  unfold tupR at HT ⊢
  generalize hrr : twoR (an, ad) (bn, bd) _ = rr at *
  clear hrr
  generalize rN rr = x at *
  generalize rD rr = y at *
  generalize rE rr = k at *
  go_enter Try.func20, Try.ntmps20
  go_wp2_with (first | (go_at_call 44; refine (HT.out _).mono ?_; rintro _ w3 ⟨rfl, hf3⟩; have hb3 := hf3.blk HB.out (fun h => h); obtain ⟨c0, c1, f0, f1⟩ := two_facts hb3) | fail)
  exact bodyPost_ret (results_row_tmp (p := 4) (u := 5) rfl _ _ (w.heap.size + 1 + 1) _ _ _ _ rfl (two_set hb3 _ _) Try.underlying23 rfl (by kernel_rfl)) rfl ⟨rfl, two_fr (HF.out.trans hf3) (by omega) _ _⟩

/-- Mul of two. -/
theorem rmul_calls (a b : Int × Int) (ia : I64r a.1 ∧ I64r a.2) (ib : I64r b.1 ∧ I64r b.2) (w : World) :
    Calls Try.prog 21 #[rtv a.1 a.2, rtv b.1 b.2] w fun e w' => e = .returned (tupR (twoR a b (rR (rq a.1 a.2 * rq b.1 b.2)))) ∧ Fr0 w w' := by
  have HF := Lib.hid ((((Fr.refl (fun _ => False) w).alloc (.cells (rtc a.1 a.2) 23)).alloc (.cells (rtc b.1 b.2) 23)).alloc (.cells (rtc 0 0) 23))
  have HB := Lib.hid (heap_an (w := (w.alloc (.cells (rtc a.1 a.2) 23)).alloc (.cells (rtc b.1 b.2) 23)) (k := w.heap.size + 1 + 1) (.cells (rtc 0 0) 23) (by simp))
  have HT := Lib.hid (fun U => rtwo_calls 47 a b (rR (rq a.1 a.2 * rq b.1 b.2)) ia ib U (enters_of' Try.func47 (by kernel_rfl) rfl) (fun ha hb V => rmul_make a b ia ib ha hb V))
  obtain ⟨an, ad⟩ := a
  obtain ⟨bn, bd⟩ := b
  simp only at *
  unfold tupR at HT ⊢
  generalize hrr : twoR (an, ad) (bn, bd) _ = rr at *
  clear hrr
  generalize rN rr = x at *
  generalize rD rr = y at *
  generalize rE rr = k at *
  go_enter Try.func21, Try.ntmps21
  go_wp2_with (first | (go_at_call 44; refine (HT.out _).mono ?_; rintro _ w3 ⟨rfl, hf3⟩; have hb3 := hf3.blk HB.out (fun h => h); obtain ⟨c0, c1, f0, f1⟩ := two_facts hb3) | fail)
  exact bodyPost_ret (results_row_tmp (p := 4) (u := 5) rfl _ _ (w.heap.size + 1 + 1) _ _ _ _ rfl (two_set hb3 _ _) Try.underlying23 rfl (by kernel_rfl)) rfl ⟨rfl, two_fr (HF.out.trans hf3) (by omega) _ _⟩

/-- Div of two. -/
theorem rdiv_calls (a b : Int × Int) (ia : I64r a.1 ∧ I64r a.2) (ib : I64r b.1 ∧ I64r b.2) (w : World) :
    Calls Try.prog 19 #[rtv a.1 a.2, rtv b.1 b.2] w fun e w' => e = .returned (tupR (twoR a b (divR a b))) ∧ Fr0 w w' := by
  have HF := Lib.hid ((((Fr.refl (fun _ => False) w).alloc (.cells (rtc a.1 a.2) 23)).alloc (.cells (rtc b.1 b.2) 23)).alloc (.cells (rtc 0 0) 23))
  have HB := Lib.hid (heap_an (w := (w.alloc (.cells (rtc a.1 a.2) 23)).alloc (.cells (rtc b.1 b.2) 23)) (k := w.heap.size + 1 + 1) (.cells (rtc 0 0) 23) (by simp))
  have HT := Lib.hid (fun U => rtwo_calls 46 a b (divR a b) ia ib U (enters_of' Try.func46 (by kernel_rfl) rfl) (fun ha hb V => rdiv_make a b ia ib ha hb V))
  obtain ⟨an, ad⟩ := a
  obtain ⟨bn, bd⟩ := b
  simp only at *
  unfold tupR at HT ⊢
  generalize hrr : twoR (an, ad) (bn, bd) _ = rr at *
  clear hrr
  generalize rN rr = x at *
  generalize rD rr = y at *
  generalize rE rr = k at *
  go_enter Try.func19, Try.ntmps19
  go_wp2_with (first | (go_at_call 44; refine (HT.out _).mono ?_; rintro _ w3 ⟨rfl, hf3⟩; have hb3 := hf3.blk HB.out (fun h => h); obtain ⟨c0, c1, f0, f1⟩ := two_facts hb3) | fail)
  exact bodyPost_ret (results_row_tmp (p := 4) (u := 5) rfl _ _ (w.heap.size + 1 + 1) _ _ _ _ rfl (two_set hb3 _ _) Try.underlying23 rfl (by kernel_rfl)) rfl ⟨rfl, two_fr (HF.out.trans hf3) (by omega) _ _⟩
end Go.Proofs.Ytdakeenjeieekaa
