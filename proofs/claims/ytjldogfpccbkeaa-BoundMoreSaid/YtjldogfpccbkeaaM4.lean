/- Several texts in one: RaN RaM RaT RaU RaV RaW RaX RaY. -/
import Derived.Test.YtjldogfpccbkeaaM3
import Derived.Test.YtjldogfpccbkeaaM1
import Derived.Deep.RegionHeld3
/- Chapter 01: wide numbers by their two words; what the code's sum is (plain). -/
set_option linter.unusedVariables false
set_option linter.unusedSimpArgs false
namespace Go.Proofs.Ytjldogfpccbkeaa
open Go.RowKit
attribute [local go_sem] Oper.semAt_some

def hiw (n : Nat) : Nat := n / 18446744073709551616
def low (n : Nat) : Nat := n % 18446744073709551616
abbrev wdC (n : Nat) : Array Value := #[u64v (hiw n), u64v (low n)]
abbrev wd (n : Nat) : Value := .agg #[u64v (hiw n), u64v (low n)]
theorem ctimes (a b : Nat) (ha : a < 18446744073709551616) (hb : b < 18446744073709551616) (w : World) : Calls Try.prog 85 #[u64v a, u64v b] w fun e w' => e = .returned (wd (a * b)) ∧ Fr0 w w' := wtimes_calls a b ha hb w
theorem cplus (a b : Nat) (h : a + b < 340282366920938463463374607431768211456) (w : World) : Calls Try.prog 86 #[wd a, wd b] w fun e w' => e = .returned (wd (a + b)) ∧ Fr0 w w' := wplus_calls a b h w
theorem cminus (a b : Nat) (h : b ≤ a) (ha : a < 340282366920938463463374607431768211456) (w : World) : Calls Try.prog 88 #[wd a, wd b] w fun e w' => e = .returned (wd (a - b)) ∧ Fr0 w w' := wminus_calls a b h ha w
theorem cless (a b : Nat) (w : World) : Calls Try.prog 87 #[wd a, wd b] w fun e w' => e = .returned (.bool (decide (a < b))) ∧ Fr0 w w' := wless_calls a b w
theorem cleft (a d : Nat) (h0 : 0 < d) (ha : a < 340282366920938463463374607431768211456) (hd : d < 18446744073709551616) (w : World) : Calls Try.prog 89 #[wd a, u64v d] w fun e w' => e = .returned (u64v (a % d)) ∧ Fr0 w w' := wleft_calls a d h0 ha hd w
theorem cby_yes (a d : Nat) (h0 : hiw a < d) (hd : d < 18446744073709551616) (w : World) : Calls Try.prog 90 #[wd a, u64v d] w fun e w' => e = .returned (.tuple #[u64v (a / d), u64v (a % d)]) ∧ Fr0 w w' := wby_yes a d h0 hd w
theorem cby_no (a d : Nat) (h0 : ¬ hiw a < d) (w : World) : Calls Try.prog 90 #[wd a, u64v d] w fun e w' => e = .panicked [stopE 110] ∧ Fr0 w w' := wby_no a d h0 w
theorem two_frS {S : Nat → Prop} {a w : World} {b : Nat} (h : Fr S a w) (hb : S b) (x y : Value) : Fr S a ((w.setCell ⟨b, 0, none⟩ x).setCell ⟨b, 1, none⟩ y) :=
  (h.setCell (p := ⟨b, 0, none⟩) (fun _ => hb) x).setCell (p := ⟨b, 1, none⟩) (fun _ => hb) y
theorem wd_zero (n : Nat) : (hiw n = 0 ∧ low n = 0) ↔ n = 0 := by unfold hiw low; omega
theorem eq_wide (a b c d : Int) (w : World) : (Op.equalIn 10000 117 (.agg #[.int .u64 a, .int .u64 b]) (.agg #[.int .u64 c, .int .u64 d])).run Try.prog w = .ok (a == c && b == d) w := by
  obtain ⟨i, hi⟩ : ∃ i, Try.prog.info? 85 = some i := Option.isSome_iff_exists.1 (by kernel_rfl)
  have hc : Try.prog.cellsOf 85 = 1 := by kernel_rfl
  have h1 := run_equalIn_array (w := w) 9999 #[.int .u64 a, .int .u64 b] #[.int .u64 c, .int .u64 d] Try.underlying117 hi
  rw [hc] at h1
  rw [show (10000 : Nat) = 9999 + 1 from rfl, h1]
  have h53 := Try.underlying85
  have h2 : ∀ x y : Int, (Op.equalIn 9999 85 (.int .u64 x) (.int .u64 y)).run Try.prog w = .ok (x == y) w := fun x y => run_equalIn_int (w := w) 9998 85 .u64 .u64 x y h53
  have h3 : (List.range' 0 2) = [0, 1] := rfl
  simp [go_sem, Op.eqItems, h2, h3]
  by_cases h1 : a = c <;> by_cases h2 : b = d <;> simp [h1, h2]
/-- What t and its sign are of the cut cross products. -/
def AddT (an ad bn bd : Int) (g x y t : Nat) (below : Bool) : Prop := SumOf t x y ∧ t ≤ x + y ∧ sgn (g * t) below = an * bd + bn * ad
theorem addT_aux {an ad bn bd : Int} {A B C D g x y : Nat} (hA : A = an.natAbs) (hB : B = bn.natAbs) (hC : (C : Int) = ad) (hD : (D : Int) = bd) (hx : g * x = A * D) (hy : g * y = B * C) :
    an * bd = (if an < 0 then -((g * x : Nat) : Int) else ((g * x : Nat) : Int)) ∧ bn * ad = (if bn < 0 then -((g * y : Nat) : Int) else ((g * y : Nat) : Int)) := by
  rw [hx, hy, ← hC, ← hD]
  constructor
  · split
    · have : an = -(A : Int) := by omega
      rw [this, Int.neg_mul]; simp
    · have : an = (A : Int) := by omega
      rw [this]; simp
  · split
    · have : bn = -(B : Int) := by omega
      rw [this, Int.neg_mul]; simp
    · have : bn = (B : Int) := by omega
      rw [this]; simp
theorem addT_same {an ad bn bd : Int} {A B C D g x y : Nat} (hA : A = an.natAbs) (hB : B = bn.natAbs) (hC : (C : Int) = ad) (hD : (D : Int) = bd) (hx : g * x = A * D) (hy : g * y = B * C)
    (h : decide (an < 0) = decide (bn < 0)) : AddT an ad bn bd g x y (x + y) (decide (an < 0)) := by
  obtain ⟨e1, e2⟩ := addT_aux hA hB hC hD hx hy
  refine ⟨.inl rfl, Nat.le_refl _, ?_⟩
  rw [e1, e2, Nat.mul_add]
  unfold sgn
  have hh := decide_eq_decide.1 h
  by_cases h1 : an < 0
  · have h2 := hh.1 h1
    simp only [h1, h2, decide_true, if_true]; omega
  · have h2 : ¬ bn < 0 := fun h => h1 (hh.2 h)
    simp only [h1, h2, decide_false, if_false]; simp
theorem addT_less {an ad bn bd : Int} {A B C D g x y : Nat} (hA : A = an.natAbs) (hB : B = bn.natAbs) (hC : (C : Int) = ad) (hD : (D : Int) = bd) (hx : g * x = A * D) (hy : g * y = B * C)
    (h : decide (an < 0) = !decide (bn < 0)) (hl : x < y) : AddT an ad bn bd g x y (y - x) (decide (bn < 0)) := by
  obtain ⟨e1, e2⟩ := addT_aux hA hB hC hD hx hy
  refine ⟨.inr (.inr (by omega)), by omega, ?_⟩
  rw [e1, e2, Nat.mul_sub]
  have hle : g * x ≤ g * y := Nat.mul_le_mul_left _ (by omega)
  unfold sgn
  by_cases h1 : an < 0 <;> by_cases h2 : bn < 0
  · simp [h1, h2] at h
  · simp only [h1, h2, decide_false, if_false, if_true]; simp only [Bool.false_eq_true, if_false]; omega
  · simp only [h1, h2, decide_true, if_false, if_true]; omega
  · simp [h1, h2] at h
theorem addT_ge {an ad bn bd : Int} {A B C D g x y : Nat} (hA : A = an.natAbs) (hB : B = bn.natAbs) (hC : (C : Int) = ad) (hD : (D : Int) = bd) (hx : g * x = A * D) (hy : g * y = B * C)
    (h : decide (an < 0) = !decide (bn < 0)) (hl : ¬ x < y) : AddT an ad bn bd g x y (x - y) (decide (an < 0)) := by
  obtain ⟨e1, e2⟩ := addT_aux hA hB hC hD hx hy
  refine ⟨.inr (.inl (by omega)), by omega, ?_⟩
  rw [e1, e2, Nat.mul_sub]
  have hle : g * y ≤ g * x := Nat.mul_le_mul_left _ (by omega)
  unfold sgn
  by_cases h1 : an < 0 <;> by_cases h2 : bn < 0
  · simp [h1, h2] at h
  · simp only [h1, h2, decide_true, if_false, if_true]; omega
  · simp only [h1, h2, decide_false, if_false, if_true]; simp only [Bool.false_eq_true, if_false]; omega
  · simp [h1, h2] at h
/-- What the code tells behind t is the sum. -/
theorem addR_code {an ad bn bd : Int} {A B C D g p r x y t : Nat} {below : Bool} (hA : A = an.natAbs) (hB : B = bn.natAbs) (hC : C = ad.natAbs) (hD : D = bd.natAbs) (c1 : 1 ≤ ad) (c2 : 1 ≤ bd) (ga : Nat.gcd A C = 1) (gb : Nat.gcd B D = 1)
    (hg : g = Nat.gcd C D) (hp : p = D / g) (hr : r = C / g) (hx : x = A * p) (hy : y = B * r) (h : AddT an ad bn bd g x y t below) :
    rR (rq an ad + rq bn bd) = codeAdd t below (Nat.gcd g (t % g)) (r * (D / Nat.gcd g (t % g))) := by
  obtain ⟨h1, _, h2⟩ := h
  subst hx hy hp hr
  rw [codeAdd_eq below ga gb hg (by omega) (by omega) h1, h2]
  unfold rq
  rw [Rat.mkRat_add_mkRat _ _ (by omega) (by omega), ← hC, ← hD]
  congr 2
  have e1 : (D : Int) = bd := by omega
  have e2 : (C : Int) = ad := by omega
  rw [e1, e2]
end Go.Proofs.Ytjldogfpccbkeaa

/- Chapter 01: added. -/
set_option linter.unusedVariables false
set_option linter.unusedSimpArgs false
namespace Go.Proofs.Ytjldogfpccbkeaa
open Go.RowKit
attribute [local go_sem] Oper.semAt_some

theorem beq_agg (n : Nat) : ((hiw n == 0) && (low n == 0)) = decide (n = 0) := by
  rw [Bool.eq_iff_iff]; simp; exact wd_zero n
set_option maxHeartbeats 8000000 in
set_option maxRecDepth 20000 in
theorem radded_calls (an ad bn bd : Int) (ha : RtOk an ad) (hb : RtOk bn bd) (ia : I64r an ∧ I64r ad) (ib : I64r bn ∧ I64r bd) (w : World) :
    Calls Try.prog 68 #[rtv an ad, rtv bn bd] w fun e w' => e = endR (rR (rq an ad + rq bn bd)) ∧ Fr0 w w' := by
  have hmx : Try.prog.follows .mixedOrders = true := by kernel_rfl
  obtain ⟨a1, a2, a3⟩ := ha
  obtain ⟨b1, b2, b3⟩ := hb
  obtain ⟨ia1, ia2⟩ := ia
  obtain ⟨ib1, ib2⟩ := ib
  have w1 : IntKind.u64.wrap ad = ((ad.natAbs : Nat) : Int) := u64_abs (by omega) ia2.2
  have w2' : IntKind.u64.wrap bd = ((bd.natAbs : Nat) : Int) := u64_abs (by omega) ib2.2
  have hA : an.natAbs < 9223372036854775808 := by have := ia1.1; have := ia1.2; omega
  have hB : bn.natAbs < 9223372036854775808 := by have := ib1.1; have := ib1.2; omega
  have hC : ad.natAbs < 9223372036854775808 := by have := ia2.1; have := ia2.2; omega
  have hD : bd.natAbs < 9223372036854775808 := by have := ib2.1; have := ib2.2; omega
  have hC0 : 0 < ad.natAbs := by omega
  have hD0 : 0 < bd.natAbs := by omega
  have hCi : ((ad.natAbs : Nat) : Int) = ad := by omega
  have hDi : ((bd.natAbs : Nat) : Int) = bd := by omega
  obtain ⟨A, hAe⟩ : ∃ A, A = an.natAbs := ⟨_, rfl⟩
  obtain ⟨B, hBe⟩ : ∃ B, B = bn.natAbs := ⟨_, rfl⟩
  obtain ⟨C, hCe⟩ : ∃ C, C = ad.natAbs := ⟨_, rfl⟩
  obtain ⟨D, hDe⟩ : ∃ D, D = bd.natAbs := ⟨_, rfl⟩
  rw [← hAe] at hA a3; rw [← hBe] at hB b3; rw [← hCe] at hC hC0 a3 w1 hCi; rw [← hDe] at hD hD0 b3 w2' hDi
  have HSA := Lib.hid (fun U => rsize_calls an ia1 U)
  have HSB := Lib.hid (fun U => rsize_calls bn ib1 U)
  rw [← hAe] at HSA; rw [← hBe] at HSB
  have HG := Lib.hid (fun U => rgcd_calls C D (by omega) (by omega) U)
  obtain ⟨g, hg⟩ : ∃ g, g = Nat.gcd C D := ⟨_, rfl⟩
  rw [← hg] at HG
  have hg0 : 0 < g := hg ▸ Nat.gcd_pos_of_pos_left D hC0
  have hgC : g ≤ C := hg ▸ Nat.gcd_le_left D hC0
  obtain ⟨p, hp⟩ : ∃ p, p = D / g := ⟨_, rfl⟩
  obtain ⟨r, hr⟩ : ∃ r, r = C / g := ⟨_, rfl⟩
  have hpD : p ≤ D := hp ▸ Nat.div_le_self D g
  have hrC : r ≤ C := hr ▸ Nat.div_le_self C g
  have hgp : g * p = D := by rw [hp]; exact Nat.mul_div_cancel' (hg ▸ Nat.gcd_dvd_right C D)
  have hgr : g * r = C := by rw [hr]; exact Nat.mul_div_cancel' (hg ▸ Nat.gcd_dvd_left C D)
  have q1 := quoN hp
  have q2 := quoN hr
  have q3 := wrapN p (by omega)
  have q4 := wrapN r (by omega)
  have hgn : ¬ ((g : Int) = 0) := by omega
  have hgb : ((g : Int) == 0) = false := by simpa using hgn
  have HTA := Lib.hid (fun U => ctimes A p (by omega) (by omega) U)
  have HTB := Lib.hid (fun U => ctimes B r (by omega) (by omega) U)
  obtain ⟨x, hx⟩ : ∃ x, x = A * p := ⟨_, rfl⟩
  obtain ⟨y, hy⟩ : ∃ y, y = B * r := ⟨_, rfl⟩
  rw [← hx] at HTA; rw [← hy] at HTB
  have hxl : x ≤ 9223372036854775807 * 9223372036854775807 := by rw [hx]; exact Nat.mul_le_mul (by omega) (by omega)
  have hyl : y ≤ 9223372036854775807 * 9223372036854775807 := by rw [hy]; exact Nat.mul_le_mul (by omega) (by omega)
  have hgx : g * x = A * D := by rw [hx, Nat.mul_left_comm, hgp]
  have hgy : g * y = B * C := by rw [hy, Nat.mul_left_comm, hgr]
  have HP1 := Lib.hid (fun h => addT_same hAe hBe hCi hDi hgx hgy h)
  have HP2 := Lib.hid (fun h hl => addT_less hAe hBe hCi hDi hgx hgy h hl)
  have HP3 := Lib.hid (fun h hl => addT_ge hAe hBe hCi hDi hgx hgy h hl)
  have HPE := Lib.hid (fun t below h => addR_code (t := t) (below := below) hAe hBe hCe hDe a1 b1 a3 b3 hg hp hr hx hy h)
  have HPLUS := Lib.hid (fun U => cplus x y (by omega) U)
  have HLESS := Lib.hid (fun U => cless x y U)
  have HMYX := Lib.hid (fun h U => cminus y x h (by omega) U)
  have HMXY := Lib.hid (fun h U => cminus x y h (by omega) U)
  have HXY := Lib.hid (show x + y < 340282366920938463463374607431768211456 by omega)
  clear hAe hBe hCe hDe hg hp hr hx hy hgx hgy hgp hgr hCi hDi hxl hyl
  have HF0 := fun o1 o2 o3 => Lib.hid ((((Fr.refl (fun _ => False) w).alloc o1).alloc o2).alloc o3)
  have HB0 := fun o2 o3 => Lib.hid (blk_alloc (blk_alloc (heap_alloc_new w (.cells (rtc an ad) 27)) o2) o3)
  have HB1 := fun o3 => Lib.hid (blk_alloc (heap_an (w := w.alloc (.cells (rtc an ad) 27)) (k := w.heap.size + 1) (.cells (rtc bn bd) 27) (by simp)) o3)
  have HB2 := Lib.hid (heap_an (w := (w.alloc (.cells (rtc an ad) 27)).alloc (.cells (rtc bn bd) 27)) (k := w.heap.size + 1 + 1) (.cells (rtc 0 0) 27) (by simp))
  go_enter Try.func68, Try.ntmps68
  go_upto_region 2 with (first | (go_at_call 74; refine (HG.out _).mono ?_; rintro _ w2 ⟨rfl, hf2⟩) | fail)
  have hbA := hf2.blk (HB0 (.cells (rtc bn bd) 27) (.cells (rtc 0 0) 27)).out (fun h => h)
  have hbB := hf2.blk (HB1 (.cells (rtc 0 0) 27)).out (fun h => h)
  have HBR := Lib.hid (hf2.blk HB2.out (fun h => h))
  have HFW := Lib.hid ((HF0 (.cells (rtc an ad) 27) (.cells (rtc bn bd) 27) (.cells (rtc 0 0) 27)).out.trans hf2)
  have HCA := Lib.hid (two_facts hbA)
  have HCB := Lib.hid (two_facts hbB)
  have HLW := Lib.hid (show w.heap.size + 1 + 1 < w2.heap.size from lt_of_block HBR.out)
  clear hf2 hbA hbB HB0 HB1 HB2 HF0
  go_cut [6, 7] from 21 to 38 (fun s6 s7 wx => ∃ p6 p7 : Nat, s6 = .pointer (some ⟨p6, 0, none⟩) ∧ s7 = .pointer (some ⟨p7, 0, none⟩) ∧ p6 ≠ p7 ∧ w2.heap.size ≤ p6 ∧ w2.heap.size ≤ p7 ∧ Hid (wx.heap[p6]? = some (.cells (wdC x) 117 (0, 0))) ∧ Hid (wx.heap[p7]? = some (.cells (wdC y) 117 (0, 0))) ∧ Hid (Fr0 w2 wx))
  case first =>
    refine wp_region_noPanic ?_
    refine takesG_ex 18 (fun U => Fr0 w2 U) (fun _ _ h k => h.trans k) (Fr.refl _ _) hmx (fun _ _ _ _ _ h => h) (by kernel_rfl) (by kernel_rfl) ?_
    apply Exists.intro
    refine ⟨fun W' hW' => ?_, ?_⟩
    · have r0 := cg_cell (W := W') (hW'.cell HCA.out.1 (fun h => h))
      have r1 := cg_cell (W := W') (hW'.cell HCA.out.2.1 (fun h => h))
      have r2 := cg_cell (W := W') (hW'.cell HCB.out.1 (fun h => h))
      have r3 := cg_cell (W := W') (hW'.cell HCB.out.2.1 (fun h => h))
      simp only [List.take_succ_cons, List.take_zero]
      repeat (first
        | go_big_quiet_step (fail)
        | go_big_quiet_step (first
          | (go_at_call 73; with_reducible exact quiet_cg ((HSA.out _).mono fun e w' h => ⟨h.1, h.2 ▸ Fr.refl _ _⟩))
          | (go_at_call 73; with_reducible exact quiet_cg ((HSB.out _).mono fun e w' h => ⟨h.1, h.2 ▸ Fr.refl _ _⟩))
          | (go_at_call 85; with_reducible exact quiet_cg (HTA.out _))
          | (go_at_call 85; with_reducible exact quiet_cg (HTB.out _))))
      exact wpQuiet_nil rfl
    · have hF0 := Fr.refl (fun _ => False) w2
      change wpAnyG _ _ _ _ _ 4 _ _ _
      refine wpAnyG_ready (f := 3) (rs := [18, 19]) (by kernel_rfl) (by simp) ?_
      refine AllG.cons rfl (fun U3 hU3 K hK => ?_) (AllG.cons rfl (fun U3 hU3 K hK => ?_) (AllG.nil))
      · have hF3 := hF0.trans hU3
        go_simp
        generalize hp6 : U3.heap.size = p6
        have hsz6 : w2.heap.size ≤ p6 := hp6 ▸ hF3.size
        have hb6_n3 := heap_an (w := U3) (k := p6) (.cells #[u64v 0, u64v 0] 117) hp6
        have hFn3 := hF3.alloc (.cells #[u64v 0, u64v 0] 117)
        refine hK.out _ _ ⟨_, hFn3, Fr.refl _ _, ?_⟩
        clear hK K
        try simp only [Act.put, List.setIfInBounds_toArray, List.set_cons_zero, List.set_cons_succ]
        refine wpAnyG_ready (f := 2) (rs := [19]) (by kernel_rfl) (by simp) ?_
        refine AllG.cons rfl (fun U4 hU4 K hK => ?_) (AllG.nil)
        · have hF4 := hFn3.trans hU4
          have hb6_4 := hU4.blk hb6_n3 (fun h => h)
          go_simp
          generalize hp7 : U4.heap.size = p7
          have hsz7 : w2.heap.size ≤ p7 := hp7 ▸ hF4.size
          have hne67 : p6 ≠ p7 := by have := lt_of_block hb6_4; omega
          have hne76 : p7 ≠ p6 := fun h => hne67 h.symm
          have hb7_n4 := heap_an (w := U4) (k := p7) (.cells #[u64v 0, u64v 0] 117) hp7
          have hb6_n4 := blk_alloc hb6_4 (.cells #[u64v 0, u64v 0] 117)
          have hFn4 := hF4.alloc (.cells #[u64v 0, u64v 0] 117)
          refine hK.out _ _ ⟨_, hFn4, Fr.refl _ _, ?_⟩
          clear hK K
          try simp only [Act.put, List.setIfInBounds_toArray, List.set_cons_zero, List.set_cons_succ]
          refine wpAnyG_ready (f := 1) (rs := [20]) (by kernel_rfl) (by simp) ?_
          refine AllG.cons rfl (fun U5 hU5 K hK => ?_) (AllG.nil)
          · have hF5 := hFn4.trans hU5
            have hb6_5 := hU5.blk hb6_n4 (fun h => h)
            have hb7_5 := hU5.blk hb7_n4 (fun h => h)
            obtain ⟨c0, c1, f0, f1⟩ := two_facts hb6_5
            go_simp
            have hb6_n5 := two_set hb6_5 (u64v (hiw x)) (u64v (low x))
            have hb7_n5 := blk_setCell_other (blk_setCell_other hb7_5 (p := ⟨p6, 0, none⟩) hne67 (u64v (hiw x))) (p := ⟨p6, 1, none⟩) hne67 (u64v (low x))
            have hFn5 := two_fr (b := p6) hF5 (by omega) (u64v (hiw x)) (u64v (low x))
            clear c0 c1 f0 f1
            refine hK.out _ _ ⟨_, hFn5, Fr.refl _ _, ?_⟩
            clear hK K
            try simp only [Act.put, List.setIfInBounds_toArray, List.set_cons_zero, List.set_cons_succ]
            refine wpAnyG_ready (f := 0) (rs := [21]) (by kernel_rfl) (by simp) ?_
            refine AllG.cons rfl (fun U6 hU6 K hK => ?_) (AllG.nil)
            · have hF6 := hFn5.trans hU6
              have hb6_6 := hU6.blk hb6_n5 (fun h => h)
              have hb7_6 := hU6.blk hb7_n5 (fun h => h)
              obtain ⟨c0, c1, f0, f1⟩ := two_facts hb7_6
              go_simp
              have hb7_n6 := two_set hb7_6 (u64v (hiw y)) (u64v (low y))
              have hb6_n6 := blk_setCell_other (blk_setCell_other hb6_6 (p := ⟨p7, 0, none⟩) hne76 (u64v (hiw y))) (p := ⟨p7, 1, none⟩) hne76 (u64v (low y))
              have hFn6 := two_fr (b := p7) hF6 (by omega) (u64v (hiw y)) (u64v (low y))
              clear c0 c1 f0 f1
              refine hK.out _ _ ⟨_, hFn6, Fr.refl _ _, ?_⟩
              clear hK K
              try simp only [Act.put, List.setIfInBounds_toArray, List.set_cons_zero, List.set_cons_succ]
              refine wpAnyG_done (by kernel_rfl) (fun U7 hU7 => ?_)
              have hx := hU7.blk hb6_n6 (fun h => h)
              have hy := hU7.blk hb7_n6 (fun h => h)
              have hF := hFn6.trans hU7
              refine NoPanic.normal ?_
              go_wp2_with fail
              go_meet
              exact ⟨p6, p7, rfl, rfl, hne67, hsz6, hsz7, hx, hy, hF⟩
      · have hF3 := hF0.trans hU3
        go_simp
        generalize hp7 : U3.heap.size = p7
        have hsz7 : w2.heap.size ≤ p7 := hp7 ▸ hF3.size
        have hb7_n3 := heap_an (w := U3) (k := p7) (.cells #[u64v 0, u64v 0] 117) hp7
        have hFn3 := hF3.alloc (.cells #[u64v 0, u64v 0] 117)
        refine hK.out _ _ ⟨_, hFn3, Fr.refl _ _, ?_⟩
        clear hK K
        try simp only [Act.put, List.setIfInBounds_toArray, List.set_cons_zero, List.set_cons_succ]
        refine wpAnyG_ready (f := 2) (rs := [18]) (by kernel_rfl) (by simp) ?_
        refine AllG.cons rfl (fun U4 hU4 K hK => ?_) (AllG.nil)
        · have hF4 := hFn3.trans hU4
          have hb7_4 := hU4.blk hb7_n3 (fun h => h)
          go_simp
          generalize hp6 : U4.heap.size = p6
          have hsz6 : w2.heap.size ≤ p6 := hp6 ▸ hF4.size
          have hne76 : p7 ≠ p6 := by have := lt_of_block hb7_4; omega
          have hne67 : p6 ≠ p7 := fun h => hne76 h.symm
          have hb6_n4 := heap_an (w := U4) (k := p6) (.cells #[u64v 0, u64v 0] 117) hp6
          have hb7_n4 := blk_alloc hb7_4 (.cells #[u64v 0, u64v 0] 117)
          have hFn4 := hF4.alloc (.cells #[u64v 0, u64v 0] 117)
          refine hK.out _ _ ⟨_, hFn4, Fr.refl _ _, ?_⟩
          clear hK K
          try simp only [Act.put, List.setIfInBounds_toArray, List.set_cons_zero, List.set_cons_succ]
          refine wpAnyG_ready (f := 1) (rs := [20]) (by kernel_rfl) (by simp) ?_
          refine AllG.cons rfl (fun U5 hU5 K hK => ?_) (AllG.nil)
          · have hF5 := hFn4.trans hU5
            have hb7_5 := hU5.blk hb7_n4 (fun h => h)
            have hb6_5 := hU5.blk hb6_n4 (fun h => h)
            obtain ⟨c0, c1, f0, f1⟩ := two_facts hb6_5
            go_simp
            have hb6_n5 := two_set hb6_5 (u64v (hiw x)) (u64v (low x))
            have hb7_n5 := blk_setCell_other (blk_setCell_other hb7_5 (p := ⟨p6, 0, none⟩) hne67 (u64v (hiw x))) (p := ⟨p6, 1, none⟩) hne67 (u64v (low x))
            have hFn5 := two_fr (b := p6) hF5 (by omega) (u64v (hiw x)) (u64v (low x))
            clear c0 c1 f0 f1
            refine hK.out _ _ ⟨_, hFn5, Fr.refl _ _, ?_⟩
            clear hK K
            try simp only [Act.put, List.setIfInBounds_toArray, List.set_cons_zero, List.set_cons_succ]
            refine wpAnyG_ready (f := 0) (rs := [21]) (by kernel_rfl) (by simp) ?_
            refine AllG.cons rfl (fun U6 hU6 K hK => ?_) (AllG.nil)
            · have hF6 := hFn5.trans hU6
              have hb7_6 := hU6.blk hb7_n5 (fun h => h)
              have hb6_6 := hU6.blk hb6_n5 (fun h => h)
              obtain ⟨c0, c1, f0, f1⟩ := two_facts hb7_6
              go_simp
              have hb7_n6 := two_set hb7_6 (u64v (hiw y)) (u64v (low y))
              have hb6_n6 := blk_setCell_other (blk_setCell_other hb6_6 (p := ⟨p7, 0, none⟩) hne76 (u64v (hiw y))) (p := ⟨p7, 1, none⟩) hne76 (u64v (low y))
              have hFn6 := two_fr (b := p7) hF6 (by omega) (u64v (hiw y)) (u64v (low y))
              clear c0 c1 f0 f1
              refine hK.out _ _ ⟨_, hFn6, Fr.refl _ _, ?_⟩
              clear hK K
              try simp only [Act.put, List.setIfInBounds_toArray, List.set_cons_zero, List.set_cons_succ]
              refine wpAnyG_done (by kernel_rfl) (fun U7 hU7 => ?_)
              have hx := hU7.blk hb6_n6 (fun h => h)
              have hy := hU7.blk hb7_n6 (fun h => h)
              have hF := hFn6.trans hU7
              refine NoPanic.normal ?_
              go_wp2_with fail
              go_meet
              exact ⟨p6, p7, rfl, rfl, hne67, hsz6, hsz7, hx, hy, hF⟩
  case rest =>
    obtain ⟨p6, p7, rfl, rfl, h67, hs6, hs7, HX, HY, HF3⟩ := hcut
    obtain ⟨w3, hw3⟩ : ∃ w3, w3 = wc := ⟨_, rfl⟩
    subst hw3
    have HCA3 := Lib.hid (show w3.cell? ⟨w.heap.size, 0, none⟩ = some (.int .i64 an) ∧ w3.cell? ⟨w.heap.size, 1, none⟩ = some (.int .i64 ad) from ⟨HF3.out.cell HCA.out.1 (fun h => h), HF3.out.cell HCA.out.2.1 (fun h => h)⟩)
    have HCB3 := Lib.hid (show w3.cell? ⟨w.heap.size + 1, 0, none⟩ = some (.int .i64 bn) ∧ w3.cell? ⟨w.heap.size + 1, 1, none⟩ = some (.int .i64 bd) from ⟨HF3.out.cell HCB.out.1 (fun h => h), HF3.out.cell HCB.out.2.1 (fun h => h)⟩)
    have HBR3 := Lib.hid (HF3.out.blk HBR.out (fun h => h))
    have HFW3 := Lib.hid (HFW.out.trans HF3.out)
    have HL3 := Lib.hid (show w.heap.size + 1 + 1 < p6 ∧ w.heap.size + 1 + 1 < p7 ∧ p6 < w3.heap.size ∧ p7 < w3.heap.size from ⟨Nat.lt_of_lt_of_le HLW.out hs6, Nat.lt_of_lt_of_le HLW.out hs7, lt_of_block HX.out, lt_of_block HY.out⟩)
    clear HCA HCB HBR HFW HF3 HLW hs6 hs7
    go_upto_region 3 with fail
    go_cut [8, 9] from 39 to 44 (fun s8 s9 wx => ∃ p8 : Nat, s8 = .pointer (some ⟨p8, 0, none⟩) ∧ s9 = .bool (decide (an < 0)) ∧ w3.heap.size ≤ p8 ∧ Hid (wx.heap[p8]? = some (.cells (wdC (x + y)) 117 (0, 0))) ∧ Hid (Fr0 w3 wx))
    case first =>
      refine wp_region_noPanic ?_
      refine takesG_ex 6 (fun U => Fr0 w3 U) (fun _ _ h k => h.trans k) (Fr.refl _ _) hmx (fun _ _ _ _ _ h => h) (by kernel_rfl) (by kernel_rfl) ?_
      apply Exists.intro
      refine ⟨fun W' hW' => ?_, ?_⟩
      · have r0 := cg_cell (W := W') (hW'.cell HCA3.out.1 (fun h => h))
        have r1 := cg_cell (W := W') (hW'.cell (two_facts HX.out).1 (fun h => h))
        have r2 := cg_cell (W := W') (hW'.cell (two_facts HX.out).2.1 (fun h => h))
        have r3 := cg_cell (W := W') (hW'.cell (two_facts HY.out).1 (fun h => h))
        have r4 := cg_cell (W := W') (hW'.cell (two_facts HY.out).2.1 (fun h => h))
        simp only [List.take_succ_cons, List.take_zero]
        repeat (first
          | go_big_quiet_step (fail)
          | go_big_quiet_step ((go_at_call 86; with_reducible exact quiet_cg (HPLUS.out _))))
        exact wpQuiet_nil rfl
      · have hF0 := Fr.refl (fun _ => False) w3
        change wpAnyG _ _ _ _ _ 3 _ _ _
        refine wpAnyG_ready (f := 2) (rs := [6]) (by kernel_rfl) (by simp) ?_
        refine AllG.cons rfl (fun U3 hU3 K hK => ?_) (AllG.nil)
        · have hF3 := hF0.trans hU3
          go_simp
          generalize hp8 : U3.heap.size = p8
          have hsz8 : w3.heap.size ≤ p8 := hp8 ▸ hF3.size
          have hb8_n3 := heap_an (w := U3) (k := p8) (.cells #[u64v 0, u64v 0] 117) hp8
          have hFn3 := hF3.alloc (.cells #[u64v 0, u64v 0] 117)
          refine hK.out _ _ ⟨_, hFn3, Fr.refl _ _, ?_⟩
          clear hK K
          try simp only [Act.put, List.setIfInBounds_toArray, List.set_cons_zero, List.set_cons_succ]
          refine wpAnyG_ready (f := 1) (rs := [7]) (by kernel_rfl) (by simp) ?_
          refine AllG.cons rfl (fun U4 hU4 K hK => ?_) (AllG.nil)
          · have hF4 := hFn3.trans hU4
            have hb8_4 := hU4.blk hb8_n3 (fun h => h)
            obtain ⟨c0, c1, f0, f1⟩ := two_facts hb8_4
            go_simp
            have hb8_n4 := two_set hb8_4 (u64v (hiw (x + y))) (u64v (low (x + y)))
            have hFn4 := two_fr (b := p8) hF4 (by omega) (u64v (hiw (x + y))) (u64v (low (x + y)))
            clear c0 c1 f0 f1
            refine hK.out _ _ ⟨_, hFn4, Fr.refl _ _, ?_⟩
            clear hK K
            try simp only [Act.put, List.setIfInBounds_toArray, List.set_cons_zero, List.set_cons_succ]
            refine wpAnyG_ready (f := 0) (rs := [8]) (by kernel_rfl) (by simp) ?_
            refine AllG.cons rfl (fun U5 hU5 K hK => ?_) (AllG.nil)
            · have hF5 := hFn4.trans hU5
              have hb8_5 := hU5.blk hb8_n4 (fun h => h)
              go_simp
              have hb8_n5 := hb8_5
              have hFn5 := hF5
              refine hK.out _ _ ⟨_, hFn5, Fr.refl _ _, ?_⟩
              clear hK K
              try simp only [Act.put, List.setIfInBounds_toArray, List.set_cons_zero, List.set_cons_succ]
              refine wpAnyG_done (by kernel_rfl) (fun U6 hU6 => ?_)
              have hx := hU6.blk hb8_n5 (fun h => h)
              have hF := hFn5.trans hU6
              refine NoPanic.normal ?_
              go_wp2_with fail
              go_meet
              exact ⟨p8, rfl, rfl, hsz8, hx, hF⟩
    case rest =>
      obtain ⟨p8, rfl, rfl, hs8, H8, HF4⟩ := hcut
      obtain ⟨w4, hw4⟩ : ∃ w4, w4 = wc := ⟨_, rfl⟩
      subst hw4
      have HCA4 := Lib.hid (show w4.cell? ⟨w.heap.size, 0, none⟩ = some (.int .i64 an) ∧ w4.cell? ⟨w.heap.size, 1, none⟩ = some (.int .i64 ad) from ⟨HF4.out.cell HCA3.out.1 (fun h => h), HF4.out.cell HCA3.out.2 (fun h => h)⟩)
      have HCB4 := Lib.hid (show w4.cell? ⟨w.heap.size + 1, 0, none⟩ = some (.int .i64 bn) ∧ w4.cell? ⟨w.heap.size + 1, 1, none⟩ = some (.int .i64 bd) from ⟨HF4.out.cell HCB3.out.1 (fun h => h), HF4.out.cell HCB3.out.2 (fun h => h)⟩)
      have HBR4 := Lib.hid (HF4.out.blk HBR3.out (fun h => h))
      have HFW4 := Lib.hid (HFW3.out.trans HF4.out)
      have HX4 := Lib.hid (HF4.out.blk HX.out (fun h => h))
      have HY4 := Lib.hid (HF4.out.blk HY.out (fun h => h))
      have h86 : p8 ≠ p6 := by have := HL3.out; omega
      have h87 : p8 ≠ p7 := by have := HL3.out; omega
      have hw8 : w.heap.size ≠ p8 ∧ w.heap.size + 1 ≠ p8 ∧ w.heap.size + 1 + 1 < p8 := by have := HL3.out; omega
      clear HCA3 HCB3 HBR3 HFW3 HF4 HX HY HL3 hs8
      have HW8 := Lib.hid hw8
      clear hw8
      go_upto_block 0 with fail
      go_cut [9] from 45 to 65 (fun s9 wx => ∃ (t : Nat) (below : Bool), s9 = .bool below ∧ Hid (AddT an ad bn bd g x y t below) ∧ Hid (wx.heap[p8]? = some (.cells (wdC t) 117 (0, 0))) ∧ Hid (Fr (fun k => k = p8) w4 wx))
      case first =>
        have ca0 := HCA4.out.1
        have cb0 := HCB4.out.1
        obtain ⟨x0, x1, _, _⟩ := two_facts HX4.out
        obtain ⟨y0, y1, _, _⟩ := two_facts HY4.out
        rcases Bool.eq_false_or_eq_true (decide (an < 0)) with ea | ea <;> rcases Bool.eq_false_or_eq_true (decide (bn < 0)) with eb | eb
        · have hadd := HP1.out (ea.trans eb.symm)
          rw [ea] at hadd
          have HADD := Lib.hid hadd
          clear hadd
          go_wp2_with fail
          go_meet
          exact ⟨x + y, true, by first | rfl | exact congrArg Value.bool ea, HADD, H8, Fr.refl _ _⟩
        · have hne : decide (an < 0) = !decide (bn < 0) := by rw [ea, eb]; rfl
          by_cases hl : x < y
          · have hadd := HP2.out hne hl
            rw [eb] at hadd
            have HADD := Lib.hid hadd
            have HM := Lib.hid (HMYX.out (Nat.le_of_lt hl))
            rw [decide_eq_true hl] at HLESS
            clear hadd hne hl
            go_upto_region 7 with (first | (go_at_call 87; refine (HLESS.out _).mono ?_; rintro _ w5 ⟨rfl, hf5⟩) | fail)
            refine wp_region_noPanic ?_
            refine takesG_ex 6 (fun U => Fr (fun k => k = p8) w5 U) (fun _ _ h k => h.trans (Fr0.any k)) (Fr.refl _ _) hmx (fun _ _ _ _ _ h => h) (by kernel_rfl) (by kernel_rfl) ?_
            apply Exists.intro
            refine ⟨fun W' hW' => ?_, ?_⟩
            · have r0 := cg_cell (W := W') (hW'.cell (hf5.cell cb0 (fun h => h)) HW8.out.2.1)
              have r1 := cg_cell (W := W') (hW'.cell (hf5.cell x0 (fun h => h)) h86.symm)
              have r2 := cg_cell (W := W') (hW'.cell (hf5.cell x1 (fun h => h)) h86.symm)
              have r3 := cg_cell (W := W') (hW'.cell (hf5.cell y0 (fun h => h)) h87.symm)
              have r4 := cg_cell (W := W') (hW'.cell (hf5.cell y1 (fun h => h)) h87.symm)
              simp only [List.take_succ_cons, List.take_zero]
              repeat (first
                | go_big_quiet_step (fail)
                | go_big_quiet_step ((go_at_call 88; with_reducible exact quiet_cg (HM.out _))))
              exact wpQuiet_nil rfl
            · change wpAnyG _ _ _ _ _ 2 _ _ _
              refine wpAnyG_ready (f := 1) (rs := [6]) (by kernel_rfl) (by simp) ?_
              refine AllG.cons rfl (fun U hU K hK => ?_) AllG.nil
              have hb8 := (hf5.trans hU).blk H8.out (fun h => h)
              obtain ⟨c0, c1, f0, f1⟩ := two_facts hb8
              go_simp
              have hb8' := two_set hb8 (u64v (hiw (y - x))) (u64v (low (y - x)))
              have hF' : Fr (fun k => k = p8) w5 ((U.setCell ⟨p8, 0, none⟩ (u64v (hiw (y - x)))).setCell ⟨p8, 1, none⟩ (u64v (low (y - x)))) := two_frS (S := fun k => k = p8) (b := p8) (Fr0.any hU) rfl _ _
              refine hK.out _ _ ⟨_, hF', Fr.refl _ _, ?_⟩
              clear hK K c0 c1 f0 f1
              try simp only [Act.put, List.setIfInBounds_toArray, List.set_cons_zero, List.set_cons_succ]
              refine wpAnyG_ready (f := 0) (rs := [7]) (by kernel_rfl) (by simp) ?_
              refine AllG.cons rfl (fun U2 hU2 K hK => ?_) AllG.nil
              go_simp
              refine hK.out _ _ ⟨_, hF'.trans (Fr0.any hU2), Fr.refl _ _, ?_⟩
              clear hK K
              try simp only [Act.put, List.setIfInBounds_toArray, List.set_cons_zero, List.set_cons_succ]
              refine wpAnyG_done (by kernel_rfl) (fun U3 hU3 => ?_)
              have hx := (hU2.trans hU3).blk hb8' (fun h => h)
              have hF := (Fr0.any hf5 : Fr (fun k => k = p8) w4 w5).trans (hF'.trans ((Fr0.any hU2).trans (Fr0.any hU3)))
              refine NoPanic.normal ?_
              go_wp2_with fail
              go_meet
              exact ⟨y - x, false, rfl, HADD, hx, hF⟩
          · have hadd := HP3.out hne hl
            rw [ea] at hadd
            have HADD := Lib.hid hadd
            have HM := Lib.hid (HMXY.out (Nat.le_of_not_lt hl))
            rw [decide_eq_false hl] at HLESS
            clear hadd hne hl
            go_wp2_with (first
              | (go_at_call 87; refine (HLESS.out _).mono ?_; rintro _ w5 ⟨rfl, hf5⟩; have xx0 := hf5.cell x0 (fun h => h); have xx1 := hf5.cell x1 (fun h => h); have yy0 := hf5.cell y0 (fun h => h); have yy1 := hf5.cell y1 (fun h => h))
              | (go_at_call 88; refine (HM.out _).mono ?_; rintro _ w6 ⟨rfl, hf6⟩; have hb8 := (hf5.trans hf6).blk H8.out (fun h => h); obtain ⟨c0, c1, f0, f1⟩ := two_facts hb8)
              | fail)
            have hx := two_set hb8 (u64v (hiw (x - y))) (u64v (low (x - y)))
            have hF : Fr (fun k => k = p8) w4 ((w6.setCell ⟨p8, 0, none⟩ (u64v (hiw (x - y)))).setCell ⟨p8, 1, none⟩ (u64v (low (x - y)))) := two_frS (S := fun k => k = p8) (b := p8) (Fr0.any (hf5.trans hf6)) rfl _ _
            go_meet
            exact ⟨x - y, true, rfl, HADD, hx, hF⟩
        · have hne : decide (an < 0) = !decide (bn < 0) := by rw [ea, eb]; rfl
          by_cases hl : x < y
          · have hadd := HP2.out hne hl
            rw [eb] at hadd
            have HADD := Lib.hid hadd
            have HM := Lib.hid (HMYX.out (Nat.le_of_lt hl))
            rw [decide_eq_true hl] at HLESS
            clear hadd hne hl
            go_upto_region 7 with (first | (go_at_call 87; refine (HLESS.out _).mono ?_; rintro _ w5 ⟨rfl, hf5⟩) | fail)
            refine wp_region_noPanic ?_
            refine takesG_ex 6 (fun U => Fr (fun k => k = p8) w5 U) (fun _ _ h k => h.trans (Fr0.any k)) (Fr.refl _ _) hmx (fun _ _ _ _ _ h => h) (by kernel_rfl) (by kernel_rfl) ?_
            apply Exists.intro
            refine ⟨fun W' hW' => ?_, ?_⟩
            · have r0 := cg_cell (W := W') (hW'.cell (hf5.cell cb0 (fun h => h)) HW8.out.2.1)
              have r1 := cg_cell (W := W') (hW'.cell (hf5.cell x0 (fun h => h)) h86.symm)
              have r2 := cg_cell (W := W') (hW'.cell (hf5.cell x1 (fun h => h)) h86.symm)
              have r3 := cg_cell (W := W') (hW'.cell (hf5.cell y0 (fun h => h)) h87.symm)
              have r4 := cg_cell (W := W') (hW'.cell (hf5.cell y1 (fun h => h)) h87.symm)
              simp only [List.take_succ_cons, List.take_zero]
              repeat (first
                | go_big_quiet_step (fail)
                | go_big_quiet_step ((go_at_call 88; with_reducible exact quiet_cg (HM.out _))))
              exact wpQuiet_nil rfl
            · change wpAnyG _ _ _ _ _ 2 _ _ _
              refine wpAnyG_ready (f := 1) (rs := [6]) (by kernel_rfl) (by simp) ?_
              refine AllG.cons rfl (fun U hU K hK => ?_) AllG.nil
              have hb8 := (hf5.trans hU).blk H8.out (fun h => h)
              obtain ⟨c0, c1, f0, f1⟩ := two_facts hb8
              go_simp
              have hb8' := two_set hb8 (u64v (hiw (y - x))) (u64v (low (y - x)))
              have hF' : Fr (fun k => k = p8) w5 ((U.setCell ⟨p8, 0, none⟩ (u64v (hiw (y - x)))).setCell ⟨p8, 1, none⟩ (u64v (low (y - x)))) := two_frS (S := fun k => k = p8) (b := p8) (Fr0.any hU) rfl _ _
              refine hK.out _ _ ⟨_, hF', Fr.refl _ _, ?_⟩
              clear hK K c0 c1 f0 f1
              try simp only [Act.put, List.setIfInBounds_toArray, List.set_cons_zero, List.set_cons_succ]
              refine wpAnyG_ready (f := 0) (rs := [7]) (by kernel_rfl) (by simp) ?_
              refine AllG.cons rfl (fun U2 hU2 K hK => ?_) AllG.nil
              go_simp
              refine hK.out _ _ ⟨_, hF'.trans (Fr0.any hU2), Fr.refl _ _, ?_⟩
              clear hK K
              try simp only [Act.put, List.setIfInBounds_toArray, List.set_cons_zero, List.set_cons_succ]
              refine wpAnyG_done (by kernel_rfl) (fun U3 hU3 => ?_)
              have hx := (hU2.trans hU3).blk hb8' (fun h => h)
              have hF := (Fr0.any hf5 : Fr (fun k => k = p8) w4 w5).trans (hF'.trans ((Fr0.any hU2).trans (Fr0.any hU3)))
              refine NoPanic.normal ?_
              go_wp2_with fail
              go_meet
              exact ⟨y - x, true, rfl, HADD, hx, hF⟩
          · have hadd := HP3.out hne hl
            rw [ea] at hadd
            have HADD := Lib.hid hadd
            have HM := Lib.hid (HMXY.out (Nat.le_of_not_lt hl))
            rw [decide_eq_false hl] at HLESS
            clear hadd hne hl
            go_wp2_with (first
              | (go_at_call 87; refine (HLESS.out _).mono ?_; rintro _ w5 ⟨rfl, hf5⟩; have xx0 := hf5.cell x0 (fun h => h); have xx1 := hf5.cell x1 (fun h => h); have yy0 := hf5.cell y0 (fun h => h); have yy1 := hf5.cell y1 (fun h => h))
              | (go_at_call 88; refine (HM.out _).mono ?_; rintro _ w6 ⟨rfl, hf6⟩; have hb8 := (hf5.trans hf6).blk H8.out (fun h => h); obtain ⟨c0, c1, f0, f1⟩ := two_facts hb8)
              | fail)
            have hx := two_set hb8 (u64v (hiw (x - y))) (u64v (low (x - y)))
            have hF : Fr (fun k => k = p8) w4 ((w6.setCell ⟨p8, 0, none⟩ (u64v (hiw (x - y)))).setCell ⟨p8, 1, none⟩ (u64v (low (x - y)))) := two_frS (S := fun k => k = p8) (b := p8) (Fr0.any (hf5.trans hf6)) rfl _ _
            go_meet
            exact ⟨x - y, false, rfl, HADD, hx, hF⟩
        · have hadd := HP1.out (ea.trans eb.symm)
          rw [ea] at hadd
          have HADD := Lib.hid hadd
          clear hadd
          go_wp2_with fail
          go_meet
          exact ⟨x + y, false, by first | rfl | exact congrArg Value.bool ea, HADD, H8, Fr.refl _ _⟩
      case rest =>
        obtain ⟨t, below, rfl, HT, H8t, HF6⟩ := hcut
        obtain ⟨w6, hw6⟩ : ∃ w6, w6 = wc := ⟨_, rfl⟩
        subst hw6
        have HCA6 := Lib.hid (HF6.out.cell HCA4.out.2 (show ¬ (w.heap.size = p8) from HW8.out.1))
        have HCB6 := Lib.hid (HF6.out.cell HCB4.out.2 (show ¬ (w.heap.size + 1 = p8) from HW8.out.2.1))
        have HBR6 := Lib.hid (HF6.out.blk HBR4.out (show ¬ (w.heap.size + 1 + 1 = p8) by have := HW8.out.2.2; omega))
        have HFW6 := Lib.hid (HFW4.out.then HF6.out (fun i hi e => by have := HW8.out.2.2; omega))
        have HEQ := Lib.hid (HPE.out t below HT.out)
        have htl : t < 340282366920938463463374607431768211456 := by have := HT.out.2.1; have := HXY.out; omega
        have HLEFT := Lib.hid (fun U => cleft t g hg0 htl (by omega) U)
        have hgl := Nat.mod_lt t hg0
        have HGH := Lib.hid (fun U => rgcd_calls g (t % g) (by omega) (by omega) U)
        have hh0 : 0 < Nat.gcd g (t % g) := Nat.gcd_pos_of_pos_left _ hg0
        have hhg : Nat.gcd g (t % g) ≤ g := Nat.gcd_le_left _ hg0
        generalize Nat.gcd g (t % g) = h at *
        generalize t % g = tg at *
        obtain ⟨q, hq⟩ : ∃ q, q = D / h := ⟨_, rfl⟩
        rw [← hq] at HEQ
        have hqD : q ≤ D := hq ▸ Nat.div_le_self D h
        have u1 := quoN hq
        have u2 := wrapN q (by omega)
        have hhn : ¬ ((h : Int) = 0) := by omega
        have hhb : ((h : Int) == 0) = false := by simpa using hhn
        have HTBT := Lib.hid (fun U => ctimes r q (by omega) (by omega) U)
        generalize hbt : r * q = bt at *
        clear hgl hq HCA4 HCB4 HBR4 HFW4 HF6 HX4 HY4 HP1 HP2 HP3 HPE HPLUS HLESS HMYX HMXY HTA HTB HSA HSB
        obtain ⟨t0, t1, _, _⟩ := two_facts H8t.out
        by_cases hlt : hiw t < h
        · have HBY := Lib.hid (fun U => cby_yes t h hlt (by omega) U)
          have HEQ2 : Hid (rR (rq an ad + rq bn bd) = if hiw bt = 0 ∨ t = 0 then if t = 0 then .ok (0, 1) else toldR (t / h) below (low bt) else .error 110) := by
            have := HEQ.out
            rw [codeAdd, if_pos (show t / 18446744073709551616 < h from hlt)] at this
            exact this
          clear HEQ htl
          generalize t % h = th2 at *
          generalize t / h = top at *
          go_upto_region 10 with (first
            | (go_at_call 89; refine (HLEFT.out _).mono ?_; rintro _ wl ⟨rfl, hfl⟩)
            | (go_at_call 74; refine (HGH.out _).mono ?_; rintro _ wg ⟨rfl, hfg⟩; have tt0 := (hfl.trans hfg).cell t0 (fun h => h); have tt1 := (hfl.trans hfg).cell t1 (fun h => h))
            | (go_at_call 90; refine (HBY.out _).mono ?_; rintro _ w7 ⟨rfl, hf7⟩)
            | fail)
          have hf67 := (hfl.trans hfg).trans hf7
          have HCA7 := Lib.hid (hf67.cell HCA6.out (fun h => h))
          have HCB7 := Lib.hid (hf67.cell HCB6.out (fun h => h))
          have HBR7 := Lib.hid (hf67.blk HBR6.out (fun h => h))
          have HFW7 := Lib.hid (HFW6.out.trans hf67)
          have H8t7 := Lib.hid (hf67.blk H8t.out (fun h => h))
          clear hf67 hfl hfg hf7 tt0 tt1 t0 t1 HCA6 HCB6 HBR6 HFW6 H8t
          go_cut [13] from 77 to 87 (fun s13 wx => ∃ p13 : Nat, s13 = .pointer (some ⟨p13, 0, none⟩) ∧ w7.heap.size ≤ p13 ∧ Hid (wx.heap[p13]? = some (.cells (wdC bt) 117 (0, 0))) ∧ Hid (Fr0 w7 wx))
          case first =>
            refine wp_region_noPanic ?_
            refine takesG_ex 11 (fun U => Fr0 w7 U) (fun _ _ h k => h.trans k) (Fr.refl _ _) hmx (fun _ _ _ _ _ h => h) (by kernel_rfl) (by kernel_rfl) ?_
            apply Exists.intro
            refine ⟨fun W' hW' => ?_, ?_⟩
            · have r0 := cg_cell (W := W') (hW'.cell HCA7.out (fun h => h))
              have r1 := cg_cell (W := W') (hW'.cell HCB7.out (fun h => h))
              simp only [List.take_succ_cons, List.take_zero]
              repeat (first
                | go_big_quiet_step (fail)
                | go_big_quiet_step ((go_at_call 85; with_reducible exact quiet_cg (HTBT.out _))))
              exact wpQuiet_nil rfl
            · have hF0 := Fr.refl (fun _ => False) w7
              change wpAnyG _ _ _ _ _ 2 _ _ _
              refine wpAnyG_ready (f := 1) (rs := [11]) (by kernel_rfl) (by simp) ?_
              refine AllG.cons rfl (fun U3 hU3 K hK => ?_) (AllG.nil)
              · have hF3 := hF0.trans hU3
                go_simp
                generalize hp13 : U3.heap.size = p13
                have hsz13 : w7.heap.size ≤ p13 := hp13 ▸ hF3.size
                have hb13_n3 := heap_an (w := U3) (k := p13) (.cells #[u64v 0, u64v 0] 117) hp13
                have hFn3 := hF3.alloc (.cells #[u64v 0, u64v 0] 117)
                refine hK.out _ _ ⟨_, hFn3, Fr.refl _ _, ?_⟩
                clear hK K
                try simp only [Act.put, List.setIfInBounds_toArray, List.set_cons_zero, List.set_cons_succ]
                refine wpAnyG_ready (f := 0) (rs := [12]) (by kernel_rfl) (by simp) ?_
                refine AllG.cons rfl (fun U4 hU4 K hK => ?_) (AllG.nil)
                · have hF4 := hFn3.trans hU4
                  have hb13_4 := hU4.blk hb13_n3 (fun h => h)
                  obtain ⟨c0, c1, f0, f1⟩ := two_facts hb13_4
                  go_simp
                  have hb13_n4 := two_set hb13_4 (u64v (hiw bt)) (u64v (low bt))
                  have hFn4 := two_fr (b := p13) hF4 (by omega) (u64v (hiw bt)) (u64v (low bt))
                  clear c0 c1 f0 f1
                  refine hK.out _ _ ⟨_, hFn4, Fr.refl _ _, ?_⟩
                  clear hK K
                  try simp only [Act.put, List.setIfInBounds_toArray, List.set_cons_zero, List.set_cons_succ]
                  refine wpAnyG_done (by kernel_rfl) (fun U5 hU5 => ?_)
                  have hx := hU5.blk hb13_n4 (fun h => h)
                  have hF := hFn4.trans hU5
                  refine NoPanic.normal ?_
                  go_wp2_with fail
                  go_meet
                  exact ⟨p13, rfl, hsz13, hx, hF⟩
          case rest =>
            obtain ⟨p13, rfl, hs13, H13, HF8⟩ := hcut
            obtain ⟨w8, hw8⟩ : ∃ w8, w8 = wc := ⟨_, rfl⟩
            subst hw8
            obtain ⟨v0, v1, _, _⟩ := two_facts (HF8.out.blk H8t7.out (fun h => h))
            obtain ⟨k0, k1, _, _⟩ := two_facts H13.out
            have HF8W := Lib.hid (HFW7.out.trans HF8.out)
            have HBR8 := Lib.hid (HF8.out.blk HBR7.out (fun h => h))
            clear HCA7 HCB7 HBR7 HFW7 HF8 H8t7
            have heq : ∀ U, (Op.equalIn 10000 117 (.agg #[u64v (hiw t), u64v (low t)]) (.agg #[.int .u64 0, .int .u64 0])).run Try.prog U = .ok (decide (t = 0)) U := fun U => by
              rw [eq_wide]
              congr 1
              rw [Bool.eq_iff_iff]
              have := wd_zero t
              simp only [Bool.and_eq_true, beq_iff_eq, decide_eq_true_eq]
              omega
            by_cases z0 : hiw bt = 0
            · have z1 : decide (hiw bt = 0) = true := decide_eq_true z0
              have z2 : (hiw bt == 0) = true := by simpa using z0
              have z3 : (((hiw bt : Nat) : Int) == 0) = true := by simp; omega
              have HM := Lib.hid (fun U => rmust_yes 110 U)
              rw [if_pos (.inl z0)] at HEQ2
              by_cases zt : t = 0
              · rw [if_pos zt] at HEQ2
                rw [decide_eq_true zt] at heq
                clear zt z0
                obtain ⟨e0, e1, f0, f1⟩ := two_facts HBR8.out
                go_wp2_with (first | (go_at_call 71; (with_reducible refine (HM.out _).mono ?_); rintro _ _ ⟨rfl, rfl⟩) | fail)
                exact bodyPost_ret (results_cell_row rfl _ _ (w.heap.size + 1 + 1) _ _ _ _ rfl (two_set HBR8.out (.int .i64 0) (.int .i64 1)) Try.underlying27 rfl (by kernel_rfl)) rfl ⟨by rw [HEQ2.out]; rfl, two_fr HF8W.out (by omega) _ _⟩
              · rw [if_neg zt] at HEQ2
                rw [decide_eq_false zt] at heq
                clear zt z0
                have HTO := Lib.hid (fun U => rtold_calls top below (low bt) U)
                rw [toldE_eq] at HTO
                generalize toldR top below (low bt) = tr at *
                cases tr with
                | ok pr =>
                  obtain ⟨pn, pd⟩ := pr
                  change Hid (∀ U, Calls Try.prog _ _ U fun e w' => e = .returned (rtv pn pd) ∧ Fr0 U w') at HTO
                  go_wp2_with (first | (go_at_call 71; (with_reducible refine (HM.out _).mono ?_); rintro _ _ ⟨rfl, rfl⟩) | (go_at_call 91; refine (HTO.out _).mono ?_; rintro _ w9 ⟨rfl, hf9⟩; obtain ⟨e0, e1, f0, f1⟩ := two_facts (hf9.blk HBR8.out (fun h => h))) | fail)
                  exact bodyPost_ret (results_cell_row rfl _ _ (w.heap.size + 1 + 1) _ _ _ _ rfl (two_set (hf9.blk HBR8.out (fun h => h)) (.int .i64 pn) (.int .i64 pd)) Try.underlying27 rfl (by kernel_rfl)) rfl ⟨by rw [HEQ2.out]; rfl, two_fr (HF8W.out.trans hf9) (by omega) _ _⟩
                | error k =>
                  change Hid (∀ U, Calls Try.prog _ _ U fun e w' => e = .panicked [stopE k] ∧ Fr0 U w') at HTO
                  go_wp2_with (first | (go_at_call 71; (with_reducible refine (HM.out _).mono ?_); rintro _ _ ⟨rfl, rfl⟩) | (go_at_call 91; refine (HTO.out _).mono ?_; rintro _ w9 ⟨rfl, hf9⟩) | fail)
                  exact ⟨rfl, by rw [HEQ2.out]; rfl, HF8W.out.trans hf9⟩
            · have z1 : decide (hiw bt = 0) = false := decide_eq_false z0
              have z2 : (hiw bt == 0) = false := by simpa using z0
              have z3 : (((hiw bt : Nat) : Int) == 0) = false := by simp; omega
              by_cases zt : t = 0
              · have HM := Lib.hid (fun U => rmust_yes 110 U)
                rw [if_pos (.inr zt), if_pos zt] at HEQ2
                rw [decide_eq_true zt] at heq
                clear zt z0
                obtain ⟨e0, e1, f0, f1⟩ := two_facts HBR8.out
                go_wp2_with (first | (go_at_call 71; (with_reducible refine (HM.out _).mono ?_); rintro _ _ ⟨rfl, rfl⟩) | fail)
                exact bodyPost_ret (results_cell_row rfl _ _ (w.heap.size + 1 + 1) _ _ _ _ rfl (two_set HBR8.out (.int .i64 0) (.int .i64 1)) Try.underlying27 rfl (by kernel_rfl)) rfl ⟨by rw [HEQ2.out]; rfl, two_fr HF8W.out (by omega) _ _⟩
              · have HM := Lib.hid (fun U => rmust_no 110 U)
                rw [if_neg (by rintro (h | h); exact z0 h; exact zt h)] at HEQ2
                rw [decide_eq_false zt] at heq
                clear zt z0
                go_wp2_with (first | (go_at_call 71; (with_reducible refine (HM.out _).mono ?_); rintro _ _ ⟨rfl, rfl⟩) | fail)
                exact ⟨rfl, by rw [HEQ2.out]; rfl, HF8W.out⟩
        · have HBY := Lib.hid (fun U => cby_no t h hlt U)
          have HEQ2 : Hid (rR (rq an ad + rq bn bd) = .error 110) := by
            have := HEQ.out
            rw [codeAdd, if_neg (show ¬ t / 18446744073709551616 < h from hlt)] at this
            exact this
          clear HEQ htl
          go_wp2_with (first
            | (go_at_call 89; refine (HLEFT.out _).mono ?_; rintro _ wl ⟨rfl, hfl⟩)
            | (go_at_call 74; refine (HGH.out _).mono ?_; rintro _ wg ⟨rfl, hfg⟩; have tt0 := (hfl.trans hfg).cell t0 (fun h => h); have tt1 := (hfl.trans hfg).cell t1 (fun h => h))
            | (go_at_call 90; refine (HBY.out _).mono ?_; rintro _ w7 ⟨rfl, hf7⟩)
            | fail)
          exact ⟨rfl, by rw [HEQ2.out]; rfl, HFW6.out.trans ((hfl.trans hfg).trans hf7)⟩
end Go.Proofs.Ytjldogfpccbkeaa

/- Chapter 01: multiplied. -/
set_option linter.unusedVariables false
set_option linter.unusedSimpArgs false
namespace Go.Proofs.Ytjldogfpccbkeaa
open Go.RowKit
attribute [local go_sem] Oper.semAt_some

theorem mulR_code {an ad bn bd : Int} {A B C D g h : Nat} (hA : A = an.natAbs) (hB : B = bn.natAbs) (hC : C = ad.natAbs) (hD : D = bd.natAbs) (c1 : 1 ≤ ad) (c2 : 1 ≤ bd) (ga : Nat.gcd A C = 1) (gb : Nat.gcd B D = 1)
    (h1 : an ≠ 0) (h2 : bn ≠ 0) (hg : g = Nat.gcd A D) (hh : h = Nat.gcd B C) :
    rR (rq an ad * rq bn bd) = codeMul (A / g * (B / h)) (C / h * (D / g)) (decide (an < 0) != decide (bn < 0)) := by
  rw [codeMul_eq _ ga gb hg hh (by omega) (by omega) (by omega) (by omega)]
  unfold rq
  rw [Rat.mkRat_mul_mkRat, ← hC, ← hD]
  congr 2
  unfold sgn
  by_cases s1 : an < 0 <;> by_cases s2 : bn < 0
  · have e1 : an = -(A : Int) := by omega
    have e2 : bn = -(B : Int) := by omega
    simp only [s1, s2, decide_true, bne_self_eq_false, Bool.false_eq_true, if_false]
    rw [e1, e2, Int.neg_mul_neg]; simp
  · have e1 : an = -(A : Int) := by omega
    have e2 : bn = (B : Int) := by omega
    simp only [s1, s2, decide_true, decide_false]
    rw [e1, e2, Int.neg_mul]; simp
  · have e1 : an = (A : Int) := by omega
    have e2 : bn = -(B : Int) := by omega
    simp only [s1, s2, decide_true, decide_false]
    rw [e1, e2, Int.mul_neg]; simp
  · have e1 : an = (A : Int) := by omega
    have e2 : bn = (B : Int) := by omega
    simp only [s1, s2, decide_false, bne_self_eq_false, Bool.false_eq_true, if_false]
    rw [e1, e2]; simp
theorem mulR_zero {an ad bn bd : Int} (h : an = 0 ∨ bn = 0) : rR (rq an ad * rq bn bd) = .ok (0, 1) := by
  have : rq an ad * rq bn bd = 0 := by
    unfold rq
    rw [Rat.mkRat_mul_mkRat]
    have : an * bn = 0 := by rcases h with h | h <;> simp [h]
    rw [this, Rat.zero_mkRat]
  rw [this]; rfl
end Go.Proofs.Ytjldogfpccbkeaa

/- Chapter 01: two. -/
set_option linter.unusedVariables false
set_option linter.unusedSimpArgs false
namespace Go.Proofs.Ytjldogfpccbkeaa
open Go.RowKit
attribute [local go_sem] Oper.semAt_some

/-- What two fractions make; none, where one is no fraction. -/
def twoR (a b : Int × Int) (r : Ra) : Ra := if RtOk a.1 a.2 ∧ RtOk b.1 b.2 then r else .error 2
theorem endR_cases (r : Ra) : (∃ p1 p2, endR r = .returned (rtv p1 p2)) ∨ ∃ k, endR r = .panicked [stopE k] := by
  cases r with
  | ok p => exact .inl ⟨p.1, p.2, rfl⟩
  | error k => exact .inr ⟨k, rfl⟩
set_option maxHeartbeats 1000000 in
theorem rtwo1_calls (K : FuncId) (a b : Int × Int) (r : Ra) (ia : I64r a.1 ∧ I64r a.2) (ib : I64r b.1 ∧ I64r b.2) (pa pb pf : Nat) (w : World)
    (ha : w.heap[pa]? = some (.cells (rtc a.1 a.2) 27 (0, 0))) (hb : w.heap[pb]? = some (.cells (rtc b.1 b.2) 27 (0, 0))) (hf : w.cell? ⟨pf, 0, none⟩ = some (clv K #[]))
    (HE : ∀ (args : Array Value) (U : World), (callFunc K args).run Try.prog U = .ok (.enter K args) U)
    (HK : RtOk a.1 a.2 → RtOk b.1 b.2 → ∀ U, Calls Try.prog K #[rtv a.1 a.2, rtv b.1 b.2] U fun e w' => e = endR r ∧ Fr0 U w') :
    Calls Try.prog 83 #[.pointer (some ⟨pa, 0, none⟩), .pointer (some ⟨pb, 0, none⟩), .pointer (some ⟨pf, 0, none⟩)] w fun e w' => e = endR (twoR a b r) ∧ Fr0 w w' := by
  obtain ⟨an, ad⟩ := a
  obtain ⟨bn, bd⟩ := b
  simp only at *
  have HF := Lib.hid (((Fr.refl (fun _ => False) w).alloc (.cells (rtc 0 0) 27)).alloc (.cells #[.int .i64 an, .int .i64 ad, .int .i64 bn, .int .i64 bd] 27))
  have HB := Lib.hid (blk_alloc (heap_alloc_new w (.cells (rtc 0 0) 27)) (.cells #[.int .i64 an, .int .i64 ad, .int .i64 bn, .int .i64 bd] 27))
  have HS := Lib.hid (heap_an (w := w.alloc (.cells (rtc 0 0) 27)) (k := w.heap.size + 1) (.cells #[.int .i64 an, .int .i64 ad, .int .i64 bn, .int .i64 bd] 27) (by simp))
  have HBO := Lib.hid (rboth_calls (some ⟨w.heap.size + 1, 0, none⟩) 2 [(an, ad), (bn, bd)] ((w.alloc (.cells (rtc 0 0) 27)).alloc (.cells #[.int .i64 an, .int .i64 ad, .int .i64 bn, .int .i64 bd] 27))
    (.inr ⟨w.heap.size + 1, 0, rfl, fun h => h, fun i hi => by
      rw [cell_of_blk HS.out]
      have : i < 4 := hi
      match i, this with
      | 0, _ => rfl
      | 1, _ => rfl
      | 2, _ => rfl
      | 3, _ => rfl⟩)
    (fun x hx => by
      rcases List.mem_cons.1 hx with rfl | hx
      · exact ia
      · rw [List.mem_singleton.1 hx]; exact ib) (by simp))
  obtain ⟨ca0, ca1, _, _⟩ := two_facts (((Fr.refl (fun _ => False) w).alloc (.cells (rtc 0 0) 27)).blk ha (fun h => h))
  obtain ⟨cb0, cb1, _, _⟩ := two_facts (((Fr.refl (fun _ => False) w).alloc (.cells (rtc 0 0) 27)).blk hb (fun h => h))
  have HC := Lib.hid (And.intro ha (And.intro hb hf))
  have hall : AllR [(an, ad), (bn, bd)] ↔ RtOk an ad ∧ RtOk bn bd :=
    ⟨fun h => ⟨h (an, ad) (List.mem_cons_self ..), h (bn, bd) (List.mem_cons_of_mem _ (List.mem_cons_self ..))⟩, fun h x hx => by
      rcases List.mem_cons.1 hx with rfl | hx
      · exact h.1
      · rw [List.mem_singleton.1 hx]; exact h.2⟩
  clear ha hb ia ib
  unfold twoR
  unfold bothE at HBO
  by_cases hok : RtOk an ad ∧ RtOk bn bd
  · rw [if_pos hok]
    rw [if_pos (hall.2 hok)] at HBO
    have HK' := Lib.hid (HK hok.1 hok.2)
    clear hok hall HK
    obtain ⟨er, her⟩ : ∃ er, er = endR r := ⟨_, rfl⟩
    rw [← her] at HK' ⊢
    rcases endR_cases r with ⟨p1, p2, h⟩ | ⟨k, h⟩
    · rw [h] at her
      subst her
      clear h
      go_enter Try.func83, Try.ntmps83
      go_wp2_with (first
        | (go_at_call 84; refine HBO.out.mono ?_; rintro _ w5 ⟨rfl, hf5⟩; have hf0 := HF.out.trans hf5; obtain ⟨xa0, xa1, _, _⟩ := two_facts (hf0.blk HC.out.1 (fun h => h)); obtain ⟨xb0, xb1, _, _⟩ := two_facts (hf0.blk HC.out.2.1 (fun h => h)); have xf := hf0.cell HC.out.2.2 (fun h => h))
        | (go_at_fn K; refine (HK'.out _).mono ?_; rintro _ w6 ⟨rfl, hf6⟩; have hb6 := (hf5.trans hf6).blk HB.out (fun h => h); obtain ⟨e0, e1, f0, f1⟩ := two_facts hb6)
        | fail)
      exact bodyPost_ret (results_cell_row rfl _ _ w.heap.size _ _ _ _ rfl (two_set hb6 (.int .i64 p1) (.int .i64 p2)) Try.underlying27 rfl (by kernel_rfl)) rfl ⟨rfl, two_fr ((HF.out.trans hf5).trans hf6) (by omega) _ _⟩
    · rw [h] at her
      subst her
      clear h
      go_enter Try.func83, Try.ntmps83
      go_wp2_with (first
        | (go_at_call 84; refine HBO.out.mono ?_; rintro _ w5 ⟨rfl, hf5⟩; have hf0 := HF.out.trans hf5; obtain ⟨xa0, xa1, _, _⟩ := two_facts (hf0.blk HC.out.1 (fun h => h)); obtain ⟨xb0, xb1, _, _⟩ := two_facts (hf0.blk HC.out.2.1 (fun h => h)); have xf := hf0.cell HC.out.2.2 (fun h => h))
        | (go_at_fn K; refine (HK'.out _).mono ?_; rintro _ w6 ⟨rfl, hf6⟩)
        | fail)
      exact ⟨rfl, rfl, (HF.out.trans hf5).trans hf6⟩
  · rw [if_neg hok]
    rw [if_neg (fun h => hok (hall.1 h))] at HBO
    clear hok hall HK
    go_enter Try.func83, Try.ntmps83
    go_wp2_with (first
      | (go_at_call 84; refine HBO.out.mono ?_; rintro _ w5 ⟨rfl, hf5⟩)
      | fail)
    exact ⟨rfl, rfl, HF.out.trans hf5⟩
end Go.Proofs.Ytjldogfpccbkeaa

/- Chapter 01: Add, Sub, Mul, Div. -/
set_option linter.unusedVariables false
set_option linter.unusedSimpArgs false
namespace Go.Proofs.Ytjldogfpccbkeaa
open Go.RowKit
attribute [local go_sem] Oper.semAt_some

theorem rtwo_calls (K : FuncId) (a b : Int × Int) (r : Ra) (ia : I64r a.1 ∧ I64r a.2) (ib : I64r b.1 ∧ I64r b.2) (w : World)
    (HE : ∀ (args : Array Value) (U : World), (callFunc K args).run Try.prog U = .ok (.enter K args) U)
    (HK : RtOk a.1 a.2 → RtOk b.1 b.2 → ∀ U, Calls Try.prog K #[rtv a.1 a.2, rtv b.1 b.2] U fun e w' => e = endR r ∧ Fr0 U w') :
    Calls Try.prog 67 #[rtv a.1 a.2, rtv b.1 b.2, clv K #[]] w fun e w' => e = .returned (tupR (twoR a b r)) ∧ Fr0 w w' := by
  have hmf : ∀ (fn : Fn) (first cap : Array Value) (w : World), (Instr.makeFunc fn first cap).run Try.prog w = .ok (.func fn first cap) w := fun _ _ _ _ => rfl
  have HF := Lib.hid (((((Fr.refl (fun _ => False) w).alloc (.cells (rtc a.1 a.2) 27)).alloc (.cells (rtc b.1 b.2) 27)).alloc (.cells #[clv K #[]] 105)).alloc (.cells (rtc 0 0) 27))
  have HB := Lib.hid (heap_an (w := ((w.alloc (.cells (rtc a.1 a.2) 27)).alloc (.cells (rtc b.1 b.2) 27)).alloc (.cells #[clv K #[]] 105)) (k := w.heap.size + 1 + 1 + 1) (.cells (rtc 0 0) 27) (by simp))
  have h1 := blk_alloc (blk_alloc (blk_alloc (heap_alloc_new w (.cells (rtc a.1 a.2) 27)) (.cells (rtc b.1 b.2) 27)) (.cells #[clv K #[]] 105)) (.cells (rtc 0 0) 27)
  have h2 := blk_alloc (blk_alloc (heap_an (w := w.alloc (.cells (rtc a.1 a.2) 27)) (k := w.heap.size + 1) (.cells (rtc b.1 b.2) 27) (by simp)) (.cells #[clv K #[]] 105)) (.cells (rtc 0 0) 27)
  have h3 := cell_of_blk (blk_alloc (heap_an (w := (w.alloc (.cells (rtc a.1 a.2) 27)).alloc (.cells (rtc b.1 b.2) 27)) (k := w.heap.size + 1 + 1) (.cells #[clv K #[]] 105) (by simp)) (.cells (rtc 0 0) 27)) 0
  have HT := Lib.hid (rtry_calls 83 #[.pointer (some ⟨w.heap.size, 0, none⟩), .pointer (some ⟨w.heap.size + 1, 0, none⟩), .pointer (some ⟨w.heap.size + 1 + 1, 0, none⟩)] (twoR a b r) _
    (enters_of' Try.func83 (by kernel_rfl) rfl)
    (fun U hU => rtwo1_calls K a b r ia ib w.heap.size (w.heap.size + 1) (w.heap.size + 1 + 1) U (hU.blk h1 (fun h => h)) (hU.blk h2 (fun h => h)) (hU.cell h3 (fun h => h)) HE HK))
  clear h1 h2 h3 HK
  obtain ⟨an, ad⟩ := a
  obtain ⟨bn, bd⟩ := b
  simp only at *
  unfold tupR at HT ⊢
  generalize twoR (an, ad) (bn, bd) r = rr at *
  generalize rN rr = x at *
  generalize rD rr = y at *
  generalize rE rr = k at *
  go_enter Try.func67, Try.ntmps67
  go_wp2_with (first | (go_at_call 69; refine HT.out.mono ?_; rintro _ w3 ⟨rfl, hf3⟩; have hb3 := hf3.blk HB.out (fun h => h); obtain ⟨c0, c1, f0, f1⟩ := two_facts hb3) | fail)
  exact bodyPost_ret (results_row_tmp (p := 6) (u := 7) rfl _ _ (w.heap.size + 1 + 1 + 1) _ _ _ _ rfl (two_set hb3 _ _) Try.underlying27 rfl (by kernel_rfl)) rfl ⟨rfl, two_fr (HF.out.trans hf3) (by omega) _ _⟩
theorem rq_neg (n d : Int) : rq (-n) d = - rq n d := by unfold rq; rw [Rat.neg_mkRat]
theorem rtOk_neg {n d : Int} (h : RtOk n d) (ia : I64r n) : RtOk (-n) d ∧ I64r (-n) := by
  obtain ⟨h1, h2, h3⟩ := h
  obtain ⟨i1, i2⟩ := ia
  refine ⟨⟨h1, by omega, by rw [Int.natAbs_neg]; exact h3⟩, by omega, by omega⟩
theorem rq_mul_self {n d : Int} (hn : n ≠ 0) (hd : 1 ≤ d) {m e : Int} (h : (m = d ∧ e = n ∧ 0 < n) ∨ (m = -d ∧ e = -n ∧ n < 0)) : rq m e * rq n d = 1 := by
  unfold rq
  rw [Rat.mkRat_mul_mkRat]
  rcases h with ⟨rfl, rfl, h⟩ | ⟨rfl, rfl, h⟩
  · have : ((e.natAbs * m.natAbs : Nat) : Int) = m * e := by
      rw [Int.natCast_mul, Int.natAbs_of_nonneg (by omega), Int.natAbs_of_nonneg (by omega), Int.mul_comm]
    rw [← this]
    exact Rat.mkRat_self 1 ▸ (Rat.mkRat_eq_iff (Nat.mul_ne_zero (by omega) (by omega)) (by decide)).2 (by simp)
  · have : (((-n).natAbs * d.natAbs : Nat) : Int) = -d * n := by
      rw [Int.natCast_mul, Int.natAbs_of_nonneg (by omega), Int.natAbs_of_nonneg (by omega), Int.neg_mul, Int.neg_mul, Int.mul_comm]
    rw [← this]
    exact Rat.mkRat_self 1 ▸ (Rat.mkRat_eq_iff (Nat.mul_ne_zero (by omega) (by omega)) (by decide)).2 (by simp)
theorem rq_ne_zero {n d : Int} (hn : n ≠ 0) (hd : 1 ≤ d) : rq n d ≠ 0 := by
  unfold rq
  intro h
  exact hn ((Rat.mkRat_eq_zero (by omega)).1 h)
theorem rq_inv {n d m e : Int} (hn : n ≠ 0) (hd : 1 ≤ d) (h : (m = d ∧ e = n ∧ 0 < n) ∨ (m = -d ∧ e = -n ∧ n < 0)) (x : Rat) : x * rq m e = x / rq n d := by
  have h1 := rq_mul_self hn hd h
  have h2 := rq_ne_zero hn hd
  rw [Rat.div_def]
  congr 1
  have h3 := Rat.mul_inv_cancel (rq n d) h2
  calc rq m e = rq m e * (rq n d * (rq n d)⁻¹) := by rw [h3, Rat.mul_one]
    _ = (rq n d)⁻¹ := by rw [← Rat.mul_assoc, h1, Rat.one_mul]
/-- One by another one. -/
def divR (a b : Int × Int) : Ra := if b.1 = 0 then .error 2 else rR (rq a.1 a.2 / rq b.1 b.2)
theorem radd_make (a b : Int × Int) (ia : I64r a.1 ∧ I64r a.2) (ib : I64r b.1 ∧ I64r b.2) (ha : RtOk a.1 a.2) (hb : RtOk b.1 b.2) (w : World) :
    Calls Try.prog 68 #[rtv a.1 a.2, rtv b.1 b.2] w fun e w' => e = endR (rR (rq a.1 a.2 + rq b.1 b.2)) ∧ Fr0 w w' := radded_calls a.1 a.2 b.1 b.2 ha hb ia ib w
/-- Add of two. -/
theorem radd_calls (a b : Int × Int) (ia : I64r a.1 ∧ I64r a.2) (ib : I64r b.1 ∧ I64r b.2) (w : World) :
    Calls Try.prog 56 #[rtv a.1 a.2, rtv b.1 b.2] w fun e w' => e = .returned (tupR (twoR a b (rR (rq a.1 a.2 + rq b.1 b.2)))) ∧ Fr0 w w' := by
  have HF := Lib.hid ((((Fr.refl (fun _ => False) w).alloc (.cells (rtc a.1 a.2) 27)).alloc (.cells (rtc b.1 b.2) 27)).alloc (.cells (rtc 0 0) 27))
  have HB := Lib.hid (heap_an (w := (w.alloc (.cells (rtc a.1 a.2) 27)).alloc (.cells (rtc b.1 b.2) 27)) (k := w.heap.size + 1 + 1) (.cells (rtc 0 0) 27) (by simp))
  have HT := Lib.hid (fun U => rtwo_calls 68 a b (rR (rq a.1 a.2 + rq b.1 b.2)) ia ib U (enters_of' Try.func68 (by kernel_rfl) rfl) (fun ha hb V => radd_make a b ia ib ha hb V))
  obtain ⟨an, ad⟩ := a
  obtain ⟨bn, bd⟩ := b
  simp only at *
  unfold tupR at HT ⊢
  generalize hrr : twoR (an, ad) (bn, bd) _ = rr at *
  clear hrr
  generalize rN rr = x at *
  generalize rD rr = y at *
  generalize rE rr = k at *
  go_enter Try.func56, Try.ntmps56
  go_wp2_with (first | (go_at_call 67; refine (HT.out _).mono ?_; rintro _ w3 ⟨rfl, hf3⟩; have hb3 := hf3.blk HB.out (fun h => h); obtain ⟨c0, c1, f0, f1⟩ := two_facts hb3) | fail)
  exact bodyPost_ret (results_row_tmp (p := 4) (u := 5) rfl _ _ (w.heap.size + 1 + 1) _ _ _ _ rfl (two_set hb3 _ _) Try.underlying27 rfl (by kernel_rfl)) rfl ⟨rfl, two_fr (HF.out.trans hf3) (by omega) _ _⟩

end Go.Proofs.Ytjldogfpccbkeaa

/- Chapter 01: Floor, Ceil. -/
set_option linter.unusedVariables false
set_option linter.unusedSimpArgs false
namespace Go.Proofs.Ytjldogfpccbkeaa
open Go.RowKit
attribute [local go_sem] Oper.semAt_some

def rchk (n d : Int) : Int := if RtOk n d then 0 else 2
def floorN (n d : Int) : Int := if RtOk n d then n / d else 0
def ceilN (n d : Int) : Int := if RtOk n d then -((-n) / d) else 0
theorem tdiv_floor {n d : Int} (hd : 1 ≤ d) : n / d = if n.tmod d < 0 then n.tdiv d - 1 else n.tdiv d := by
  have h1 := Int.tmod_add_mul_tdiv n d
  have h3 := Int.tmod_lt_of_pos n (show 0 < d by omega)
  have h4 : -d < n.tmod d := by
    have := Int.tmod_lt_of_pos (-n) (show 0 < d by omega)
    rw [Int.neg_tmod] at this
    omega
  split
  · rw [show n = (n.tmod d + d) + d * (n.tdiv d - 1) by rw [Int.mul_sub]; omega, Int.add_mul_ediv_left _ _ (by omega), Int.ediv_eq_zero_of_lt (by omega) (by omega)]
    rw [show (n.tmod d + d) + d * (n.tdiv d - 1) = n by rw [Int.mul_sub]; omega]
    omega
  · rw [show n = n.tmod d + d * n.tdiv d by omega, Int.add_mul_ediv_left _ _ (by omega), Int.ediv_eq_zero_of_lt (by omega) (by omega)]
    rw [show n.tmod d + d * n.tdiv d = n by omega]
    omega
theorem tdiv_ceil {n d : Int} (hd : 1 ≤ d) : -((-n) / d) = if 0 < n.tmod d then n.tdiv d + 1 else n.tdiv d := by
  rw [tdiv_floor hd, Int.neg_tmod, Int.neg_tdiv]
  split <;> split <;> omega
theorem tdiv_range {n d : Int} (hd : 1 ≤ d) (hn : I64r n) : I64r (n.tdiv d) := by
  have h := Int.natAbs_tdiv_le_natAbs n d
  obtain ⟨h1, h2⟩ := hn
  by_cases h0 : 0 ≤ n
  · have := Int.tdiv_nonneg h0 (show 0 ≤ d by omega)
    exact ⟨by omega, by omega⟩
  · exact ⟨by omega, by
      have := Int.tdiv_nonneg (show 0 ≤ -n by omega) (show 0 ≤ d by omega)
      rw [Int.neg_tdiv] at this
      omega⟩
theorem tmod_range {d : Int} (hd : 1 ≤ d) (h : I64r d) (n : Int) : I64r (n.tmod d) := by
  have h3 := Int.tmod_lt_of_pos n (show 0 < d by omega)
  have h4 : -d < n.tmod d := by
    have := Int.tmod_lt_of_pos (-n) (show 0 < d by omega)
    rw [Int.neg_tmod] at this
    omega
  exact ⟨by have := h.2; omega, by have := h.2; omega⟩
theorem wrap64_id {x : Int} (h : I64r x) : wrap64 x = x := by
  obtain ⟨h1, h2⟩ := h
  simp only [wrap64]; omega
theorem rceil_calls (n d : Int) (hn : I64r n) (hd : I64r d) (w : World) : Calls Try.prog 33 #[rtv n d] w fun e w' => e = .returned (.tuple #[.int .i64 (ceilN n d), .int .i64 (rchk n d)]) ∧ Fr0 w w' := by
  have HC := Lib.hid (fun U => rcheck_calls n d hn hd U)
  have HF := Lib.hid ((Fr.refl (fun _ => False) w).alloc (.cells (rtc n d) 27))
  obtain ⟨c0, c1, _, _⟩ := two_facts (heap_alloc_new w (.cells (rtc n d) 27))
  have HK := Lib.hid (And.intro c0 c1)
  clear c0 c1
  unfold ceilN rchk
  by_cases hok : RtOk n d
  · rw [if_pos hok] at HC
    rw [if_pos hok, if_pos hok, tdiv_ceil hok.1]
    have hr := tdiv_range hok.1 hn
    have d1 : decide (d = 0) = false := decide_eq_false (by have := hok.1; omega)
    have d1n : (d == 0) = false := by simp; have := hok.1; omega
    have d2 : ¬ d = 0 := by have := hok.1; omega
    have e1 : IntKind.i64.wrap (n.tdiv d) = n.tdiv d := by rw [IntKind.wrap_i64]; have := hr.1; have := hr.2; omega
    have hr2 := tmod_range hok.1 hd n
    have e2 : IntKind.i64.wrap (n.tmod d) = n.tmod d := by rw [IntKind.wrap_i64]; have := hr2.1; have := hr2.2; omega
    have e1w := wrap64_id hr
    have e2w := wrap64_id hr2
    have e3 : 0 < n.tmod d → wrap64 (n.tdiv d + 1) = n.tdiv d + 1 := by
      intro h
      refine wrap64_id ?_
      unfold I64r
      have h5 := Int.tmod_add_mul_tdiv n d
      have h6 : n.tdiv d ≠ 9223372036854775807 ∨ d = 1 := by
        by_cases hd1 : d = 1
        · exact .inr hd1
        · refine .inl fun h7 => ?_
          rw [h7] at h5
          have := hok.1; have := hn.2; omega
      rcases h6 with h6 | h6
      · have := hr.1; have := hr.2; omega
      · subst h6; rw [Int.tmod_one] at h; omega
    clear hok hr hr2
    by_cases hm : 0 < n.tmod d
    · have e4 := e3 hm
      rw [if_pos hm]
      have hmd : decide (0 < n.tmod d) = true := decide_eq_true hm
      clear e3 hm
      go_enter Try.func33, Try.ntmps33
      go_wp2_with (first | (go_at_call 58; refine (HC.out _).mono ?_; rintro _ w3 ⟨rfl, hf3⟩; have c0 := hf3.cell HK.out.1 (fun h => h); have c1 := hf3.cell HK.out.2 (fun h => h)) | fail)
      go_ret2
      refine ⟨?_, HF.out.trans hf3⟩
      first
        | rfl
        | (show Ending.returned (.tuple #[.int .i64 (wrap64 (n.tdiv d + 1)), .int .i64 0]) = _; rw [e4])
    · rw [if_neg hm]
      have hmd : decide (0 < n.tmod d) = false := decide_eq_false hm
      clear e3 hm
      go_enter Try.func33, Try.ntmps33
      go_wp2_with (first | (go_at_call 58; refine (HC.out _).mono ?_; rintro _ w3 ⟨rfl, hf3⟩; have c0 := hf3.cell HK.out.1 (fun h => h); have c1 := hf3.cell HK.out.2 (fun h => h)) | fail)
      go_ret2
      exact ⟨rfl, HF.out.trans hf3⟩
  · rw [if_neg hok] at HC
    rw [if_neg hok, if_neg hok]
    clear hok
    go_enter Try.func33, Try.ntmps33
    go_wp2_with (first | (go_at_call 58; refine (HC.out _).mono ?_; rintro _ w3 ⟨rfl, hf3⟩) | fail)
    go_ret2
    exact ⟨rfl, HF.out.trans hf3⟩
end Go.Proofs.Ytjldogfpccbkeaa

/- Chapter 01: known. -/
set_option linter.unusedVariables false
set_option linter.unusedSimpArgs false
namespace Go.Proofs.Ytjldogfpccbkeaa
open Go.RowKit
attribute [local go_sem] Oper.semAt_some

theorem eq_rat (a b c d : Int) (w : World) : (Op.equalIn 10000 27 (.agg #[.int .i64 a, .int .i64 b]) (.agg #[.int .i64 c, .int .i64 d])).run Try.prog w = .ok (decide (a = c ∧ b = d)) w := by
  have h23 := Try.underlying27
  have h2 := Try.underlying2
  rw [show (10000 : Nat) = 9999 + 1 from rfl]
  simp [go_sem, Op.eqItems, h23, h2]
  by_cases h1 : a = c <;> by_cases h2 : b = d <;> simp [h1, h2]
theorem kn_add : twoR (1, 2) (1, 3) (rR (rq 1 2 + rq 1 3)) = .ok (5, 6) := by kernel_rfl
theorem kn_make : makeR 6 (-4) = .ok (-3, 2) := by kernel_rfl
end Go.Proofs.Ytjldogfpccbkeaa

/- Chapter 01: whole numbers go through rounding: RatShifts walked. -/
set_option linter.unusedVariables false
set_option linter.unusedSimpArgs false
namespace Go.Proofs.Ytjldogfpccbkeaa
open Go.RowKit
attribute [local go_sem] Oper.semAt_some

theorem rq_floor {n d : Int} (h : RtP n d) : (rq n d).floor = n / d := by
  obtain ⟨e1, e2⟩ := rq_parts h
  rw [Rat.floor_def, e1, e2]
  have := h.1
  congr 1
  omega
theorem rq_int (k : Int) : rq k 1 = (k : Rat) := by
  unfold rq
  rw [show (1 : Int).natAbs = 1 from rfl, Rat.mkRat_one]
theorem floor_add_int (q : Rat) (k : Int) : (q + (k : Rat)).floor = q.floor + k := by
  apply Int.le_antisymm
  · have h : (q + (k : Rat)).floor - k ≤ q.floor := by
      rw [Rat.le_floor_iff, Rat.intCast_sub]
      have := Rat.le_floor_iff.1 (Int.le_refl (q + (k : Rat)).floor)
      rw [← Rat.add_le_add_right (c := (k : Rat)), Rat.sub_add_cancel]
      exact this
    omega
  · rw [Rat.le_floor_iff, Rat.intCast_add, Rat.add_le_add_right]
    exact Rat.le_floor_iff.1 (Int.le_refl _)
theorem twoR_ok {a b : Int × Int} {r : Ra} (h1 : RtOk a.1 a.2) (h2 : RtOk b.1 b.2) : twoR a b r = r := if_pos ⟨h1, h2⟩
theorem RtOk.p {n d : Int} (h : RtOk n d) : RtP n d := ⟨h.1, h.2.2⟩
theorem rR_good {x : Rat} {n d : Int} (h : rR x = .ok (n, d)) : RtOk n d ∧ I64r n ∧ I64r d := by
  obtain ⟨_, ⟨h1, h2⟩, h3, h4⟩ := rR_ok h
  exact ⟨⟨h1, by omega, h2⟩, ⟨by omega, by omega⟩, ⟨by omega, by omega⟩⟩
theorem rR_err {x : Rat} {k : Int} (h : rR x = .error k) : k = 110 := by
  unfold rR at h
  split at h
  · cases h
  · cases h; rfl
theorem floor_range {n d : Int} (hd : 1 ≤ d) (hn : I64r n) : I64r (n / d) := by
  obtain ⟨h1, h2⟩ := hn
  have h3 := Int.ediv_mul_le n (show d ≠ 0 by omega)
  have h4 : n / d ≤ 9223372036854775807 := by
    have := Int.ediv_le_ediv (show 0 < d by omega) h2
    have h5 : (9223372036854775807 : Int) / d ≤ 9223372036854775807 := Int.ediv_le_self _ (by decide)
    omega
  refine ⟨?_, h4⟩
  rw [Int.le_ediv_iff_mul_le (by omega)]
  have : (-9223372036854775808 : Int) * d ≤ -9223372036854775808 * 1 := Int.mul_le_mul_of_nonpos_left (by omega) (by omega)
  omega
theorem shift_floor {n d k yn yd : Int} (h : RtOk n d) (hr : rR (rq n d + rq k 1) = .ok (yn, yd)) : yn / yd = n / d + k := by
  obtain ⟨e, hp, _, _⟩ := rR_ok hr
  rw [← rq_floor hp, ← e, rq_int, floor_add_int, rq_floor h.p]
abbrev I32r (k : Int) : Prop := -2147483648 ≤ k ∧ k ≤ 2147483647
end Go.Proofs.Ytjldogfpccbkeaa
