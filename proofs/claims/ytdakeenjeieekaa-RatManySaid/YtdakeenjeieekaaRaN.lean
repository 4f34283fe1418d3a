/- Chapter 01: wide numbers by their two words; what the code's sum is (plain). -/
import Derived.Test.YtdakeenjeieekaaRaS
import Derived.Test.YtdakeenjeieekaaRegG
import Derived.Deep.RegionHeld3
set_option linter.unusedVariables false
set_option linter.unusedSimpArgs false
namespace Go.Proofs.Ytdakeenjeieekaa
open Go.RowKit
attribute [local go_sem] Oper.semAt_some

def hiw (n : Nat) : Nat := n / 18446744073709551616
def low (n : Nat) : Nat := n % 18446744073709551616
abbrev wdC (n : Nat) : Array Value := #[u64v (hiw n), u64v (low n)]
abbrev wd (n : Nat) : Value := .agg #[u64v (hiw n), u64v (low n)]
theorem ctimes (a b : Nat) (ha : a < 18446744073709551616) (hb : b < 18446744073709551616) (w : World) : Calls Try.prog 67 #[u64v a, u64v b] w fun e w' => e = .returned (wd (a * b)) ∧ Fr0 w w' := wtimes_calls a b ha hb w
theorem cplus (a b : Nat) (h : a + b < 340282366920938463463374607431768211456) (w : World) : Calls Try.prog 68 #[wd a, wd b] w fun e w' => e = .returned (wd (a + b)) ∧ Fr0 w w' := wplus_calls a b h w
theorem cminus (a b : Nat) (h : b ≤ a) (ha : a < 340282366920938463463374607431768211456) (w : World) : Calls Try.prog 70 #[wd a, wd b] w fun e w' => e = .returned (wd (a - b)) ∧ Fr0 w w' := wminus_calls a b h ha w
theorem cless (a b : Nat) (w : World) : Calls Try.prog 69 #[wd a, wd b] w fun e w' => e = .returned (.bool (decide (a < b))) ∧ Fr0 w w' := wless_calls a b w
theorem cleft (a d : Nat) (h0 : 0 < d) (ha : a < 340282366920938463463374607431768211456) (hd : d < 18446744073709551616) (w : World) : Calls Try.prog 71 #[wd a, u64v d] w fun e w' => e = .returned (u64v (a % d)) ∧ Fr0 w w' := wleft_calls a d h0 ha hd w
theorem cby_yes (a d : Nat) (h0 : hiw a < d) (hd : d < 18446744073709551616) (w : World) : Calls Try.prog 72 #[wd a, u64v d] w fun e w' => e = .returned (.tuple #[u64v (a / d), u64v (a % d)]) ∧ Fr0 w w' := wby_yes a d h0 hd w
theorem cby_no (a d : Nat) (h0 : ¬ hiw a < d) (w : World) : Calls Try.prog 72 #[wd a, u64v d] w fun e w' => e = .panicked [stopE 110] ∧ Fr0 w w' := wby_no a d h0 w
theorem two_frS {S : Nat → Prop} {a w : World} {b : Nat} (h : Fr S a w) (hb : S b) (x y : Value) : Fr S a ((w.setCell ⟨b, 0, none⟩ x).setCell ⟨b, 1, none⟩ y) :=
  (h.setCell (p := ⟨b, 0, none⟩) (fun _ => hb) x).setCell (p := ⟨b, 1, none⟩) (fun _ => hb) y
theorem wd_zero (n : Nat) : (hiw n = 0 ∧ low n = 0) ↔ n = 0 := by unfold hiw low; omega
theorem eq_wide (a b c d : Int) (w : World) : (Op.equalIn 10000 77 (.agg #[.int .u64 a, .int .u64 b]) (.agg #[.int .u64 c, .int .u64 d])).run Try.prog w = .ok (a == c && b == d) w := by
  obtain ⟨i, hi⟩ : ∃ i, Try.prog.info? 53 = some i := Option.isSome_iff_exists.1 (by kernel_rfl)
  have hc : Try.prog.cellsOf 53 = 1 := by kernel_rfl
  have h1 := run_equalIn_array (w := w) 9999 #[.int .u64 a, .int .u64 b] #[.int .u64 c, .int .u64 d] Try.underlying77 hi
  rw [hc] at h1
  rw [show (10000 : Nat) = 9999 + 1 from rfl, h1]
  have h53 := Try.underlying53
  have h2 : ∀ x y : Int, (Op.equalIn 9999 53 (.int .u64 x) (.int .u64 y)).run Try.prog w = .ok (x == y) w := fun x y => run_equalIn_int (w := w) 9998 53 .u64 .u64 x y h53
  have h3 : (List.range' 0 2) = [0, 1] := rfl
  simp [go_sem, Op.eqItems, h2, h3]
  by_cases h1 : a = c <;> by_cases h2 : b = d <;> simp [h1, h2]
/-- What t and its sign are of the cut cross products. -/
def AddT (an ad bn bd : Int) (g x y t : Nat) (below : Bool) : Prop := SumOf t x y ∧ t ≤ x + y ∧ sgn (g * t) below = an * bd + bn * ad
theorem addT_aux {an ad bn bd : Int} {A B C D g x y : Nat} (hA : A = an.natAbs) (hB : B = bn.natAbs) (hC : (C : Int) = ad) (hD : (D : Int) = bd) (hx : g * x = A * D) (hy : g * y = B * C) :
    an * bd = (if an < 0 then -((g * x : Nat) : Int) else ((g * x : Nat) : Int)) ∧ bn * ad = (if bn < 0 then -((g * y : Nat) : Int) else ((g * y : Nat) : Int)) := by
  rw [hx, hy, ← hC, ← hD]
  constructor
  · split
    · have : an = -(A : Int) := by omega
      rw [this, Int.neg_mul]; simp
    · have : an = (A : Int) := by omega
      rw [this]; simp
  · split
    · have : bn = -(B : Int) := by omega
      rw [this, Int.neg_mul]; simp
    · have : bn = (B : Int) := by omega
      rw [this]; simp
theorem addT_same {an ad bn bd : Int} {A B C D g x y : Nat} (hA : A = an.natAbs) (hB : B = bn.natAbs) (hC : (C : Int) = ad) (hD : (D : Int) = bd) (hx : g * x = A * D) (hy : g * y = B * C)
    (h : decide (an < 0) = decide (bn < 0)) : AddT an ad bn bd g x y (x + y) (decide (an < 0)) := by
  obtain ⟨e1, e2⟩ := addT_aux hA hB hC hD hx hy
  refine ⟨.inl rfl, Nat.le_refl _, ?_⟩
  rw [e1, e2, Nat.mul_add]
  unfold sgn
  have hh := decide_eq_decide.1 h
  by_cases h1 : an < 0
  · have h2 := hh.1 h1
    simp only [h1, h2, decide_true, if_true]; omega
  · have h2 : ¬ bn < 0 := fun h => h1 (hh.2 h)
    simp only [h1, h2, decide_false, if_false]; simp
theorem addT_less {an ad bn bd : Int} {A B C D g x y : Nat} (hA : A = an.natAbs) (hB : B = bn.natAbs) (hC : (C : Int) = ad) (hD : (D : Int) = bd) (hx : g * x = A * D) (hy : g * y = B * C)
    (h : decide (an < 0) = !decide (bn < 0)) (hl : x < y) : AddT an ad bn bd g x y (y - x) (decide (bn < 0)) := by
  obtain ⟨e1, e2⟩ := addT_aux hA hB hC hD hx hy
  refine ⟨.inr (.inr (by omega)), by omega, ?_⟩
  rw [e1, e2, Nat.mul_sub]
  have hle : g * x ≤ g * y := Nat.mul_le_mul_left _ (by omega)
  unfold sgn
  by_cases h1 : an < 0 <;> by_cases h2 : bn < 0
  · simp [h1, h2] at h
  · simp only [h1, h2, decide_false, if_false, if_true]; simp only [Bool.false_eq_true, if_false]; omega
  · simp only [h1, h2, decide_true, if_false, if_true]; omega
  · simp [h1, h2] at h
theorem addT_ge {an ad bn bd : Int} {A B C D g x y : Nat} (hA : A = an.natAbs) (hB : B = bn.natAbs) (hC : (C : Int) = ad) (hD : (D : Int) = bd) (hx : g * x = A * D) (hy : g * y = B * C)
    (h : decide (an < 0) = !decide (bn < 0)) (hl : ¬ x < y) : AddT an ad bn bd g x y (x - y) (decide (an < 0)) := by
  obtain ⟨e1, e2⟩ := addT_aux hA hB hC hD hx hy
  refine ⟨.inr (.inl (by omega)), by omega, ?_⟩
  rw [e1, e2, Nat.mul_sub]
  have hle : g * y ≤ g * x := Nat.mul_le_mul_left _ (by omega)
  unfold sgn
  by_cases h1 : an < 0 <;> by_cases h2 : bn < 0
  · simp [h1, h2] at h
  · simp only [h1, h2, decide_true, if_false, if_true]; omega
  · simp only [h1, h2, decide_false, if_false, if_true]; simp only [Bool.false_eq_true, if_false]; omega
  · simp [h1, h2] at h
/-- What the code tells behind t is the sum. -/
theorem addR_code {an ad bn bd : Int} {A B C D g p r x y t : Nat} {below : Bool} (hA : A = an.natAbs) (hB : B = bn.natAbs) (hC : C = ad.natAbs) (hD : D = bd.natAbs) (c1 : 1 ≤ ad) (c2 : 1 ≤ bd) (ga : Nat.gcd A C = 1) (gb : Nat.gcd B D = 1)
    (hg : g = Nat.gcd C D) (hp : p = D / g) (hr : r = C / g) (hx : x = A * p) (hy : y = B * r) (h : AddT an ad bn bd g x y t below) :
    rR (rq an ad + rq bn bd) = codeAdd t below (Nat.gcd g (t % g)) (r * (D / Nat.gcd g (t % g))) := by
  obtain ⟨h1, _, h2⟩ := h
  subst hx hy hp hr
  rw [codeAdd_eq below ga gb hg (by omega) (by omega) h1, h2]
  unfold rq
  rw [Rat.mkRat_add_mkRat _ _ (by omega) (by omega), ← hC, ← hD]
  congr 2
  have e1 : (D : Int) = bd := by omega
  have e2 : (C : Int) = ad := by omega
  rw [e1, e2]
end Go.Proofs.Ytdakeenjeieekaa
