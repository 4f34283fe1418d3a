/- Several texts in one: RaP Rb0 Rb1 Rb2 Rb3 RbP Rb4 RbM Rb5. -/
import Derived.Test.YtjldogfpccbkeaaM2
import Derived.Test.YtjldogfpccbkeaaM3
/- Plain: numbers as digits to the base 65536, the lowest first. -/
set_option linter.unusedVariables false
set_option linter.unusedSimpArgs false
namespace Go.Proofs.Ytjldogfpccbkeaa

def bd (n : Nat) : List Nat := if h : n = 0 then [] else n % 65536 :: bd (n / 65536)
termination_by n
decreasing_by omega
def bv : List Nat → Nat
  | [] => 0
  | x :: l => x + 65536 * bv l
theorem bd_zero : bd 0 = [] := by rw [bd]; simp
theorem bd_pos {n : Nat} (h : n ≠ 0) : bd n = n % 65536 :: bd (n / 65536) := by rw [bd]; simp [h]
theorem bv_bd (n : Nat) : bv (bd n) = n := by
  induction n using Nat.strongRecOn with
  | _ n ih =>
    by_cases h : n = 0
    · subst h; rw [bd_zero]; rfl
    · rw [bd_pos h, bv, ih _ (by omega)]; omega
theorem bv_append (l m : List Nat) : bv (l ++ m) = bv l + 65536 ^ l.length * bv m := by
  induction l with
  | nil => simp [bv]
  | cons x l ih => simp only [List.cons_append, bv, ih, List.length_cons, Nat.pow_succ]; rw [Nat.mul_add, ← Nat.mul_assoc, Nat.mul_comm 65536 (65536 ^ l.length)]; omega
theorem bv_one (x : Nat) : bv [x] = x := by simp [bv]
theorem bd_lt (n : Nat) : ∀ x ∈ bd n, x < 65536 := by
  induction n using Nat.strongRecOn with
  | _ n ih =>
    by_cases h : n = 0
    · subst h; rw [bd_zero]; simp
    · rw [bd_pos h]; intro x hx
      rcases List.mem_cons.1 hx with rfl | hx
      · omega
      · exact ih _ (by omega) x hx
theorem bd_getD (n i : Nat) : (bd n).getD i 0 = n / 65536 ^ i % 65536 := by
  induction i generalizing n with
  | zero =>
    by_cases h : n = 0
    · subst h; rw [bd_zero]; simp
    · rw [bd_pos h]; simp
  | succ i ih =>
    by_cases h : n = 0
    · subst h; rw [bd_zero]; simp
    · rw [bd_pos h, List.getD_cons_succ, ih, Nat.pow_succ, Nat.mul_comm, ← Nat.div_div_eq_div_mul]
theorem bd_get {n i : Nat} (h : i < (bd n).length) : (bd n)[i] = n / 65536 ^ i % 65536 := by
  rw [← bd_getD, List.getD_eq_getElem?_getD, List.getElem?_eq_getElem h]; rfl
theorem bd_len_le (n k : Nat) : (bd n).length ≤ k ↔ n < 65536 ^ k := by
  induction k generalizing n with
  | zero =>
    by_cases h : n = 0
    · subst h; rw [bd_zero]; simp
    · rw [bd_pos h]; simp; omega
  | succ k ih =>
    by_cases h : n = 0
    · subst h; rw [bd_zero]; simp [Nat.pow_pos]
    · rw [bd_pos h, List.length_cons, Nat.succ_le_succ_iff, ih, Nat.pow_succ, Nat.div_lt_iff_lt_mul (by omega)]
theorem bd_len_lt (n k : Nat) : k < (bd n).length ↔ 65536 ^ k ≤ n := by
  have := bd_len_le n k
  omega
theorem bd_lt_len (n : Nat) : n < 65536 ^ (bd n).length := (bd_len_le n _).1 (Nat.le_refl _)
/-- Digits of which the last is not nought. -/
theorem bd_bv : ∀ (l : List Nat), (∀ x ∈ l, x < 65536) → (∀ x, l.getLast? = some x → x ≠ 0) → bd (bv l) = l
  | [], _, _ => by rw [bv, bd_zero]
  | x :: l, hx, hl => by
    have h1 := hx x (List.mem_cons_self ..)
    have ih := bd_bv l (fun y hy => hx y (List.mem_cons_of_mem _ hy)) (fun y hy => by
      cases l with
      | nil => simp at hy
      | cons z l => exact hl y (by rw [List.getLast?_cons_cons]; exact hy))
    have hn : bv (x :: l) ≠ 0 := by
      intro h0
      rw [bv] at h0
      have h2 : bv l = 0 := by omega
      rw [h2, bd_zero] at ih
      subst ih
      exact hl x rfl (by omega)
    rw [bd_pos hn, bv]
    rw [show (x + 65536 * bv l) % 65536 = x by omega, show (x + 65536 * bv l) / 65536 = bv l by omega, ih]
theorem mod_succ (n i : Nat) : n % 65536 ^ (i + 1) = n % 65536 ^ i + 65536 ^ i * (n / 65536 ^ i % 65536) := by
  rw [Nat.pow_succ, Nat.mod_mul]
theorem bv_push (l : List Nat) (x : Nat) : bv (l ++ [x]) = bv l + 65536 ^ l.length * x := by rw [bv_append, bv_one]
theorem bv_lt : ∀ (l : List Nat), (∀ x ∈ l, x < 65536) → bv l < 65536 ^ l.length
  | [], _ => by simp [bv]
  | x :: l, h => by
    have h1 := h x (List.mem_cons_self ..)
    have h2 := bv_lt l (fun y hy => h y (List.mem_cons_of_mem _ hy))
    rw [bv, List.length_cons, Nat.pow_succ]; omega
/-- Two numbers that are alike above a digit are as this digit. -/
theorem cmp_digit {a b i : Nat} (h : a / 65536 ^ (i + 1) = b / 65536 ^ (i + 1)) (hd : a / 65536 ^ i % 65536 < b / 65536 ^ i % 65536) : a < b := by
  have h1 : a / 65536 ^ (i + 1) = a / 65536 ^ i / 65536 := by rw [Nat.pow_succ, Nat.div_div_eq_div_mul]
  have h2 : b / 65536 ^ (i + 1) = b / 65536 ^ i / 65536 := by rw [Nat.pow_succ, Nat.div_div_eq_div_mul]
  have h3 : a / 65536 ^ i < b / 65536 ^ i := by omega
  exact Nat.lt_of_not_le fun hle => absurd (Nat.div_le_div_right (c := 65536 ^ i) hle) (by omega)
theorem div_digit {a b i : Nat} (h : a / 65536 ^ (i + 1) = b / 65536 ^ (i + 1)) (hd : a / 65536 ^ i % 65536 = b / 65536 ^ i % 65536) : a / 65536 ^ i = b / 65536 ^ i := by
  have h1 : a / 65536 ^ (i + 1) = a / 65536 ^ i / 65536 := by rw [Nat.pow_succ, Nat.div_div_eq_div_mul]
  have h2 : b / 65536 ^ (i + 1) = b / 65536 ^ i / 65536 := by rw [Nat.pow_succ, Nat.div_div_eq_div_mul]
  omega
/-- One digit of a sum. -/
theorem add_digit {L : List Nat} {a b c i t : Nat} (hl : L.length = i) (hv : bv L + c * 65536 ^ i = a % 65536 ^ i + b % 65536 ^ i) (ht : t = c + a / 65536 ^ i % 65536 + b / 65536 ^ i % 65536) :
    bv (L ++ [t % 65536]) + t / 65536 * 65536 ^ (i + 1) = a % 65536 ^ (i + 1) + b % 65536 ^ (i + 1) := by
  rw [bv_push, hl, mod_succ, mod_succ, Nat.pow_succ]
  generalize 65536 ^ i = P at *
  generalize a / P % 65536 = x at *
  generalize b / P % 65536 = y at *
  have h1 : P * (t % 65536) + t / 65536 * (P * 65536) = P * t := by
    rw [show t / 65536 * (P * 65536) = P * (65536 * (t / 65536)) by simp only [Nat.mul_comm, Nat.mul_left_comm], ← Nat.mul_add, Nat.add_comm, Nat.div_add_mod]
  have h2 : P * t = c * P + P * x + P * y := by rw [ht, Nat.mul_add, Nat.mul_add, Nat.mul_comm c P]
  omega
/-- One digit of a difference; d: 1 where one is borrowed. -/
theorem sub_digit {L : List Nat} {a b i c d t : Nat} (hl : L.length = i) (hv : bv L + b % 65536 ^ i = a % 65536 ^ i + c * 65536 ^ i) (ht : t + c + b / 65536 ^ i % 65536 = a / 65536 ^ i % 65536 + d * 65536) :
    bv (L ++ [t]) + b % 65536 ^ (i + 1) = a % 65536 ^ (i + 1) + d * 65536 ^ (i + 1) := by
  rw [bv_push, hl, mod_succ, mod_succ, Nat.pow_succ]
  generalize 65536 ^ i = P at *
  generalize a / P % 65536 = x at *
  generalize b / P % 65536 = y at *
  have h1 : P * t + c * P + P * y = P * x + d * (P * 65536) := by
    have := congrArg (P * ·) ht
    simp only [Nat.mul_add] at this
    rw [Nat.mul_comm c P, show d * (P * 65536) = P * (d * 65536) by simp only [Nat.mul_comm, Nat.mul_left_comm]]
    exact this
  omega
theorem get_lt {l : List Nat} (h : ∀ x ∈ l, x < 65536) (i : Nat) (hi : i < l.length) : l[i] < 65536 := h _ (List.getElem_mem hi)
theorem lt_push {l : List Nat} {x : Nat} (h : ∀ y ∈ l, y < 65536) (hx : x < 65536) : ∀ y ∈ l ++ [x], y < 65536 := by
  intro y hy
  rcases List.mem_append.1 hy with hy | hy
  · exact h y hy
  · rw [List.mem_singleton.1 hy]; exact hx
end Go.Proofs.Ytjldogfpccbkeaa

/- Chapter 01, the document: numbers of any length; trim, Of. -/
set_option linter.unusedVariables false
set_option linter.unusedSimpArgs false
namespace Go.Proofs.Ytjldogfpccbkeaa
open Go.RowKit
attribute [local go_sem] Oper.semAt_some

def u32s (l : List Nat) : List Value := l.map fun x : Nat => .int .u32 (x : Int)
theorem u32s_length (l : List Nat) : (u32s l).length = l.length := by simp [u32s]
theorem u32s_append (a b : List Nat) : u32s (a ++ b) = u32s a ++ u32s b := by simp [u32s]
theorem u32s_one (l : List Nat) : ∀ u ∈ u32s l, u.oneCell' = true := by
  intro u hu
  simp only [u32s, List.mem_map] at hu
  obtain ⟨x, _, rfl⟩ := hu
  rfl
theorem u32_elem : Elem Try.prog 98 1 4 := Elem.of (.int .u32 0) (by kernel_rfl) rfl (by decide)
/-- A slice that reads as these digits. -/
def IsD (w : World) (v : Value) (l : List Nat) : Prop := ∃ A c, v = .slice A l.length c ∧ l.length ≤ c ∧ Rd (fun _ => False) w A (u32s l)
/-- A slice that reads as a number. -/
def IsB (w : World) (v : Value) (n : Nat) : Prop := IsD w v (bd n)
/-- The same, read outside the blocks S. -/
def IsDS (S : Nat → Prop) (w : World) (v : Value) (l : List Nat) : Prop := ∃ A c, v = .slice A l.length c ∧ l.length ≤ c ∧ Rd S w A (u32s l)
def IsBS (S : Nat → Prop) (w : World) (v : Value) (n : Nat) : Prop := IsDS S w v (bd n)
theorem IsBS.weak {S : Nat → Prop} {w : World} {v : Value} {n : Nat} (h : IsBS S w v n) : IsB w v n := by
  obtain ⟨A, c, rfl, h1, h2⟩ := h
  exact ⟨A, c, rfl, h1, h2.mono (fun _ _ h => h.elim)⟩
theorem IsBS.mono {S T : Nat → Prop} {w : World} {v : Value} {n : Nat} (h : IsBS S w v n) (ht : ∀ k, k < w.heap.size → T k → S k) : IsBS T w v n := by
  obtain ⟨A, c, rfl, h1, h2⟩ := h
  exact ⟨A, c, rfl, h1, h2.mono ht⟩
theorem IsBS.kept {S : Nat → Prop} {w w' : World} {v : Value} {n : Nat} (h : IsBS S w v n) (hf : Fr S w w') : IsBS S w' v n := by
  obtain ⟨A, c, rfl, h1, h2⟩ := h
  exact ⟨A, c, rfl, h1, h2.kept hf⟩
theorem IsBS.kept0 {S : Nat → Prop} {w w' : World} {v : Value} {n : Nat} (h : IsBS S w v n) (hf : Fr0 w w') : IsBS S w' v n := h.kept (hf.mono (fun _ _ h => h.elim))
theorem isBS_zero (S : Nat → Prop) (w : World) (A : Option Addr) (c : Nat) : IsBS S w (.slice A 0 c) 0 := by
  unfold IsBS
  rw [bd_zero]
  exact ⟨A, c, rfl, Nat.zero_le _, Rd.nil _ _ _⟩
theorem IsD.kept {w w' : World} {v : Value} {l : List Nat} (h : IsD w v l) (hf : Fr0 w w') : IsD w' v l := by
  obtain ⟨A, c, rfl, h1, h2⟩ := h
  exact ⟨A, c, rfl, h1, h2.kept hf⟩
theorem IsB.kept {w w' : World} {v : Value} {n : Nat} (h : IsB w v n) (hf : Fr0 w w') : IsB w' v n := IsD.kept h hf
theorem isD_own {w : World} {base : Nat} {v : Value} {l : List Nat} (h : w.ownsRow base 98 1 v l.length (u32s l)) : IsD w v l := by
  obtain ⟨A, c, rfl, h1, _⟩ := own_form h
  exact ⟨A, c, rfl, h1, own_rd (fun _ => False) h (fun _ _ _ h => h)⟩
theorem isD_ownS {w : World} {base : Nat} {v : Value} {l : List Nat} (h : w.ownsRow base 98 1 v l.length (u32s l)) : IsDS (fun k => k < base) w v l := by
  obtain ⟨A, c, rfl, h1, _⟩ := own_form h
  exact ⟨A, c, rfl, h1, own_rd _ h (fun k h1 _ h2 => by omega)⟩
theorem rd_digit {S : Nat → Prop} {w : World} {b off : Nat} {l : List Nat} (h : Rd S w (some ⟨b, off, none⟩) (u32s l)) (i : Nat) (hi : i < l.length) : w.cell? ⟨b, off + i, none⟩ = some (.int .u32 ((l[i] : Nat) : Int)) := by
  have := h.at_ i (by rw [u32s_length]; exact hi)
  rw [this]
  simp [u32s]
theorem rdn_new (S : Nat → Prop) (w : World) (vs : List Value) (t : TypeId) (hS : ¬ S w.heap.size) : Rd S (w.alloc (.cells vs.toArray t)) (some ⟨w.heap.size, 0, none⟩) vs := by
  refine .inr ⟨_, 0, rfl, hS, fun i hi => ?_⟩
  have := cell_of_blk (heap_alloc_new w (.cells vs.toArray t)) (0 + i)
  rw [this, Nat.zero_add]
  simp [hi]
def slLen : Value → Nat
  | .slice _ n _ => n
  | _ => 0
theorem take_pred {l : List Nat} {k : Nat} (h : k + 1 ≤ l.length) : l.take (k + 1) = l.take k ++ [l[k]] := List.take_succ_eq_append_getElem h
theorem rtrim_calls {S : Nat → Prop} (A : Option Addr) (c : Nat) (L : List Nat) (w : World) (hR : Rd S w A (u32s L)) (hc : L.length ≤ c) (hL : ∀ x ∈ L, x < 65536) (hlen : L.length ≤ 1000000) :
    Calls Try.prog 63 #[.slice A L.length c] w fun e w' => (∃ v, e = .returned v ∧ IsBS S w' v (bv L)) ∧ Fr0 w w' := by
  have HR := Lib.hid hR
  have HL := Lib.hid hL
  clear hR hL
  go_enter Try.func63, Try.ntmps63
  go_wp2_with fail
  go_loopw [0] (fun s0 wr => ∃ k : Nat, k ≤ L.length ∧ s0 = .slice A k c ∧ Hid (bv (L.take k) = bv L) ∧ Hid (Fr0 w wr)) (fun s0 _ => slLen s0)
  case atStart => exact ⟨L.length, Nat.le_refl _, rfl, by rw [List.take_length]; rfl, Fr.refl _ _⟩
  case round =>
    obtain ⟨k, hk, rfl, HV, HF⟩ := hrel
    rcases k with _ | k
    · have HB : Hid (IsBS S wr (.slice A 0 c) (bv L)) := by
        have h0 : bv L = 0 := by rw [← HV.out]; rfl
        rw [h0]
        unfold IsBS
        rw [bd_zero]
        exact ⟨A, c, rfl, Nat.zero_le _, Rd.nil _ _ _⟩
      clear HV
      go_wp2_with fail
      go_ret
      exact ⟨⟨_, rfl, HB.out⟩, HF.out⟩
    · have hr := HR.out.kept (HF.out.mono (fun _ _ h => h.elim))
      obtain ⟨b, off, rfl⟩ := hr.some_ (by rw [u32s_length]; omega)
      have hbS : ¬ S b := by
        rcases hr with h | ⟨b2, o2, e2, h2, _⟩
        · have h3 := congrArg List.length h
          rw [u32s_length, List.length_nil] at h3
          omega
        · cases e2
          exact h2
      have d0 := rd_digit hr k (by omega)
      have HBS := Lib.hid hbS
      clear hbS
      have hdl := HL.out _ (List.getElem_mem (show k < L.length by omega))
      have hi1 : (0 : Int) ≤ (k : Int) := by omega
      have hi2 : (k : Int) < ((k + 1 : Nat) : Int) := by omega
      have hi3 : ((k + 1 : Nat) : Int) - 1 = (k : Int) := by omega
      have hi4 : (0 : Int) < ((k + 1 : Nat) : Int) := by omega
      have hi5 : (k : Int) ≤ (c : Int) := by omega
      have HT := Lib.hid (take_pred (l := L) (k := k) hk)
      obtain ⟨d, hd⟩ : ∃ d, d = L[k] := ⟨_, rfl⟩
      rw [← hd] at d0 HT hdl
      by_cases hz : d = 0
      · subst hz
        have HV2 : Hid (bv (L.take k) = bv L) := by
          have := HV.out
          rw [HT.out, bv_push, Nat.mul_zero, Nat.add_zero] at this
          exact this
        clear hr hd HV HT
        go_wp2_with fail
        go_roundw
        case rel => exact ⟨k, by omega, rfl, HV2, HF⟩
        case measure => simp [slLen]
      · have hzb : decide (d = 0) = false := decide_eq_false hz
        have hzc : (((d : Nat) : Int) == 0) = false := by simp; omega
        have hzd : decide ((d : Int) = 0) = false := decide_eq_false (by omega)
        have HB : Hid (IsBS S wr (.slice (some ⟨b, off, none⟩) (k + 1) c) (bv L)) := by
          unfold IsBS
          have h1 : bd (bv L) = L.take (k + 1) := by
            rw [← HV.out]
            refine bd_bv _ (fun x hx => HL.out x (List.mem_of_mem_take hx)) (fun x hx => ?_)
            rw [HT.out, List.getLast?_append] at hx
            simp at hx
            omega
          rw [h1]
          refine ⟨some ⟨b, off, none⟩, c, by rw [List.length_take, Nat.min_eq_left hk], by rw [List.length_take]; omega, ?_⟩
          refine .inr ⟨b, off, rfl, HBS.out, fun i hi => ?_⟩
          rw [u32s_length, List.length_take] at hi
          rw [rd_digit hr i (by omega)]
          simp [u32s]
        clear hr hd HV HT hz
        go_wp2_with fail
        go_ret
        exact ⟨⟨_, rfl, HB.out⟩, HF.out⟩
/-- A number's digits. -/
theorem rof_calls (n : Nat) (hn : n < 18446744073709551616) (w : World) : Calls Try.prog 47 #[u64v n] w fun e w' => (∃ v, e = .returned v ∧ IsB w' v n) ∧ Fr0 w w' := by
  go_enter Try.func47, Try.ntmps47
  go_wp2_with fail
  go_loopw [0, 3] (fun s0 s3 wr => ∃ (m : Nat) (xs : List Nat) (A : Option Addr) (c : Nat), s0 = u64v m ∧ s3 = .slice A xs.length c ∧ m < 18446744073709551616 ∧ xs.length ≤ 64 ∧ Hid (m * 65536 ^ xs.length ≤ n) ∧ Hid (wr.ownsRow w.heap.size 98 1 (.slice A xs.length c) xs.length (u32s xs)) ∧ Hid (bd n = xs ++ bd m) ∧ Hid (Fr0 w wr)) (fun s0 _ _ => (intOf s0).toNat)
  case atStart => exact ⟨n, [], none, 0, rfl, rfl, hn, by simp, by simp [Hid], own_nil _ _ _ _, rfl, Fr.refl _ _⟩
  case round =>
    obtain ⟨m, xs, A, c, rfl, rfl, hm, hx, HM, HO, HB, HF⟩ := hrel
    by_cases h0 : m = 0
    · subst h0
      have HE : Hid (IsB wr (.slice A xs.length c) n) := by
        unfold IsB
        rw [HB.out, bd_zero, List.append_nil]
        exact isD_own HO.out
      go_wp2_with fail
      go_ret
      exact ⟨⟨_, rfl, HE.out⟩, HF.out⟩
    · have h1 : decide ((0 : Int) < (m : Int)) = true := decide_eq_true (by omega)
      have h2 : decide (0 < m) = true := decide_eq_true (by omega)
      have hr : (m : Int).tmod 65536 = ((m % 65536 : Nat) : Int) := remN rfl
      have hq : (m : Int).tdiv 65536 = ((m / 65536 : Nat) : Int) := quoN rfl
      have hw : IntKind.u32.wrap ((m % 65536 : Nat) : Int) = ((m % 65536 : Nat) : Int) := by rw [IntKind.wrap_u32]; omega
      have hw2 : IntKind.u64.wrap ((m % 65536 : Nat) : Int) = ((m % 65536 : Nat) : Int) := by rw [IntKind.wrap_u64]; omega
      have hw3 : IntKind.u64.wrap ((m / 65536 : Nat) : Int) = ((m / 65536 : Nat) : Int) := by rw [IntKind.wrap_u64]; omega
      have hx4 : xs.length < 4 := by
        apply Nat.lt_of_not_le
        intro hle
        have e1 : 65536 ^ 4 ≤ 65536 ^ xs.length := Nat.pow_le_pow_right (by omega) hle
        have e2 : 1 * 65536 ^ xs.length ≤ m * 65536 ^ xs.length := Nat.mul_le_mul_right _ (by omega)
        have := HM.out
        omega
      have HM2 : Hid (m / 65536 * 65536 ^ (xs.length + 1) ≤ n) := by
        have e := HM.out
        have e2 : m / 65536 * 65536 ^ (xs.length + 1) ≤ m * 65536 ^ xs.length := by
          rw [Nat.pow_succ, ← Nat.mul_assoc, Nat.mul_right_comm]
          exact Nat.mul_le_mul_right _ (by have := Nat.div_mul_le_self m 65536; omega)
        exact Nat.le_trans e2 e
      have HB2 : Hid (bd n = (xs ++ [m % 65536]) ++ bd (m / 65536)) := by rw [HB.out, bd_pos h0, List.append_assoc]; rfl
      have hlt : m / 65536 < m := by omega
      clear HM HB h0
      obtain ⟨d, hd⟩ : ∃ d, d = m % 65536 := ⟨_, rfl⟩
      obtain ⟨m2, hm2⟩ : ∃ d, d = m / 65536 := ⟨_, rfl⟩
      rw [← hd] at hr hw hw2 HB2
      rw [← hm2] at hq hw3 HM2 HB2 hlt
      clear hd hm2
      go_wp2_with (at_builtin; refine wpList_app rfl (.tmp 6) (.tmp 10) _ rfl Try.underlying82 u32_elem (base := w.heap.size) (.slice A xs.length c) xs.length (u32s xs) rfl (own_kept0 HO.out ((Fr.refl _ wr).alloc _)) (fun _ => False) _ 1 1 (u32s [d]) rfl (rdn_new (fun _ => False) wr (u32s [d]) _ (fun h => h)) rfl (u32s_one _) (by simp only [maxLen]; omega) (by omega) (by have := HF.out.size; simp; omega) (by simp) ?_; intro v6 w6 hown hg hat; obtain ⟨A6, cv6, rfl, hvc6, hvm6⟩ := own_form hown)
      go_roundw
      case rel =>
        refine ⟨m2, xs ++ [d], A6, cv6, rfl, by rw [List.length_append]; rfl, by omega, by rw [List.length_append]; simp; omega, by rw [List.length_append]; exact HM2, ?_, HB2, ?_⟩
        · rw [List.length_append, u32s_append]; exact hown
        · refine (HF.out.alloc _).grown hg (fun k hk e => ?_)
          have := (own_blk HO.out e).1
          omega
      case measure => simp [intOf]; omega
end Go.Proofs.Ytjldogfpccbkeaa

/- Chapter 01, the document: Add. -/
set_option linter.unusedVariables false
set_option linter.unusedSimpArgs false
namespace Go.Proofs.Ytjldogfpccbkeaa
open Go.RowKit
attribute [local go_sem] Oper.semAt_some

set_option maxHeartbeats 4000000 in
theorem badd_calls (a b : Nat) (va vb : Value) (w : World) (ha : IsB w va a) (hb : IsB w vb b) (hla : (bd a).length ≤ 1000) (hlb : (bd b).length ≤ 1000) :
    Calls Try.prog 61 #[va, vb] w fun e w' => (∃ v, e = .returned v ∧ IsBS (fun k => k < w.heap.size) w' v (a + b)) ∧ Fr0 w w' := by
  obtain ⟨Aa, ca, rfl, hca, hRA⟩ := ha
  obtain ⟨Ab, cb, rfl, hcb, hRB⟩ := hb
  have HRA := Lib.hid hRA
  have HRB := Lib.hid hRB
  clear hRA hRB
  obtain ⟨la, hla2⟩ : ∃ l, l = (bd a).length := ⟨_, rfl⟩
  obtain ⟨lb, hlb2⟩ : ∃ l, l = (bd b).length := ⟨_, rfl⟩
  rw [← hla2] at hla hca ⊢
  rw [← hlb2] at hlb hcb ⊢
  have HLA := Lib.hid hla2
  have HLB := Lib.hid hlb2
  clear hla2 hlb2
  go_enter Try.func61, Try.ntmps61
  go_wp2_with fail
  go_loopw [5, 6, 7] (fun s5 s6 s7 wr => ∃ (i cy : Nat) (L : List Nat) (A : Option Addr) (c : Nat), s5 = .slice A i c ∧ s6 = .int .u32 (cy : Int) ∧ s7 = .int .i64 (i : Int) ∧ Hid (L.length = i) ∧ i + cy ≤ max la lb + 1 ∧ cy ≤ 1 ∧ Hid (wr.ownsRow w.heap.size 98 1 (.slice A i c) i (u32s L)) ∧ Hid (bv L + cy * 65536 ^ i = a % 65536 ^ i + b % 65536 ^ i) ∧ Hid (∀ x ∈ L, x < 65536) ∧ Hid (Fr0 w wr)) (fun _ s6 s7 _ => (max la lb - (intOf s7).toNat) * 2 + (intOf s6).toNat)
  case atStart => exact ⟨0, 0, [], none, 0, rfl, rfl, rfl, (rfl : ([] : List Nat).length = 0), by omega, by omega, own_nil _ _ _ _, by simp [Hid, bv, Nat.mod_one], fun x hx => by simp at hx, Fr.refl _ _⟩
  case round =>
    obtain ⟨i, cy, L, A, c, rfl, rfl, rfl, hi, him, hcy, HO, HV, HL, HF⟩ := hrel
    by_cases qa : i < la
    · by_cases qb : i < lb
      · have ha1 : decide ((i : Int) < (la : Int)) = true := decide_eq_true (by omega)
        have ha2 : decide (i < la) = true := decide_eq_true (by omega)
        have ha3 : (i : Int) < (la : Int) := by omega
        have hra := HRA.out.kept HF.out
        obtain ⟨ba, oa, rfl⟩ := hra.some_ (by rw [u32s_length, ← HLA.out]; omega)
        have cella := rd_digit hra i (by rw [← HLA.out]; exact qa)
        rw [bd_get (by rw [← HLA.out]; exact qa)] at cella
        clear hra
        have hb1 : decide ((i : Int) < (lb : Int)) = true := decide_eq_true (by omega)
        have hb2 : decide (i < lb) = true := decide_eq_true (by omega)
        have hb3 : (i : Int) < (lb : Int) := by omega
        have hrb := HRB.out.kept HF.out
        obtain ⟨bb, ob, rfl⟩ := hrb.some_ (by rw [u32s_length, ← HLB.out]; omega)
        have cellb := rd_digit hrb i (by rw [← HLB.out]; exact qb)
        rw [bd_get (by rw [← HLB.out]; exact qb)] at cellb
        clear hrb
        obtain ⟨x, hx⟩ : ∃ x, x = a / 65536 ^ i % 65536 := ⟨_, rfl⟩
        obtain ⟨y, hy⟩ : ∃ y, y = b / 65536 ^ i % 65536 := ⟨_, rfl⟩
        have hxl : x < 65536 := by rw [hx]; exact Nat.mod_lt _ (by omega)
        have hyl : y < 65536 := by rw [hy]; exact Nat.mod_lt _ (by omega)
        rw [← hx] at cella
        rw [← hy] at cellb
        obtain ⟨t, ht⟩ : ∃ t, t = cy + x + y := ⟨_, rfl⟩
        have HV2 := Lib.hid (add_digit hi.out HV.out (show t = cy + a / 65536 ^ i % 65536 + b / 65536 ^ i % 65536 by rw [ht, hx, hy]))
        obtain ⟨d, hd⟩ : ∃ d, d = t % 65536 := ⟨_, rfl⟩
        obtain ⟨c2, hc2⟩ : ∃ d, d = t / 65536 := ⟨_, rfl⟩
        rw [← hd, ← hc2] at HV2
        have s1 : IntKind.u32.wrap ((cy : Int) + (x : Int)) = ((cy + x : Nat) : Int) := by rw [IntKind.wrap_u32]; omega
        have s2 : IntKind.u32.wrap (((cy + x : Nat) : Int) + (y : Int)) = (t : Int) := by rw [IntKind.wrap_u32]; omega
        obtain ⟨u, hu⟩ : ∃ u, u = cy + x := ⟨_, rfl⟩
        rw [← hu] at s1 s2
        clear hu
        have s1' := s1
        rw [IntKind.wrap_u32] at s1'
        have s2' := s2
        rw [IntKind.wrap_u32] at s2'
        have r1 : (t : Int).tmod 65536 = (d : Int) := remN hd
        have r2 : (t : Int).tdiv 65536 = (c2 : Int) := quoN hc2
        have r3 : IntKind.u32.wrap (d : Int) = (d : Int) := by rw [IntKind.wrap_u32]; omega
        have r4 : IntKind.u32.wrap (c2 : Int) = (c2 : Int) := by rw [IntKind.wrap_u32]; omega
        have r3' := r3
        rw [IntKind.wrap_u32] at r3'
        have r4' := r4
        rw [IntKind.wrap_u32] at r4'
        have hdl : d < 65536 := by omega
        have hcl : c2 ≤ 1 := by omega
        have hm2 : i + 1 + c2 ≤ max la lb + 1 := by omega
        have HMS := Lib.hid (show (max la lb - (i + 1)) * 2 + c2 < (max la lb - i) * 2 + cy by omega)
        have hi1 : (0 : Int) ≤ (i : Int) := by omega
        have HXB := Lib.hid (And.intro hdl hcl)
        clear hxl hyl hdl hcl hcy
        clear hx hy ht hd hc2 HV
        go_wp2_with (first | (at_builtin; refine wpList_app rfl (.tmp 44) (.tmp 47) _ rfl Try.underlying82 u32_elem (base := w.heap.size) (.slice A i c) i (u32s L) rfl (own_kept0 HO.out ((Fr.refl _ wr).alloc _)) (fun _ => False) _ 1 1 (u32s [d]) rfl (rdn_new (fun _ => False) wr (u32s [d]) _ (fun h => h)) rfl (u32s_one _) (by simp only [maxLen]; omega) (by omega) (by have := HF.out.size; simp; omega) (by simp) ?_; intro v6 w6 hown hg hat; obtain ⟨A6, cv6, rfl, hvc6, hvm6⟩ := own_form hown) | fail)
        go_roundw
        case rel =>
          refine ⟨i + 1, c2, L ++ [d], A6, cv6, rfl, rfl, by go_num, by rw [List.length_append, hi.out]; rfl, hm2, HXB.out.2, ?_, HV2, lt_push HL.out HXB.out.1, ?_⟩
          · rw [u32s_append]; exact hown
          · refine (HF.out.alloc _).grown hg (fun k hk e => ?_)
            have := (own_blk HO.out e).1
            omega
        case measure => have := HMS.out; simp [intOf]; omega
      · have ha1 : decide ((i : Int) < (la : Int)) = true := decide_eq_true (by omega)
        have ha2 : decide (i < la) = true := decide_eq_true (by omega)
        have ha3 : (i : Int) < (la : Int) := by omega
        have hra := HRA.out.kept HF.out
        obtain ⟨ba, oa, rfl⟩ := hra.some_ (by rw [u32s_length, ← HLA.out]; omega)
        have cella := rd_digit hra i (by rw [← HLA.out]; exact qa)
        rw [bd_get (by rw [← HLA.out]; exact qa)] at cella
        clear hra
        have hb1 : decide ((i : Int) < (lb : Int)) = false := decide_eq_false (by omega)
        have hb2 : decide (i < lb) = false := decide_eq_false (by omega)
        have zb : b / 65536 ^ i % 65536 = 0 := by rw [Nat.div_eq_of_lt ((bd_len_le b i).1 (by rw [← HLB.out]; omega))]
        obtain ⟨x, hx⟩ : ∃ x, x = a / 65536 ^ i % 65536 := ⟨_, rfl⟩
        obtain ⟨y, hy⟩ : ∃ y, y = b / 65536 ^ i % 65536 := ⟨_, rfl⟩
        have hxl : x < 65536 := by rw [hx]; exact Nat.mod_lt _ (by omega)
        have hyl : y < 65536 := by rw [hy]; exact Nat.mod_lt _ (by omega)
        rw [← hx] at cella
        have hy0 : y = 0 := hy.trans zb
        obtain ⟨t, ht⟩ : ∃ t, t = cy + x + y := ⟨_, rfl⟩
        have HV2 := Lib.hid (add_digit hi.out HV.out (show t = cy + a / 65536 ^ i % 65536 + b / 65536 ^ i % 65536 by rw [ht, hx, hy]))
        obtain ⟨d, hd⟩ : ∃ d, d = t % 65536 := ⟨_, rfl⟩
        obtain ⟨c2, hc2⟩ : ∃ d, d = t / 65536 := ⟨_, rfl⟩
        rw [← hd, ← hc2] at HV2
        have s1 : IntKind.u32.wrap ((cy : Int) + (x : Int)) = ((cy + x : Nat) : Int) := by rw [IntKind.wrap_u32]; omega
        have s3 : cy + x = t := by omega
        rw [s3] at s1
        clear s3
        have s1' := s1
        rw [IntKind.wrap_u32] at s1'
        have r1 : (t : Int).tmod 65536 = (d : Int) := remN hd
        have r2 : (t : Int).tdiv 65536 = (c2 : Int) := quoN hc2
        have r3 : IntKind.u32.wrap (d : Int) = (d : Int) := by rw [IntKind.wrap_u32]; omega
        have r4 : IntKind.u32.wrap (c2 : Int) = (c2 : Int) := by rw [IntKind.wrap_u32]; omega
        have r3' := r3
        rw [IntKind.wrap_u32] at r3'
        have r4' := r4
        rw [IntKind.wrap_u32] at r4'
        have hdl : d < 65536 := by omega
        have hcl : c2 ≤ 1 := by omega
        have hm2 : i + 1 + c2 ≤ max la lb + 1 := by omega
        have HMS := Lib.hid (show (max la lb - (i + 1)) * 2 + c2 < (max la lb - i) * 2 + cy by omega)
        have hi1 : (0 : Int) ≤ (i : Int) := by omega
        have HXB := Lib.hid (And.intro hdl hcl)
        clear hxl hyl hdl hcl hcy
        clear hx hy ht hd hc2 HV zb hy0
        go_wp2_with (first | (at_builtin; refine wpList_app rfl (.tmp 44) (.tmp 47) _ rfl Try.underlying82 u32_elem (base := w.heap.size) (.slice A i c) i (u32s L) rfl (own_kept0 HO.out ((Fr.refl _ wr).alloc _)) (fun _ => False) _ 1 1 (u32s [d]) rfl (rdn_new (fun _ => False) wr (u32s [d]) _ (fun h => h)) rfl (u32s_one _) (by simp only [maxLen]; omega) (by omega) (by have := HF.out.size; simp; omega) (by simp) ?_; intro v6 w6 hown hg hat; obtain ⟨A6, cv6, rfl, hvc6, hvm6⟩ := own_form hown) | fail)
        go_roundw
        case rel =>
          refine ⟨i + 1, c2, L ++ [d], A6, cv6, rfl, rfl, by go_num, by rw [List.length_append, hi.out]; rfl, hm2, HXB.out.2, ?_, HV2, lt_push HL.out HXB.out.1, ?_⟩
          · rw [u32s_append]; exact hown
          · refine (HF.out.alloc _).grown hg (fun k hk e => ?_)
            have := (own_blk HO.out e).1
            omega
        case measure => have := HMS.out; simp [intOf]; omega
    · by_cases qb : i < lb
      · have ha1 : decide ((i : Int) < (la : Int)) = false := decide_eq_false (by omega)
        have ha2 : decide (i < la) = false := decide_eq_false (by omega)
        have za : a / 65536 ^ i % 65536 = 0 := by rw [Nat.div_eq_of_lt ((bd_len_le a i).1 (by rw [← HLA.out]; omega))]
        have hb1 : decide ((i : Int) < (lb : Int)) = true := decide_eq_true (by omega)
        have hb2 : decide (i < lb) = true := decide_eq_true (by omega)
        have hb3 : (i : Int) < (lb : Int) := by omega
        have hrb := HRB.out.kept HF.out
        obtain ⟨bb, ob, rfl⟩ := hrb.some_ (by rw [u32s_length, ← HLB.out]; omega)
        have cellb := rd_digit hrb i (by rw [← HLB.out]; exact qb)
        rw [bd_get (by rw [← HLB.out]; exact qb)] at cellb
        clear hrb
        obtain ⟨x, hx⟩ : ∃ x, x = a / 65536 ^ i % 65536 := ⟨_, rfl⟩
        obtain ⟨y, hy⟩ : ∃ y, y = b / 65536 ^ i % 65536 := ⟨_, rfl⟩
        have hxl : x < 65536 := by rw [hx]; exact Nat.mod_lt _ (by omega)
        have hyl : y < 65536 := by rw [hy]; exact Nat.mod_lt _ (by omega)
        have hx0 : x = 0 := hx.trans za
        rw [← hy] at cellb
        obtain ⟨t, ht⟩ : ∃ t, t = cy + x + y := ⟨_, rfl⟩
        have HV2 := Lib.hid (add_digit hi.out HV.out (show t = cy + a / 65536 ^ i % 65536 + b / 65536 ^ i % 65536 by rw [ht, hx, hy]))
        obtain ⟨d, hd⟩ : ∃ d, d = t % 65536 := ⟨_, rfl⟩
        obtain ⟨c2, hc2⟩ : ∃ d, d = t / 65536 := ⟨_, rfl⟩
        rw [← hd, ← hc2] at HV2
        have s2 : IntKind.u32.wrap ((cy : Int) + (y : Int)) = (t : Int) := by rw [IntKind.wrap_u32]; omega
        have s2' := s2
        rw [IntKind.wrap_u32] at s2'
        have r1 : (t : Int).tmod 65536 = (d : Int) := remN hd
        have r2 : (t : Int).tdiv 65536 = (c2 : Int) := quoN hc2
        have r3 : IntKind.u32.wrap (d : Int) = (d : Int) := by rw [IntKind.wrap_u32]; omega
        have r4 : IntKind.u32.wrap (c2 : Int) = (c2 : Int) := by rw [IntKind.wrap_u32]; omega
        have r3' := r3
        rw [IntKind.wrap_u32] at r3'
        have r4' := r4
        rw [IntKind.wrap_u32] at r4'
        have hdl : d < 65536 := by omega
        have hcl : c2 ≤ 1 := by omega
        have hm2 : i + 1 + c2 ≤ max la lb + 1 := by omega
        have HMS := Lib.hid (show (max la lb - (i + 1)) * 2 + c2 < (max la lb - i) * 2 + cy by omega)
        have hi1 : (0 : Int) ≤ (i : Int) := by omega
        have HXB := Lib.hid (And.intro hdl hcl)
        clear hxl hyl hdl hcl hcy
        clear hx hy ht hd hc2 HV za hx0
        go_wp2_with (first | (at_builtin; refine wpList_app rfl (.tmp 44) (.tmp 47) _ rfl Try.underlying82 u32_elem (base := w.heap.size) (.slice A i c) i (u32s L) rfl (own_kept0 HO.out ((Fr.refl _ wr).alloc _)) (fun _ => False) _ 1 1 (u32s [d]) rfl (rdn_new (fun _ => False) wr (u32s [d]) _ (fun h => h)) rfl (u32s_one _) (by simp only [maxLen]; omega) (by omega) (by have := HF.out.size; simp; omega) (by simp) ?_; intro v6 w6 hown hg hat; obtain ⟨A6, cv6, rfl, hvc6, hvm6⟩ := own_form hown) | fail)
        go_roundw
        case rel =>
          refine ⟨i + 1, c2, L ++ [d], A6, cv6, rfl, rfl, by go_num, by rw [List.length_append, hi.out]; rfl, hm2, HXB.out.2, ?_, HV2, lt_push HL.out HXB.out.1, ?_⟩
          · rw [u32s_append]; exact hown
          · refine (HF.out.alloc _).grown hg (fun k hk e => ?_)
            have := (own_blk HO.out e).1
            omega
        case measure => have := HMS.out; simp [intOf]; omega
      · by_cases qc : 0 < cy
        · have ha1 : decide ((i : Int) < (la : Int)) = false := decide_eq_false (by omega)
          have ha2 : decide (i < la) = false := decide_eq_false (by omega)
          have za : a / 65536 ^ i % 65536 = 0 := by rw [Nat.div_eq_of_lt ((bd_len_le a i).1 (by rw [← HLA.out]; omega))]
          have hb1 : decide ((i : Int) < (lb : Int)) = false := decide_eq_false (by omega)
          have hb2 : decide (i < lb) = false := decide_eq_false (by omega)
          have zb : b / 65536 ^ i % 65536 = 0 := by rw [Nat.div_eq_of_lt ((bd_len_le b i).1 (by rw [← HLB.out]; omega))]
          obtain ⟨x, hx⟩ : ∃ x, x = a / 65536 ^ i % 65536 := ⟨_, rfl⟩
          obtain ⟨y, hy⟩ : ∃ y, y = b / 65536 ^ i % 65536 := ⟨_, rfl⟩
          have hxl : x < 65536 := by rw [hx]; exact Nat.mod_lt _ (by omega)
          have hyl : y < 65536 := by rw [hy]; exact Nat.mod_lt _ (by omega)
          have hx0 : x = 0 := hx.trans za
          have hy0 : y = 0 := hy.trans zb
          obtain ⟨t, ht⟩ : ∃ t, t = cy + x + y := ⟨_, rfl⟩
          have HV2 := Lib.hid (add_digit hi.out HV.out (show t = cy + a / 65536 ^ i % 65536 + b / 65536 ^ i % 65536 by rw [ht, hx, hy]))
          obtain ⟨d, hd⟩ : ∃ d, d = t % 65536 := ⟨_, rfl⟩
          obtain ⟨c2, hc2⟩ : ∃ d, d = t / 65536 := ⟨_, rfl⟩
          rw [← hd, ← hc2] at HV2
          have s3 : t = cy := by omega
          rw [s3] at hd hc2
          have r1 : (cy : Int).tmod 65536 = (d : Int) := remN hd
          have r2 : (cy : Int).tdiv 65536 = (c2 : Int) := quoN hc2
          have r3 : IntKind.u32.wrap (d : Int) = (d : Int) := by rw [IntKind.wrap_u32]; omega
          have r4 : IntKind.u32.wrap (c2 : Int) = (c2 : Int) := by rw [IntKind.wrap_u32]; omega
          have r3' := r3
          rw [IntKind.wrap_u32] at r3'
          have r4' := r4
          rw [IntKind.wrap_u32] at r4'
          have hdl : d < 65536 := by omega
          have hcl : c2 ≤ 1 := by omega
          have hm2 : i + 1 + c2 ≤ max la lb + 1 := by omega
          have HMS := Lib.hid (show (max la lb - (i + 1)) * 2 + c2 < (max la lb - i) * 2 + cy by omega)
          have hcy1 : decide ((0 : Int) < (cy : Int)) = true := decide_eq_true (by omega)
          have hcy2 : decide (0 < cy) = true := decide_eq_true (by omega)
          have hi1 : (0 : Int) ≤ (i : Int) := by omega
          have HXB := Lib.hid (And.intro hdl hcl)
          clear hxl hyl hdl hcl hcy
          clear hx hy ht hd hc2 HV za hx0 zb hy0
          go_wp2_with (first | (at_builtin; refine wpList_app rfl (.tmp 44) (.tmp 47) _ rfl Try.underlying82 u32_elem (base := w.heap.size) (.slice A i c) i (u32s L) rfl (own_kept0 HO.out ((Fr.refl _ wr).alloc _)) (fun _ => False) _ 1 1 (u32s [d]) rfl (rdn_new (fun _ => False) wr (u32s [d]) _ (fun h => h)) rfl (u32s_one _) (by simp only [maxLen]; omega) (by omega) (by have := HF.out.size; simp; omega) (by simp) ?_; intro v6 w6 hown hg hat; obtain ⟨A6, cv6, rfl, hvc6, hvm6⟩ := own_form hown) | fail)
          go_roundw
          case rel =>
            refine ⟨i + 1, c2, L ++ [d], A6, cv6, rfl, rfl, by go_num, by rw [List.length_append, hi.out]; rfl, hm2, HXB.out.2, ?_, HV2, lt_push HL.out HXB.out.1, ?_⟩
            · rw [u32s_append]; exact hown
            · refine (HF.out.alloc _).grown hg (fun k hk e => ?_)
              have := (own_blk HO.out e).1
              omega
          case measure => have := HMS.out; simp [intOf]; omega
        · have hc0 : cy = 0 := by omega
          subst hc0
          clear hcy
          have ha1 : decide ((i : Int) < (la : Int)) = false := decide_eq_false (by omega)
          have ha2 : decide (i < la) = false := decide_eq_false (by omega)
          have hb1 : decide ((i : Int) < (lb : Int)) = false := decide_eq_false (by omega)
          have hb2 : decide (i < lb) = false := decide_eq_false (by omega)
          have hv : bv L = a + b := by
            have := HV.out
            rw [Nat.zero_mul, Nat.add_zero, Nat.mod_eq_of_lt ((bd_len_le a i).1 (by rw [← HLA.out]; omega)), Nat.mod_eq_of_lt ((bd_len_le b i).1 (by rw [← HLB.out]; omega))] at this
            exact this
          have hown5 := HO.out
          rw [← hi.out] at hown5
          obtain ⟨A5, c5, e5, h5, hR5⟩ := isD_ownS hown5
          cases e5
          have HT := Lib.hid (rtrim_calls A c L wr hR5 h5 HL.out (by rw [hi.out]; omega))
          rw [hi.out] at HT
          rw [hv] at HT
          clear hv HV hR5 qc hown5 h5
          go_wp2_with (first | (go_at_call 63; refine HT.out.mono ?_; rintro _ w5 ⟨⟨v5, rfl, hb5⟩, hf5⟩) | fail)
          go_ret
          exact ⟨⟨_, rfl, hb5⟩, HF.out.trans hf5⟩
end Go.Proofs.Ytjldogfpccbkeaa

/- Chapter 01, the document: Less. -/
set_option linter.unusedVariables false
set_option linter.unusedSimpArgs false
namespace Go.Proofs.Ytjldogfpccbkeaa
open Go.RowKit
attribute [local go_sem] Oper.semAt_some

theorem len_less {a b : Nat} (h : (bd a).length < (bd b).length) : a < b := by
  have h1 := bd_lt_len a
  have h2 := (bd_len_lt b (bd a).length).1 h
  omega
set_option maxHeartbeats 2000000 in
theorem bless_calls (a b : Nat) (va vb : Value) (w : World) (ha : IsB w va a) (hb : IsB w vb b) (hla : (bd a).length ≤ 1000) (hlb : (bd b).length ≤ 1000) :
    Calls Try.prog 49 #[va, vb] w fun e w' => e = .returned (.bool (decide (a < b))) ∧ Fr0 w w' := by
  have hmx : Try.prog.follows .mixedOrders = true := by kernel_rfl
  obtain ⟨Aa, ca, rfl, hca, hRA⟩ := ha
  obtain ⟨Ab, cb, rfl, hcb, hRB⟩ := hb
  have HRA := Lib.hid hRA
  have HRB := Lib.hid hRB
  clear hRA hRB
  have HA1 := Lib.hid (len_less (a := a) (b := b))
  have HA2 := Lib.hid (len_less (a := b) (b := a))
  obtain ⟨la, hla2⟩ : ∃ l, l = (bd a).length := ⟨_, rfl⟩
  obtain ⟨lb, hlb2⟩ : ∃ l, l = (bd b).length := ⟨_, rfl⟩
  rw [← hla2] at hla hca HA1 HA2 ⊢
  rw [← hlb2] at hlb hcb HA1 HA2 ⊢
  have HLA := Lib.hid hla2
  have HLB := Lib.hid hlb2
  clear hla2 hlb2
  by_cases hl : la = lb
  · subst hl
    obtain ⟨r, hr⟩ : ∃ r, r = decide (a < b) := ⟨_, rfl⟩
    rw [← hr]
    have HR := Lib.hid hr
    clear hr HA1 HA2
    go_enter Try.func49, Try.ntmps49
    go_wp2_with fail
    go_loopw [5] (fun s5 wr => ∃ k : Nat, k ≤ la ∧ s5 = .int .i64 ((k : Int) - 1) ∧ Hid (a / 65536 ^ k = b / 65536 ^ k) ∧ Hid (Fr0 w wr)) (fun s5 _ => (intOf s5 + 1).toNat)
    case atStart => exact ⟨la, Nat.le_refl _, rfl, by
      show a / 65536 ^ la = b / 65536 ^ la
      rw [Nat.div_eq_of_lt ((bd_len_le a la).1 (by rw [← HLA.out]; omega)), Nat.div_eq_of_lt ((bd_len_le b la).1 (by rw [← HLB.out]; omega))], Fr.refl _ _⟩
    case round =>
      obtain ⟨k, hk, rfl, HV, HF⟩ := hrel
      rcases k with _ | k
      · have he : r = false := by
          have := HV.out
          rw [HR.out]
          simp at this
          rw [this]; simp
        subst he
        clear HV HR
        go_wp2_with fail
        go_ret
        exact ⟨rfl, HF.out⟩
      · have hra := HRA.out.kept HF.out
        have hrb := HRB.out.kept HF.out
        obtain ⟨ba, oa, rfl⟩ := hra.some_ (by rw [u32s_length, ← HLA.out]; omega)
        obtain ⟨bb, ob, rfl⟩ := hrb.some_ (by rw [u32s_length, ← HLB.out]; omega)
        have cella := rd_digit hra k (by rw [← HLA.out]; omega)
        have cellb := rd_digit hrb k (by rw [← HLB.out]; omega)
        rw [bd_get (by rw [← HLA.out]; omega)] at cella
        rw [bd_get (by rw [← HLB.out]; omega)] at cellb
        have e1 : ((k + 1 : Nat) : Int) - 1 = (k : Int) := by omega
        rw [e1]
        have HC := Lib.hid (fun h => cmp_digit (a := a) (b := b) (i := k) HV.out h)
        have HC2 := Lib.hid (fun h => cmp_digit (a := b) (b := a) (i := k) HV.out.symm h)
        have HDD := Lib.hid (fun h => div_digit (a := a) (b := b) (i := k) HV.out h)
        obtain ⟨x, hx⟩ : ∃ x, x = a / 65536 ^ k % 65536 := ⟨_, rfl⟩
        obtain ⟨y, hy⟩ : ∃ y, y = b / 65536 ^ k % 65536 := ⟨_, rfl⟩
        rw [← hx, ← hy] at HC HDD
        rw [← hx, ← hy] at HC2
        rw [← hx] at cella
        rw [← hy] at cellb
        have hi1 : (0 : Int) ≤ (k : Int) := by omega
        have hi2 : (k : Int) < (la : Int) := by omega
        have hd1 : decide ((0 : Int) ≤ (k : Int)) = true := decide_eq_true hi1
        clear hra hrb hx hy HV e1
        by_cases hxy : x = y
        · have h1 : decide (x = y) = true := decide_eq_true hxy
          have HE := Lib.hid (HDD.out hxy)
          subst hxy
          have hw : IntKind.i64.wrap ((k : Int) - 1) = (k : Int) - 1 := by rw [IntKind.wrap_i64]; omega
          have hw2 := hw
          rw [IntKind.wrap_i64] at hw2
          clear HC HC2 HDD h1
          go_upto_region 6 with fail
          have r0 := cg_cell (W := wr) cella
          have r1 := cg_cell (W := wr) cellb
          refine wp_region_cg hmx (by kernel_rfl) ?_
          repeat (go_big_quiet_step (fail))
          refine wpQuiet_nil ?_
          intro w6 hf6
          go_wp2_with fail
          go_roundw
          case rel => exact ⟨k, by omega, rfl, HE, HF.out.trans hf6⟩
          case measure => first | (simp [intOf]; done) | (simp [intOf]; omega)
        · have h1 : decide (x = y) = false := decide_eq_false hxy
          have h2 : decide ((x : Int) = (y : Int)) = false := decide_eq_false (by omega)
          have h3 : ((x : Int) == (y : Int)) = false := by simpa using h2
          have hv : decide (x < y) = r := by
            rw [HR.out]
            by_cases c : x < y
            · rw [decide_eq_true c, decide_eq_true (HC.out c)]
            · rw [decide_eq_false c, decide_eq_false (by have := HC2.out (by omega); omega)]
          have hv2 : decide ((x : Int) < (y : Int)) = r := by rw [← hv]; exact decide_eq_decide.2 (by omega)
          clear HC HC2 HDD HR hxy
          go_upto_region 6 with fail
          have r0 := cg_cell (W := wr) cella
          have r1 := cg_cell (W := wr) cellb
          refine wp_region_cg hmx (by kernel_rfl) ?_
          repeat (go_big_quiet_step (fail))
          refine wpQuiet_nil ?_
          intro w6 hf6
          have cella6 := hf6.cell cella (fun h => h)
          have cellb6 := hf6.cell cellb (fun h => h)
          go_upto_region 7 with fail
          have r2 := cg_cell (W := w6) cella6
          have r3 := cg_cell (W := w6) cellb6
          refine wp_region_cg hmx (by kernel_rfl) ?_
          repeat (go_big_quiet_step (fail))
          refine wpQuiet_nil ?_
          intro w7 hf7
          go_wp2_with fail
          go_ret
          exact ⟨rfl, (HF.out.trans hf6).trans hf7⟩
  · have hv : decide (a < b) = decide (la < lb) := by
      by_cases h : la < lb
      · rw [decide_eq_true h, decide_eq_true (HA1.out h)]
      · rw [decide_eq_false h, decide_eq_false (by have := HA2.out (by omega); omega)]
    rw [hv]
    have h1 : decide (la = lb) = false := decide_eq_false hl
    have h2 : decide ((la : Int) = (lb : Int)) = false := decide_eq_false (by omega)
    have h3 : ((la : Int) == (lb : Int)) = false := by simpa using h2
    have h4 : decide ((la : Int) < (lb : Int)) = decide (la < lb) := decide_eq_decide.2 (by omega)
    clear hv hl HA1 HA2
    generalize decide (la < lb) = r at *
    go_enter Try.func49, Try.ntmps49
    go_wp2_with fail
    go_ret
    exact ⟨by first | rfl | simp_all, Fr.refl _ _⟩
end Go.Proofs.Ytjldogfpccbkeaa

/- Chapter 01, the document: Sub. -/
set_option linter.unusedVariables false
set_option linter.unusedSimpArgs false
namespace Go.Proofs.Ytjldogfpccbkeaa
open Go.RowKit
attribute [local go_sem] Oper.semAt_some

theorem w64_id {x : Int} (h1 : -9223372036854775808 ≤ x) (h2 : x ≤ 9223372036854775807) : wrap64 x = x := by
  simp only [wrap64]; omega
set_option maxHeartbeats 4000000 in
theorem bsub_calls (a b : Nat) (va vb : Value) (w : World) (hle : b ≤ a) (ha : IsB w va a) (hb : IsB w vb b) (hla : (bd a).length ≤ 1000) (hlb : (bd b).length ≤ 1000) :
    Calls Try.prog 62 #[va, vb] w fun e w' => (∃ v, e = .returned v ∧ IsBS (fun k => k < w.heap.size) w' v (a - b)) ∧ Fr0 w w' := by
  obtain ⟨Aa, ca, rfl, hca, hRA⟩ := ha
  obtain ⟨Ab, cb, rfl, hcb, hRB⟩ := hb
  have HRA := Lib.hid hRA
  have HRB := Lib.hid hRB
  clear hRA hRB
  obtain ⟨la, hla2⟩ : ∃ l, l = (bd a).length := ⟨_, rfl⟩
  obtain ⟨lb, hlb2⟩ : ∃ l, l = (bd b).length := ⟨_, rfl⟩
  rw [← hla2] at hla hca ⊢
  rw [← hlb2] at hlb hcb ⊢
  have HLA := Lib.hid hla2
  have HLB := Lib.hid hlb2
  have HLE := Lib.hid hle
  clear hla2 hlb2 hle
  go_enter Try.func62, Try.ntmps62
  go_wp2_with fail
  go_loopw [5, 6, 7] (fun s5 s6 s7 wr => ∃ (i cy : Nat) (L : List Nat) (A : Option Addr) (c : Nat), s5 = .slice A i c ∧ s6 = .int .i64 (-(cy : Int)) ∧ s7 = .int .i64 (i : Int) ∧ Hid (L.length = i) ∧ i ≤ la ∧ cy ≤ 1 ∧ Hid (wr.ownsRow w.heap.size 98 1 (.slice A i c) i (u32s L)) ∧ Hid (bv L + b % 65536 ^ i = a % 65536 ^ i + cy * 65536 ^ i) ∧ Hid (∀ x ∈ L, x < 65536) ∧ Hid (Fr0 w wr)) (fun _ _ s7 _ => la - (intOf s7).toNat)
  case atStart => exact ⟨0, 0, [], none, 0, rfl, rfl, rfl, (rfl : ([] : List Nat).length = 0), by omega, by omega, own_nil _ _ _ _, by simp [Hid, bv, Nat.mod_one], fun x hx => by simp at hx, Fr.refl _ _⟩
  case round =>
    obtain ⟨i, cy, L, A, c, rfl, rfl, rfl, hi, him, hcy, HO, HV, HL, HF⟩ := hrel
    by_cases qa : i < la
    · have ha1 : decide ((i : Int) < (la : Int)) = true := decide_eq_true (by omega)
      have ha2 : decide (i < la) = true := decide_eq_true (by omega)
      have ha3 : (i : Int) < (la : Int) := by omega
      have hra := HRA.out.kept HF.out
      obtain ⟨ba, oa, rfl⟩ := hra.some_ (by rw [u32s_length, ← HLA.out]; omega)
      have cella := rd_digit hra i (by rw [← HLA.out]; exact qa)
      rw [bd_get (by rw [← HLA.out]; exact qa)] at cella
      clear hra
      by_cases qb : i < lb <;> by_cases qn : (a / 65536 ^ i % 65536) < cy + b / 65536 ^ i % 65536
      · have hb1 : decide ((i : Int) < (lb : Int)) = true := decide_eq_true (by omega)
        have hb2 : decide (i < lb) = true := decide_eq_true (by omega)
        have hb3 : (i : Int) < (lb : Int) := by omega
        have hrb := HRB.out.kept HF.out
        obtain ⟨bb, ob, rfl⟩ := hrb.some_ (by rw [u32s_length, ← HLB.out]; omega)
        have cellb := rd_digit hrb i (by rw [← HLB.out]; exact qb)
        rw [bd_get (by rw [← HLB.out]; exact qb)] at cellb
        clear hrb
        obtain ⟨x, hx⟩ : ∃ x, x = a / 65536 ^ i % 65536 := ⟨_, rfl⟩
        obtain ⟨y, hy⟩ : ∃ y, y = b / 65536 ^ i % 65536 := ⟨_, rfl⟩
        have hxl : x < 65536 := by rw [hx]; exact Nat.mod_lt _ (by omega)
        have hyl : y < 65536 := by rw [hy]; exact Nat.mod_lt _ (by omega)
        rw [← hx] at cella
        rw [← hy] at cellb
        rw [← hx, ← hy] at qn
        obtain ⟨d, hd⟩ : ∃ d : Nat, d + cy + y = x + 65536 := ⟨x + 65536 - cy - y, by omega⟩
        have HV2 := Lib.hid (sub_digit (d := 1) hi.out HV.out (show d + cy + b / 65536 ^ i % 65536 = a / 65536 ^ i % 65536 + 1 * 65536 by rw [← hx, ← hy]; omega))
        clear hx hy HV
        obtain ⟨u, hu⟩ : ∃ u : Int, u = -(cy : Int) + (x : Int) := ⟨_, rfl⟩
        obtain ⟨v, hv⟩ : ∃ v : Int, v = u - (y : Int) := ⟨_, rfl⟩
        have hur : -9223372036854775808 ≤ u ∧ u ≤ 9223372036854775807 := by omega
        have hvr : -9223372036854775808 ≤ v ∧ v ≤ 9223372036854775807 := by omega
        have hxr : -9223372036854775808 ≤ (x : Int) ∧ (x : Int) ≤ 9223372036854775807 := by omega
        have hyr : -9223372036854775808 ≤ (y : Int) ∧ (y : Int) ≤ 9223372036854775807 := by omega
        have hdr : -9223372036854775808 ≤ (d : Int) ∧ (d : Int) ≤ 9223372036854775807 := by omega
        have s3 : decide (v < 0) = true := decide_eq_true (by omega)
        have s4 : v + 65536 = (d : Int) := by omega
        have s6b : (d : Int) % 4294967296 = (d : Int) := by omega
        have hdl : d < 65536 := by omega
        have HXB := Lib.hid hdl
        have hi1 : (0 : Int) ≤ (i : Int) := by omega
        have wx := w64_id hxr.1 hxr.2
        have wy := w64_id hyr.1 hyr.2
        have s1w : wrap64 (-(cy : Int) + (x : Int)) = u := by rw [← hu]; exact w64_id hur.1 hur.2
        have s2w : wrap64 (u - (y : Int)) = v := by rw [← hv]; exact w64_id hvr.1 hvr.2
        have s4w : wrap64 (v + 65536) = (d : Int) := by rw [s4]; exact w64_id hdr.1 hdr.2
        clear s4
        clear hd hu hv hxl hyl hdl hcy qn hur hvr hxr hyr hdr
        go_wp2_with (first | (at_builtin; refine wpList_app rfl (.tmp 38) (.tmp 41) _ rfl Try.underlying82 u32_elem (base := w.heap.size) (.slice A i c) i (u32s L) rfl (own_kept0 HO.out ((Fr.refl _ wr).alloc _)) (fun _ => False) _ 1 1 (u32s [d]) rfl (rdn_new (fun _ => False) wr (u32s [d]) _ (fun h => h)) rfl (u32s_one _) (by simp only [maxLen]; omega) (by omega) (by have := HF.out.size; simp; omega) (by simp) ?_; intro v6 w6 hown hg hat; obtain ⟨A6, cv6, rfl, hvc6, hvm6⟩ := own_form hown) | fail)
        go_roundw
        case rel =>
          refine ⟨i + 1, 1, L ++ [d], A6, cv6, rfl, by first | rfl | simp, by go_num, by rw [List.length_append, hi.out]; rfl, by omega, by omega, ?_, HV2, lt_push HL.out HXB.out, ?_⟩
          · rw [u32s_append]; exact hown
          · refine (HF.out.alloc _).grown hg (fun k hk e => ?_)
            have := (own_blk HO.out e).1
            omega
        case measure => first | (simp [intOf]; done) | (simp [intOf]; omega)
      · have hb1 : decide ((i : Int) < (lb : Int)) = true := decide_eq_true (by omega)
        have hb2 : decide (i < lb) = true := decide_eq_true (by omega)
        have hb3 : (i : Int) < (lb : Int) := by omega
        have hrb := HRB.out.kept HF.out
        obtain ⟨bb, ob, rfl⟩ := hrb.some_ (by rw [u32s_length, ← HLB.out]; omega)
        have cellb := rd_digit hrb i (by rw [← HLB.out]; exact qb)
        rw [bd_get (by rw [← HLB.out]; exact qb)] at cellb
        clear hrb
        obtain ⟨x, hx⟩ : ∃ x, x = a / 65536 ^ i % 65536 := ⟨_, rfl⟩
        obtain ⟨y, hy⟩ : ∃ y, y = b / 65536 ^ i % 65536 := ⟨_, rfl⟩
        have hxl : x < 65536 := by rw [hx]; exact Nat.mod_lt _ (by omega)
        have hyl : y < 65536 := by rw [hy]; exact Nat.mod_lt _ (by omega)
        rw [← hx] at cella
        rw [← hy] at cellb
        rw [← hx, ← hy] at qn
        obtain ⟨d, hd⟩ : ∃ d : Nat, d + cy + y = x := ⟨x - cy - y, by omega⟩
        have HV2 := Lib.hid (sub_digit (d := 0) hi.out HV.out (show d + cy + b / 65536 ^ i % 65536 = a / 65536 ^ i % 65536 + 0 * 65536 by rw [← hx, ← hy]; omega))
        clear hx hy HV
        obtain ⟨u, hu⟩ : ∃ u : Int, u = -(cy : Int) + (x : Int) := ⟨_, rfl⟩
        obtain ⟨v, hv⟩ : ∃ v : Int, v = u - (y : Int) := ⟨_, rfl⟩
        have hur : -9223372036854775808 ≤ u ∧ u ≤ 9223372036854775807 := by omega
        have hvr : -9223372036854775808 ≤ v ∧ v ≤ 9223372036854775807 := by omega
        have hxr : -9223372036854775808 ≤ (x : Int) ∧ (x : Int) ≤ 9223372036854775807 := by omega
        have hyr : -9223372036854775808 ≤ (y : Int) ∧ (y : Int) ≤ 9223372036854775807 := by omega
        have hdr : -9223372036854775808 ≤ (d : Int) ∧ (d : Int) ≤ 9223372036854775807 := by omega
        have s3 : decide (v < 0) = false := decide_eq_false (by omega)
        have s6b : v % 4294967296 = (d : Int) := by omega
        have hdl : d < 65536 := by omega
        have HXB := Lib.hid hdl
        have hi1 : (0 : Int) ≤ (i : Int) := by omega
        have wx := w64_id hxr.1 hxr.2
        have wy := w64_id hyr.1 hyr.2
        have s1w : wrap64 (-(cy : Int) + (x : Int)) = u := by rw [← hu]; exact w64_id hur.1 hur.2
        have s2w : wrap64 (u - (y : Int)) = v := by rw [← hv]; exact w64_id hvr.1 hvr.2
        clear hd hu hv hxl hyl hdl hcy qn hur hvr hxr hyr hdr
        go_wp2_with (first | (at_builtin; refine wpList_app rfl (.tmp 38) (.tmp 41) _ rfl Try.underlying82 u32_elem (base := w.heap.size) (.slice A i c) i (u32s L) rfl (own_kept0 HO.out ((Fr.refl _ wr).alloc _)) (fun _ => False) _ 1 1 (u32s [d]) rfl (rdn_new (fun _ => False) wr (u32s [d]) _ (fun h => h)) rfl (u32s_one _) (by simp only [maxLen]; omega) (by omega) (by have := HF.out.size; simp; omega) (by simp) ?_; intro v6 w6 hown hg hat; obtain ⟨A6, cv6, rfl, hvc6, hvm6⟩ := own_form hown) | fail)
        go_roundw
        case rel =>
          refine ⟨i + 1, 0, L ++ [d], A6, cv6, rfl, by first | rfl | simp, by go_num, by rw [List.length_append, hi.out]; rfl, by omega, by omega, ?_, HV2, lt_push HL.out HXB.out, ?_⟩
          · rw [u32s_append]; exact hown
          · refine (HF.out.alloc _).grown hg (fun k hk e => ?_)
            have := (own_blk HO.out e).1
            omega
        case measure => first | (simp [intOf]; done) | (simp [intOf]; omega)
      · have hb1 : decide ((i : Int) < (lb : Int)) = false := decide_eq_false (by omega)
        have hb2 : decide (i < lb) = false := decide_eq_false (by omega)
        have zb : b / 65536 ^ i % 65536 = 0 := by rw [Nat.div_eq_of_lt ((bd_len_le b i).1 (by rw [← HLB.out]; omega))]
        obtain ⟨x, hx⟩ : ∃ x, x = a / 65536 ^ i % 65536 := ⟨_, rfl⟩
        obtain ⟨y, hy⟩ : ∃ y, y = b / 65536 ^ i % 65536 := ⟨_, rfl⟩
        have hxl : x < 65536 := by rw [hx]; exact Nat.mod_lt _ (by omega)
        have hyl : y < 65536 := by rw [hy]; exact Nat.mod_lt _ (by omega)
        rw [← hx] at cella
        have hy0 : y = 0 := hy.trans zb
        rw [← hx, ← hy] at qn
        obtain ⟨d, hd⟩ : ∃ d : Nat, d + cy + y = x + 65536 := ⟨x + 65536 - cy - y, by omega⟩
        have HV2 := Lib.hid (sub_digit (d := 1) hi.out HV.out (show d + cy + b / 65536 ^ i % 65536 = a / 65536 ^ i % 65536 + 1 * 65536 by rw [← hx, ← hy]; omega))
        clear hx hy HV zb
        obtain ⟨u, hu⟩ : ∃ u : Int, u = -(cy : Int) + (x : Int) := ⟨_, rfl⟩
        obtain ⟨v, hv⟩ : ∃ v : Int, v = u := ⟨_, rfl⟩
        have hur : -9223372036854775808 ≤ u ∧ u ≤ 9223372036854775807 := by omega
        have hvr : -9223372036854775808 ≤ v ∧ v ≤ 9223372036854775807 := by omega
        have hxr : -9223372036854775808 ≤ (x : Int) ∧ (x : Int) ≤ 9223372036854775807 := by omega
        have hyr : -9223372036854775808 ≤ (y : Int) ∧ (y : Int) ≤ 9223372036854775807 := by omega
        have hdr : -9223372036854775808 ≤ (d : Int) ∧ (d : Int) ≤ 9223372036854775807 := by omega
        have s3 : decide (u < 0) = true := decide_eq_true (by omega)
        have s4 : u + 65536 = (d : Int) := by omega
        have s6b : (d : Int) % 4294967296 = (d : Int) := by omega
        have hdl : d < 65536 := by omega
        have HXB := Lib.hid hdl
        have hi1 : (0 : Int) ≤ (i : Int) := by omega
        have wx := w64_id hxr.1 hxr.2
        have wy := w64_id hyr.1 hyr.2
        have s1w : wrap64 (-(cy : Int) + (x : Int)) = u := by rw [← hu]; exact w64_id hur.1 hur.2
        have s4w : wrap64 (u + 65536) = (d : Int) := by rw [s4]; exact w64_id hdr.1 hdr.2
        clear s4
        clear hd hu hv hxl hyl hdl hcy qn hur hvr hxr hyr hdr hy0
        go_wp2_with (first | (at_builtin; refine wpList_app rfl (.tmp 38) (.tmp 41) _ rfl Try.underlying82 u32_elem (base := w.heap.size) (.slice A i c) i (u32s L) rfl (own_kept0 HO.out ((Fr.refl _ wr).alloc _)) (fun _ => False) _ 1 1 (u32s [d]) rfl (rdn_new (fun _ => False) wr (u32s [d]) _ (fun h => h)) rfl (u32s_one _) (by simp only [maxLen]; omega) (by omega) (by have := HF.out.size; simp; omega) (by simp) ?_; intro v6 w6 hown hg hat; obtain ⟨A6, cv6, rfl, hvc6, hvm6⟩ := own_form hown) | fail)
        go_roundw
        case rel =>
          refine ⟨i + 1, 1, L ++ [d], A6, cv6, rfl, by first | rfl | simp, by go_num, by rw [List.length_append, hi.out]; rfl, by omega, by omega, ?_, HV2, lt_push HL.out HXB.out, ?_⟩
          · rw [u32s_append]; exact hown
          · refine (HF.out.alloc _).grown hg (fun k hk e => ?_)
            have := (own_blk HO.out e).1
            omega
        case measure => first | (simp [intOf]; done) | (simp [intOf]; omega)
      · have hb1 : decide ((i : Int) < (lb : Int)) = false := decide_eq_false (by omega)
        have hb2 : decide (i < lb) = false := decide_eq_false (by omega)
        have zb : b / 65536 ^ i % 65536 = 0 := by rw [Nat.div_eq_of_lt ((bd_len_le b i).1 (by rw [← HLB.out]; omega))]
        obtain ⟨x, hx⟩ : ∃ x, x = a / 65536 ^ i % 65536 := ⟨_, rfl⟩
        obtain ⟨y, hy⟩ : ∃ y, y = b / 65536 ^ i % 65536 := ⟨_, rfl⟩
        have hxl : x < 65536 := by rw [hx]; exact Nat.mod_lt _ (by omega)
        have hyl : y < 65536 := by rw [hy]; exact Nat.mod_lt _ (by omega)
        rw [← hx] at cella
        have hy0 : y = 0 := hy.trans zb
        rw [← hx, ← hy] at qn
        obtain ⟨d, hd⟩ : ∃ d : Nat, d + cy + y = x := ⟨x - cy - y, by omega⟩
        have HV2 := Lib.hid (sub_digit (d := 0) hi.out HV.out (show d + cy + b / 65536 ^ i % 65536 = a / 65536 ^ i % 65536 + 0 * 65536 by rw [← hx, ← hy]; omega))
        clear hx hy HV zb
        obtain ⟨u, hu⟩ : ∃ u : Int, u = -(cy : Int) + (x : Int) := ⟨_, rfl⟩
        obtain ⟨v, hv⟩ : ∃ v : Int, v = u := ⟨_, rfl⟩
        have hur : -9223372036854775808 ≤ u ∧ u ≤ 9223372036854775807 := by omega
        have hvr : -9223372036854775808 ≤ v ∧ v ≤ 9223372036854775807 := by omega
        have hxr : -9223372036854775808 ≤ (x : Int) ∧ (x : Int) ≤ 9223372036854775807 := by omega
        have hyr : -9223372036854775808 ≤ (y : Int) ∧ (y : Int) ≤ 9223372036854775807 := by omega
        have hdr : -9223372036854775808 ≤ (d : Int) ∧ (d : Int) ≤ 9223372036854775807 := by omega
        have s3 : decide (u < 0) = false := decide_eq_false (by omega)
        have s6b : u % 4294967296 = (d : Int) := by omega
        have hdl : d < 65536 := by omega
        have HXB := Lib.hid hdl
        have hi1 : (0 : Int) ≤ (i : Int) := by omega
        have wx := w64_id hxr.1 hxr.2
        have wy := w64_id hyr.1 hyr.2
        have s1w : wrap64 (-(cy : Int) + (x : Int)) = u := by rw [← hu]; exact w64_id hur.1 hur.2
        clear hd hu hv hxl hyl hdl hcy qn hur hvr hxr hyr hdr hy0
        go_wp2_with (first | (at_builtin; refine wpList_app rfl (.tmp 38) (.tmp 41) _ rfl Try.underlying82 u32_elem (base := w.heap.size) (.slice A i c) i (u32s L) rfl (own_kept0 HO.out ((Fr.refl _ wr).alloc _)) (fun _ => False) _ 1 1 (u32s [d]) rfl (rdn_new (fun _ => False) wr (u32s [d]) _ (fun h => h)) rfl (u32s_one _) (by simp only [maxLen]; omega) (by omega) (by have := HF.out.size; simp; omega) (by simp) ?_; intro v6 w6 hown hg hat; obtain ⟨A6, cv6, rfl, hvc6, hvm6⟩ := own_form hown) | fail)
        go_roundw
        case rel =>
          refine ⟨i + 1, 0, L ++ [d], A6, cv6, rfl, by first | rfl | simp, by go_num, by rw [List.length_append, hi.out]; rfl, by omega, by omega, ?_, HV2, lt_push HL.out HXB.out, ?_⟩
          · rw [u32s_append]; exact hown
          · refine (HF.out.alloc _).grown hg (fun k hk e => ?_)
            have := (own_blk HO.out e).1
            omega
        case measure => first | (simp [intOf]; done) | (simp [intOf]; omega)
    · have hil : i = la := by omega
      have ha1 : decide ((i : Int) < (la : Int)) = false := decide_eq_false (by omega)
      have ha2 : decide (i < la) = false := decide_eq_false (by omega)
      have hv : bv L = a - b := by
        have h1 := HV.out
        have h2 : a < 65536 ^ i := (bd_len_le a i).1 (by rw [← HLA.out]; omega)
        have h3 := bv_lt L HL.out
        rw [hi.out] at h3
        have h4 := HLE.out
        rw [Nat.mod_eq_of_lt h2, Nat.mod_eq_of_lt (by omega)] at h1
        rcases Nat.lt_or_ge cy 1 with h5 | h5
        · have : cy = 0 := by omega
          subst this
          omega
        · have : cy = 1 := by omega
          subst this
          omega
      have hown5 := HO.out
      rw [← hi.out] at hown5
      obtain ⟨A5, c5, e5, h5, hR5⟩ := isD_ownS hown5
      cases e5
      have HT := Lib.hid (rtrim_calls A c L wr hR5 h5 HL.out (by rw [hi.out]; omega))
      rw [hi.out, hv] at HT
      clear hv HV hR5 hown5 h5 hcy hil qa
      go_wp2_with (first | (go_at_call 63; refine HT.out.mono ?_; rintro _ w5 ⟨⟨v5, rfl, hb5⟩, hf5⟩) | fail)
      go_ret
      exact ⟨⟨_, rfl, hb5⟩, HF.out.trans hf5⟩
end Go.Proofs.Ytjldogfpccbkeaa

/- Plain: division bit by bit over digits to the base 65536. -/
set_option linter.unusedVariables false
set_option linter.unusedSimpArgs false
namespace Go.Proofs.Ytjldogfpccbkeaa

theorem pow_split (k : Nat) : 65536 ^ (k / 16) * 2 ^ (k % 16) = 2 ^ k := by
  have : (65536 : Nat) = 2 ^ 16 := rfl
  rw [this, ← Nat.pow_mul, ← Nat.pow_add, Nat.div_add_mod]
theorem bit_at (a k : Nat) : a / 65536 ^ (k / 16) % 65536 / 2 ^ (k % 16) % 2 = a / 2 ^ k % 2 := by
  have ht : k % 16 < 16 := Nat.mod_lt _ (by omega)
  have e : (65536 : Nat) = 2 ^ (k % 16) * 2 ^ (16 - k % 16) := by
    rw [← Nat.pow_add, show k % 16 + (16 - k % 16) = 16 by omega]
  have e2 : 2 ∣ 2 ^ (16 - k % 16) := by
    rw [show 16 - k % 16 = (15 - k % 16) + 1 by omega, Nat.pow_succ]
    exact Nat.dvd_mul_left _ _
  generalize hy : a / 65536 ^ (k / 16) = y
  have h1 : y % 65536 / 2 ^ (k % 16) = y / 2 ^ (k % 16) % 2 ^ (16 - k % 16) := by
    conv => lhs; rw [e]
    exact Nat.mod_mul_right_div_self _ _ _
  rw [h1, Nat.mod_mod_of_dvd _ e2, ← hy, Nat.div_div_eq_div_mul, pow_split]
theorem half_step (a k : Nat) : a / 2 ^ k = 2 * (a / 2 ^ (k + 1)) + a / 2 ^ k % 2 := by
  rw [Nat.pow_succ, ← Nat.div_div_eq_div_mul]
  have := Nat.div_add_mod (a / 2 ^ k) 2
  omega
theorem div_step {x y b bit : Nat} (hb : 0 < b) (h : x = 2 * y + bit) (hbit : bit < 2) :
    (2 * (y % b) + bit < b → x % b = 2 * (y % b) + bit ∧ x / b = 2 * (y / b)) ∧ (b ≤ 2 * (y % b) + bit → x % b = 2 * (y % b) + bit - b ∧ x / b = 2 * (y / b) + 1) := by
  have h1 := Nat.div_add_mod y b
  have h2 := Nat.mod_lt y hb
  generalize hq : y / b = q at *
  generalize hr : y % b = r at *
  constructor
  · intro h3
    have e : x = b * (2 * q) + (2 * r + bit) := by rw [h, ← h1, Nat.mul_add, Nat.mul_left_comm]; omega
    exact ⟨by rw [e, Nat.mul_add_mod, Nat.mod_eq_of_lt h3], by rw [e, Nat.mul_add_div hb, Nat.div_eq_of_lt h3]; rfl⟩
  · intro h3
    have e : x = b * (2 * q + 1) + (2 * r + bit - b) := by rw [h, ← h1, Nat.mul_add, Nat.mul_add b, Nat.mul_left_comm]; omega
    exact ⟨by rw [e, Nat.mul_add_mod, Nat.mod_eq_of_lt (by omega)], by rw [e, Nat.mul_add_div hb, Nat.div_eq_of_lt (by omega)]⟩
theorem bv_get : ∀ (l : List Nat) (j : Nat) (hj : j < l.length), (∀ x ∈ l, x < 65536) → l[j] = bv l / 65536 ^ j % 65536
  | x :: l, 0, _, h => by
    have := h x (List.mem_cons_self ..)
    simp [bv]; omega
  | x :: l, j + 1, hj, h => by
    have h1 := h x (List.mem_cons_self ..)
    have ih := bv_get l j (by simpa using hj) (fun y hy => h y (List.mem_cons_of_mem _ hy))
    rw [List.getElem_cons_succ, ih, bv, Nat.pow_succ, Nat.mul_comm (65536 ^ j), ← Nat.div_div_eq_div_mul, show (x + 65536 * bv l) / 65536 = bv l by omega]
theorem bv_set : ∀ (l : List Nat) (j x : Nat) (hj : j < l.length), bv (l.set j (l[j] + x)) = bv l + x * 65536 ^ j
  | y :: l, 0, x, _ => by simp [bv]; omega
  | y :: l, j + 1, x, hj => by
    rw [List.set_cons_succ, List.getElem_cons_succ, bv, bv, bv_set l j x (by simpa using hj), Nat.pow_succ, Nat.mul_add, Nat.mul_comm x (65536 ^ j * 65536), Nat.mul_comm (65536 ^ j) 65536, Nat.mul_assoc, Nat.mul_comm (65536 ^ j) x]
    omega
/-- One bit more of the quotient. -/
theorem quo_bit {Q : List Nat} {q k : Nat} (hQ : ∀ x ∈ Q, x < 65536) (hv : bv Q = 2 ^ (k + 1) * q) (hj : k / 16 < Q.length) :
    Q[k / 16] + 2 ^ (k % 16) < 65536 ∧ bv (Q.set (k / 16) (Q[k / 16] + 2 ^ (k % 16))) = 2 ^ k * (2 * q + 1) := by
  have ht : k % 16 < 16 := Nat.mod_lt _ (by omega)
  have hs := pow_split k
  constructor
  · rw [bv_get Q _ hj hQ, hv, Nat.pow_succ, ← hs, Nat.mul_assoc, Nat.mul_assoc, Nat.mul_div_cancel_left _ (Nat.pow_pos (by omega))]
    have e : (65536 : Nat) = 2 ^ (k % 16) * 2 * 2 ^ (15 - k % 16) := by
      rw [← Nat.pow_succ, ← Nat.pow_add, show (k % 16).succ + (15 - k % 16) = 16 by omega]
    have h1 : 2 ^ (k % 16) * (2 * q) % 65536 = 2 ^ (k % 16) * 2 * (q % 2 ^ (15 - k % 16)) := by
      conv => lhs; rw [e]
      rw [← Nat.mul_assoc, Nat.mul_mod_mul_left]
    rw [h1]
    have h2 : q % 2 ^ (15 - k % 16) + 1 ≤ 2 ^ (15 - k % 16) := Nat.mod_lt _ (Nat.pow_pos (by omega))
    have h3 := Nat.mul_le_mul_left (2 ^ (k % 16) * 2) h2
    rw [← e, Nat.mul_add, Nat.mul_one] at h3
    have h4 : 0 < 2 ^ (k % 16) := Nat.pow_pos (by omega)
    generalize 2 ^ (k % 16) * 2 * (q % 2 ^ (15 - k % 16)) = z at *
    omega
  · rw [bv_set, hv, Nat.pow_succ, Nat.mul_comm (2 ^ (k % 16)), hs, Nat.mul_assoc, Nat.mul_add, Nat.mul_one]
theorem set_lt {Q : List Nat} {j x : Nat} (hQ : ∀ y ∈ Q, y < 65536) (hx : x < 65536) : ∀ y ∈ Q.set j x, y < 65536 := by
  intro y hy
  rcases List.mem_or_eq_of_mem_set hy with h | h
  · exact hQ y h
  · rw [h]; exact hx
theorem bv_zeros : ∀ n, bv (List.replicate n 0) = 0
  | 0 => rfl
  | n + 1 => by rw [List.replicate_succ, bv, bv_zeros n]
theorem pow16 (n : Nat) : (65536 : Nat) ^ n = 2 ^ (16 * n) := by
  have : (65536 : Nat) = 2 ^ 16 := rfl
  rw [this, ← Nat.pow_mul]
end Go.Proofs.Ytjldogfpccbkeaa

/- Chapter 01, the document: Div. -/
set_option linter.unusedVariables false
set_option linter.unusedSimpArgs false
namespace Go.Proofs.Ytjldogfpccbkeaa
open Go.RowKit
attribute [local go_sem] Oper.semAt_some

theorem u32s_zeros (n : Nat) : List.replicate n (Value.int .u32 0) = u32s (List.replicate n 0) := by simp [u32s]
theorem len_mono {n m : Nat} (h : n ≤ m) : (bd n).length ≤ (bd m).length := (bd_len_le n _).2 (Nat.lt_of_le_of_lt h (bd_lt_len m))
theorem len_double {n b : Nat} (h : n < 2 * b + 2) (hb : 0 < b) : (bd n).length ≤ (bd b).length + 1 := by
  refine (bd_len_le n _).2 ?_
  have := bd_lt_len b
  rw [Nat.pow_succ]
  omega
set_option maxHeartbeats 4000000 in
set_option maxRecDepth 20000 in
theorem bdiv_calls (a b : Nat) (va vb : Value) (w : World) (hb0 : 0 < b) (ha : IsB w va a) (hb : IsB w vb b) (hla : (bd a).length ≤ 400) (hlb : (bd b).length ≤ 400) :
    Calls Try.prog 76 #[va, vb] w fun e w' => (∃ v1 v2, e = .returned (.tuple #[v1, v2]) ∧ IsB w' v1 (a / b) ∧ IsB w' v2 (a % b)) ∧ Fr0 w w' := by
  have hmx : Try.prog.follows .mixedOrders = true := by kernel_rfl
  have HVB := Lib.hid hb
  have HLB := Lib.hid hlb
  obtain ⟨Aa, ca, rfl, hca, hRA⟩ := ha
  have HRA := Lib.hid hRA
  clear hRA hb hlb
  obtain ⟨la, hla2⟩ : ∃ l, l = (bd a).length := ⟨_, rfl⟩
  rw [← hla2] at hla hca ⊢
  have HLA := Lib.hid hla2
  clear hla2
  obtain ⟨iz, z, hi, hz, hsz, hby, hzs⟩ : ∃ i z, Try.prog.info? 98 = some i ∧ i.zero = some z ∧ i.size = 1 ∧ i.bytes = 4 ∧ z = .int .u32 0 := ⟨_, _, rfl, rfl, rfl, rfl, rfl⟩
  obtain ⟨w2, hrun, hown, hgr⟩ := run_make_full (P := Try.prog) w w.heap.size 82 98 iz z 1 Try.underlying82 hi hz hsz .i64 .i64 la (by rw [hby]; omega) (by simp only [maxLen]; omega) (Nat.le_refl _)
  have HOQ : Hid (w2.ownsRow w.heap.size 98 1 (.slice (some ⟨w.heap.size, 0, none⟩) la la) la (u32s (List.replicate la 0))) := by
    rw [← u32s_zeros]
    have e : (madeCells z.cells (la * 1)).toList = List.replicate la (Value.int .u32 0) := by
      rw [hzs]
      refine List.ext_getElem (by simp [madeCells]) (fun i h1 h2 => ?_)
      simp [madeCells, Value.cells, Nat.mod_one]
    rw [e] at hown
    exact hown
  have HF2 := Lib.hid ((Fr.refl (fun _ => False) w).grown hgr (by simp))
  clear hown hgr hi hz hsz hby hzs
  have hw1 : wrap64 (16 * (la : Int)) = ((16 * la : Nat) : Int) := by rw [w64_id (by omega) (by omega)]; simp
  have hw2 : wrap64 (((16 * la : Nat) : Int) - 1) = ((16 * la : Nat) : Int) - 1 := w64_id (by omega) (by omega)
  obtain ⟨l16, hl16⟩ : ∃ l, l = 16 * la := ⟨_, rfl⟩
  rw [← hl16] at hw1 hw2
  have HL16 := Lib.hid hl16
  clear hl16
  go_enter Try.func76, Try.ntmps76
  go_wp2_with fail
  go_loopw [7, 8] (fun s7 s8 wr => ∃ (k R : Nat) (Q : List Nat), k ≤ l16 ∧ s8 = .int .i64 ((k : Int) - 1) ∧ Hid (IsBS (fun k => k = w.heap.size) wr s7 R) ∧ Hid (R = a / 2 ^ k % b) ∧ Hid (wr.ownsRow w.heap.size 98 1 (.slice (some ⟨w.heap.size, 0, none⟩) la la) la (u32s Q)) ∧ Hid (Q.length = la) ∧ Hid (∀ x ∈ Q, x < 65536) ∧ Hid (bv Q = 2 ^ k * (a / 2 ^ k / b)) ∧ Hid (Fr0 w wr)) (fun _ s8 _ => (intOf s8 + 1).toNat)
  case atStart =>
    have hz : a / 2 ^ l16 = 0 := Nat.div_eq_of_lt (by rw [HL16.out, ← pow16]; exact (bd_len_le a la).1 (by rw [← HLA.out]; omega))
    refine ⟨l16, 0, List.replicate la 0, Nat.le_refl _, congrArg (Value.int .i64) (by have := HL16.out; omega), ?_, ?_, HOQ, List.length_replicate .., fun x hx => ?_, ?_, HF2⟩
    · exact isBS_zero _ _ _ _
    · show 0 = a / 2 ^ l16 % b
      rw [hz, Nat.zero_mod]
    · rw [List.eq_of_mem_replicate hx]; omega
    · show bv _ = 2 ^ l16 * (a / 2 ^ l16 / b)
      rw [hz, Nat.zero_div, Nat.mul_zero, bv_zeros]
  case round =>
    obtain ⟨k, R, Q, hk, rfl, HR, HRE, HQ, HQL, HQD, HQV, HF⟩ := hrel
    rcases k with _ | k
    · have hr1 : R = a % b := by have := HRE.out; simpa using this
      have hq1 : bv Q = a / b := by have := HQV.out; simpa using this
      subst hr1
      have hown5 := HQ.out
      rw [← HQL.out] at hown5
      obtain ⟨A5, c5, e5, h5, hR5⟩ := isD_own hown5
      cases e5
      have HT := Lib.hid (rtrim_calls (some ⟨w.heap.size, 0, none⟩) Q.length Q wr hR5 h5 HQD.out (by rw [HQL.out]; omega))
      rw [HQL.out, hq1] at HT
      clear hown5 h5 hR5 hq1 HQV HRE
      go_wp2_with (first | (go_at_call 63; refine HT.out.mono ?_; rintro _ w5 ⟨⟨v5, rfl, hb5⟩, hf5⟩) | fail)
      go_ret2
      exact ⟨⟨_, _, rfl, hb5, HR.out.weak.kept hf5⟩, HF.out.trans hf5⟩
    · have hra := HRA.out.kept HF.out
      have hj : k / 16 < la := by have := HL16.out; omega
      obtain ⟨ba, oa, rfl⟩ := hra.some_ (by rw [u32s_length, ← HLA.out]; omega)
      have cella := rd_digit hra (k / 16) (by rw [← HLA.out]; exact hj)
      rw [bd_get (by rw [← HLA.out]; exact hj)] at cella
      have HBIT := Lib.hid (bit_at a k)
      have hxl : a / 65536 ^ (k / 16) % 65536 < 65536 := Nat.mod_lt _ (by omega)
      obtain ⟨x, hx⟩ : ∃ x, x = a / 65536 ^ (k / 16) % 65536 := ⟨_, rfl⟩
      rw [← hx] at cella HBIT hxl
      have e1 : ((k + 1 : Nat) : Int) - 1 = (k : Int) := by omega
      rw [e1]
      have ht16 : k % 16 < 16 := Nat.mod_lt _ (by omega)
      have hsh : (x : Int) / (2 : Int) ^ (k % 16) = ((x / 2 ^ (k % 16) : Nat) : Int) := by simp
      have hxs : x / 2 ^ (k % 16) ≤ x := Nat.div_le_self _ _
      have hqq : (k : Int).tdiv 16 = ((k / 16 : Nat) : Int) := quoN rfl
      have hqr : (k : Int).tmod 16 = ((k % 16 : Nat) : Int) := remN rfl
      have HQB := Lib.hid (quo_bit (k := k) (q := a / 2 ^ (k + 1) / b) HQD.out HQV.out (by rw [HQL.out]; exact hj))
      have HHS := Lib.hid (half_step a k)
      obtain ⟨j, hjj⟩ : ∃ j, j = k / 16 := ⟨_, rfl⟩
      obtain ⟨t, htt⟩ : ∃ j, j = k % 16 := ⟨_, rfl⟩
      rw [← hjj] at hj cella hqq
      rw [← htt] at hsh hxs hqr ht16
      rw [← htt] at HBIT
      obtain ⟨x1, hx1⟩ : ∃ y, y = x / 2 ^ t := ⟨_, rfl⟩
      rw [← hx1] at hsh hxs HBIT
      obtain ⟨pw, hpw⟩ : ∃ y, y = 2 ^ t := ⟨_, rfl⟩
      have hp1 : (2 : Int) ^ t = (pw : Int) := by rw [hpw]; simp
      rw [hp1] at hsh
      have HPW := Lib.hid hpw
      clear hpw
      have hbr : (x1 : Int).tmod 2 = ((x1 % 2 : Nat) : Int) := remN rfl
      have hbl : x1 % 2 < 2 := Nat.mod_lt _ (by omega)
      obtain ⟨bit, hbit⟩ : ∃ y, y = x1 % 2 := ⟨_, rfl⟩
      rw [← hbit] at hbr hbl HBIT
      have hb32 : (bit : Int) % 4294967296 = (bit : Int) := by omega
      have hb64 : IntKind.u64.wrap (bit : Int) = (bit : Int) := by rw [IntKind.wrap_u64]; omega
      have hi1 : (0 : Int) ≤ (j : Int) := by omega
      have hi2 : (j : Int) < (la : Int) := by omega
      have hi3 : (0 : Int) ≤ (k : Int) := by omega
      have hd1 : decide ((0 : Int) ≤ (k : Int)) = true := decide_eq_true hi3
      have ht0 : (0 : Int) ≤ (t : Int) := by omega
      have HJ := Lib.hid hjj
      have HT := Lib.hid htt
      clear hra hx hx1 hbit hjj htt hxs e1
      have hwk : wrap64 ((k : Int) - 1) = (k : Int) - 1 := w64_id (by omega) (by have := HL16.out; omega)
      have hRb : R < b := by rw [HRE.out]; exact Nat.mod_lt _ hb0
      have hdv := div_step hb0 (HHS.out) (by rw [← HBIT.out]; exact hbl)
      rw [← HRE.out, ← HBIT.out] at hdv
      have l1 : (bd R).length ≤ 1000 := by have := len_mono (Nat.le_of_lt hRb); have := HLB.out; omega
      have l2 : (bd (R + R)).length ≤ 1000 := by have := len_double (n := R + R) (by omega) hb0; have := HLB.out; omega
      have l3 : (bd bit).length ≤ 1000 := by have := len_mono (n := bit) (m := 2 * b) (by omega); have := len_double (n := 2 * b) (by omega) hb0; have := HLB.out; omega
      have l4 : (bd (R + R + bit)).length ≤ 1000 := by have := len_double (n := R + R + bit) (by omega) hb0; have := HLB.out; omega
      have l5 : (bd b).length ≤ 1000 := by have := HLB.out; omega
      have hgs : w.heap.size < wr.heap.size := by
        obtain ⟨cs, h⟩ := (own_blk HQ.out (k := w.heap.size) rfl).2
        exact (Array.getElem?_eq_some_iff.1 h).1
      have HGS := Lib.hid hgs
      clear hgs
      have HLN := Lib.hid (And.intro l1 (And.intro l2 (And.intro l3 (And.intro l4 l5))))
      have hb64l : bit < 18446744073709551616 := by omega
      have HDV := Lib.hid hdv
      have HKK := Lib.hid (show 2 ^ (k + 1) * (a / 2 ^ (k + 1) / b) = 2 ^ k * (2 * (a / 2 ^ (k + 1) / b)) by rw [Nat.pow_succ, Nat.mul_assoc])
      clear l1 l2 l3 l4 l5 hdv HHS HBIT
      by_cases hc : R + R + bit < b
      · have HREL : Hid (R + R + bit = a / 2 ^ k % b ∧ bv Q = 2 ^ k * (a / 2 ^ k / b)) := by
          obtain ⟨h1, h2⟩ := HDV.out.1 (by omega)
          refine ⟨by rw [h1]; omega, by rw [HQV.out, h2, HKK.out]⟩
        have hcd := decide_eq_true hc
        clear HDV HQB HKK HQV HRE
        have HC := Lib.hid hcd
        clear hcd hc hRb
        go_wp2_with (first
          | (go_at_call 61; (with_reducible refine (badd_calls R R _ _ _ HR.out.weak HR.out.weak HLN.out.1 HLN.out.1).mono ?_); rintro _ w5 ⟨⟨v1, rfl, hv1⟩, hf5⟩)
          | (go_at_call 47; (with_reducible refine (rof_calls bit hb64l _).mono ?_); rintro _ w6 ⟨⟨v2, rfl, hv2⟩, hf6⟩)
          | (go_at_call 61; (with_reducible refine (badd_calls (R + R) bit _ _ _ (hv1.weak.kept hf6) hv2 HLN.out.2.1 HLN.out.2.2.1).mono ?_); rintro _ w7 ⟨⟨v3, rfl, hv3⟩, hf7⟩; have hvb := ((HVB.out.kept (HF.out)).kept ((hf5.trans hf6).trans hf7)))
          | (go_at_call 49; (with_reducible refine (bless_calls (R + R + bit) b _ _ _ hv3.weak hvb HLN.out.2.2.2.1 HLN.out.2.2.2.2).mono ?_); rintro _ w8 ⟨he8, hf8⟩; rw [HC.out] at he8; subst he8)
          | fail)
        go_roundw
        case rel =>
          have hft := ((hf5.trans hf6).trans hf7).trans hf8
          exact ⟨k, R + R + bit, Q, by omega, rfl, (hv3.mono (fun k _ h => by have h0 := HGS.out; have h1 := hf5.size; have h2 := hf6.size; omega)).kept0 hf8, HREL.out.1, own_kept0 HQ.out hft, HQL, HQD, HREL.out.2, HF.out.trans hft⟩
        case measure => first | (simp [intOf]; done) | (simp [intOf]; omega)
      · have HREL : Hid (R + R + bit - b = a / 2 ^ k % b ∧ a / 2 ^ k / b = 2 * (a / 2 ^ (k + 1) / b) + 1) := by
          obtain ⟨h1, h2⟩ := HDV.out.2 (by omega)
          exact ⟨by rw [h1]; omega, h2⟩
        have hcd := decide_eq_false hc
        have hle : b ≤ R + R + bit := by omega
        clear HDV HKK HQV HRE
        have HC := Lib.hid hcd
        have hjq : j < Q.length := by rw [HQL.out]; exact hj
        obtain ⟨xq, hxq⟩ : ∃ y, y = Q[j] := ⟨_, rfl⟩
        have HQB2 : Hid (xq + 2 ^ t < 65536 ∧ bv (Q.set j (xq + 2 ^ t)) = 2 ^ k * (2 * (a / 2 ^ (k + 1) / b) + 1)) := by
          have h1 := HJ.out; have h2 := HT.out
          subst h1 h2
          rw [hxq]
          exact HQB.out
        rw [← HPW.out] at HQB2
        have hp2 := HQB2.out.1
        have hp3 : (pw : Int) % 4294967296 = (pw : Int) := by omega
        obtain ⟨ns, hns⟩ : ∃ y, y = xq + pw := ⟨_, rfl⟩
        rw [← hns] at HQB2
        have hp4 : ((xq : Int) + (pw : Int)) % 4294967296 = (ns : Int) := by omega
        have HXQ := Lib.hid hxq
        clear hcd hc hRb HQB hxq hns hp2
        have hkq : ∀ U, Fr0 wr U → Hid (U.ownsRow w.heap.size 98 1 (.slice (some ⟨w.heap.size, 0, none⟩) la la) la (u32s Q)) := fun U hU => own_kept0 HQ.out hU
        go_upto_region 10 with (first
          | (go_at_call 61; (with_reducible refine (badd_calls R R _ _ _ HR.out.weak HR.out.weak HLN.out.1 HLN.out.1).mono ?_); rintro _ w5 ⟨⟨v1, rfl, hv1⟩, hf5⟩)
          | (go_at_call 47; (with_reducible refine (rof_calls bit hb64l _).mono ?_); rintro _ w6 ⟨⟨v2, rfl, hv2⟩, hf6⟩)
          | (go_at_call 61; (with_reducible refine (badd_calls (R + R) bit _ _ _ (hv1.weak.kept hf6) hv2 HLN.out.2.1 HLN.out.2.2.1).mono ?_); rintro _ w7 ⟨⟨v3, rfl, hv3⟩, hf7⟩; have hvb := ((HVB.out.kept (HF.out)).kept ((hf5.trans hf6).trans hf7)))
          | (go_at_call 49; (with_reducible refine (bless_calls (R + R + bit) b _ _ _ hv3.weak hvb HLN.out.2.2.2.1 HLN.out.2.2.2.2).mono ?_); rintro _ w8 ⟨he8, hf8⟩; rw [HC.out] at he8; subst he8)
          | (go_at_call 62; (with_reducible refine (bsub_calls (R + R + bit) b _ _ _ hle (hv3.weak.kept hf8) (hvb.kept hf8) HLN.out.2.2.2.1 HLN.out.2.2.2.2).mono ?_); rintro _ w9 ⟨⟨v4, rfl, hv4⟩, hf9⟩)
          | fail)
        have hft := Lib.hid ((((hf5.trans hf6).trans hf7).trans hf8).trans hf9)
        have HQ9 := hkq _ hft.out
        obtain ⟨cq, hcq, hxs⟩ := own_some HQ9.out j hj
        have hcq2 : cq = .int .u32 (xq : Int) := by
          rw [show (u32s Q)[j]? = some (.int .u32 (xq : Int)) by rw [HXQ.out]; simp [u32s, hjq]] at hxs
          exact (Option.some.inj hxs).symm
        subst hcq2
        obtain ⟨cs9, hb9⟩ := (own_blk HQ9.out (k := w.heap.size) rfl).2
        have hfz : w9.frozen? ⟨w.heap.size, j, none⟩ = false := free_of_blk hb9 j
        have hcq0 : w9.cell? ⟨w.heap.size, 0 + j, none⟩ = some (.int .u32 (xq : Int)) := by rw [Nat.zero_add]; exact hcq
        have hfz0 : w9.frozen? ⟨w.heap.size, 0 + j, none⟩ = false := by rw [Nat.zero_add]; exact hfz
        have HV4 := Lib.hid (hv4.mono (T := fun k => k = w.heap.size) (fun k _ h => by have h0 := HGS.out; have h1 := hf5.size; have h2 := hf6.size; have h3 := hf7.size; have h4 := hf8.size; omega))
        clear hb9 hxs hkq hv1 hv2 hv3 hvb hf5 hf6 hf7 hf8 hf9 hv4
        go_region
        go_wp2_with fail
        go_roundw
        case rel =>
          have hso := own_kept0 (own_set HQ9.out j (.int .u32 (ns : Int))) (Fr.refl (fun _ => False) _).drew
          rw [show (u32s Q).set j (.int .u32 (ns : Int)) = u32s (Q.set j ns) by simp [u32s, List.map_set]] at hso
          have hsf : Fr (fun k => k = w.heap.size) w9 (w9.setCell ⟨w.heap.size, j, none⟩ (.int .u32 (ns : Int))).drew := Fr.drew (Fr.setCell (S := fun k => k = w.heap.size) (Fr.refl _ w9) (p := ⟨w.heap.size, j, none⟩) (fun _ => rfl) _)
          refine ⟨k, R + R + bit - b, Q.set j ns, by omega, rfl, HV4.out.kept hsf, HREL.out.1, hso, by rw [List.length_set]; exact HQL.out, set_lt HQD.out HQB2.out.1, by rw [HREL.out.2]; exact HQB2.out.2, ?_⟩
          exact (((HF.out.trans hft.out).setCell (fun h => by simp at h) _)).drew
        case measure => first | (simp [intOf]; done) | (simp [intOf]; omega)
end Go.Proofs.Ytjldogfpccbkeaa

/- Chapter 01, the document: products of digits, plain. -/
namespace Go.Proofs.Ytjldogfpccbkeaa

theorem bv_put : ∀ (l : List Nat) (j v : Nat) (hj : j < l.length), bv (l.set j v) + l[j] * 65536 ^ j = bv l + v * 65536 ^ j
  | y :: l, 0, v, _ => by simp [bv]; omega
  | y :: l, j + 1, v, hj => by
    have ih := bv_put l j v (by simpa using hj)
    rw [List.set_cons_succ, List.getElem_cons_succ, bv, bv, Nat.pow_succ, ← Nat.mul_assoc, ← Nat.mul_assoc]
    omega
/-- One digit of a product: what is carried, what stands there, what is added. -/
theorem mul_step {L : List Nat} {j c z T : Nat} (hj : j < L.length) (h : bv L + c * 65536 ^ j = T) :
    bv (L.set j ((c + L[j] + z) % 65536)) + (c + L[j] + z) / 65536 * 65536 ^ (j + 1) = T + z * 65536 ^ j := by
  have h1 := bv_put L j ((c + L[j] + z) % 65536) hj
  have h2 : (c + L[j] + z) / 65536 * 65536 ^ (j + 1) + (c + L[j] + z) % 65536 * 65536 ^ j = (c + L[j] + z) * 65536 ^ j := by
    rw [Nat.pow_succ, Nat.mul_comm (65536 ^ j), ← Nat.mul_assoc, ← Nat.add_mul]
    congr 1
    omega
  rw [Nat.add_mul, Nat.add_mul] at h2
  omega
/-- Where something is carried, the row goes on. -/
theorem mul_room {L : List Nat} {a b c i k lb : Nat} (hb : b < 65536 ^ lb) (hc : 0 < c) (h : bv L + c * 65536 ^ (i + k) = a % 65536 ^ i * b + a / 65536 ^ i % 65536 * (b % 65536 ^ k) * 65536 ^ i) : k ≤ lb := by
  have h1 : a % 65536 ^ i * b + a / 65536 ^ i % 65536 * (b % 65536 ^ k) * 65536 ^ i ≤ a % 65536 ^ (i + 1) * b := by
    rw [mod_succ, Nat.add_mul]
    have := Nat.mul_le_mul_left (a / 65536 ^ i % 65536 * 65536 ^ i) (Nat.mod_le b (65536 ^ k))
    rw [Nat.mul_right_comm, Nat.mul_comm (65536 ^ i)]
    omega
  have h2 : a % 65536 ^ (i + 1) * b < 65536 ^ (i + 1) * 65536 ^ lb :=
    Nat.lt_of_le_of_lt (Nat.mul_le_mul_right _ (Nat.le_of_lt (Nat.mod_lt _ (Nat.pow_pos (by omega))))) (Nat.mul_lt_mul_of_pos_left hb (Nat.pow_pos (by omega)))
  have h3 : 1 * 65536 ^ (i + k) ≤ c * 65536 ^ (i + k) := Nat.mul_le_mul_right _ hc
  rw [← Nat.pow_add] at h2
  have h4 : 65536 ^ (i + k) < 65536 ^ (i + 1 + lb) := by omega
  have := (Nat.pow_lt_pow_iff_right (show 1 < 65536 by omega)).1 h4
  omega
theorem mul_next {a b i k T : Nat} (h : T = a % 65536 ^ i * b + a / 65536 ^ i % 65536 * (b % 65536 ^ k) * 65536 ^ i) :
    T + a / 65536 ^ i % 65536 * (b / 65536 ^ k % 65536) * 65536 ^ (i + k) = a % 65536 ^ i * b + a / 65536 ^ i % 65536 * (b % 65536 ^ (k + 1)) * 65536 ^ i := by
  rw [mod_succ b k, h, Nat.mul_add, Nat.add_mul, Nat.pow_add, Nat.add_assoc]
  congr 2
  simp only [Nat.mul_assoc, Nat.mul_comm, Nat.mul_left_comm]
theorem mul_over {a b i k T : Nat} (hb : b < 65536 ^ k) (h : T = a % 65536 ^ i * b + a / 65536 ^ i % 65536 * (b % 65536 ^ k) * 65536 ^ i) :
    T = a % 65536 ^ i * b + a / 65536 ^ i % 65536 * (b % 65536 ^ (k + 1)) * 65536 ^ i := by
  rw [Nat.mod_eq_of_lt hb] at h
  rw [Nat.mod_eq_of_lt (Nat.lt_of_lt_of_le hb (Nat.pow_le_pow_right (by omega) (by omega)))]
  exact h
theorem mul_row {a b i k : Nat} (hb : b < 65536 ^ k) : a % 65536 ^ i * b + a / 65536 ^ i % 65536 * (b % 65536 ^ k) * 65536 ^ i = a % 65536 ^ (i + 1) * b := by
  rw [Nat.mod_eq_of_lt hb, mod_succ, Nat.add_mul, Nat.mul_comm (65536 ^ i), Nat.mul_right_comm]
end Go.Proofs.Ytjldogfpccbkeaa

/- Chapter 01, the document: Mul. -/
set_option linter.unusedVariables false
set_option linter.unusedSimpArgs false
namespace Go.Proofs.Ytjldogfpccbkeaa
open Go.RowKit
attribute [local go_sem] Oper.semAt_some

set_option maxHeartbeats 4000000 in
set_option maxRecDepth 20000 in
theorem bmul_calls (a b : Nat) (va vb : Value) (w : World) (ha : IsB w va a) (hb : IsB w vb b) (hla : (bd a).length ≤ 400) (hlb : (bd b).length ≤ 400) :
    Calls Try.prog 46 #[va, vb] w fun e w' => (∃ v, e = .returned v ∧ IsBS (fun k => k < w.heap.size) w' v (a * b)) ∧ Fr0 w w' := by
  have hmx : Try.prog.follows .mixedOrders = true := by kernel_rfl
  obtain ⟨Aa, ca, rfl, hca, hRA⟩ := ha
  obtain ⟨Ab, cb, rfl, hcb, hRB⟩ := hb
  have HRA := Lib.hid hRA
  have HRB := Lib.hid hRB
  clear hRA hRB
  obtain ⟨la, hla2⟩ : ∃ l, l = (bd a).length := ⟨_, rfl⟩
  obtain ⟨lb, hlb2⟩ : ∃ l, l = (bd b).length := ⟨_, rfl⟩
  rw [← hla2] at hla hca ⊢
  rw [← hlb2] at hlb hcb ⊢
  have HLA := Lib.hid hla2
  have HLB := Lib.hid hlb2
  clear hla2 hlb2
  obtain ⟨n, hn⟩ : ∃ n, n = la + lb := ⟨_, rfl⟩
  obtain ⟨iz, z, hi, hz, hsz, hby, hzs⟩ : ∃ i z, Try.prog.info? 98 = some i ∧ i.zero = some z ∧ i.size = 1 ∧ i.bytes = 4 ∧ z = .int .u32 0 := ⟨_, _, rfl, rfl, rfl, rfl, rfl⟩
  obtain ⟨w2, hrun, hown, hgr⟩ := run_make_full (P := Try.prog) w w.heap.size 82 98 iz z 1 Try.underlying82 hi hz hsz .i64 .i64 n (by rw [hby]; omega) (by simp only [maxLen]; omega) (Nat.le_refl _)
  have HOQ : Hid (w2.ownsRow w.heap.size 98 1 (.slice (some ⟨w.heap.size, 0, none⟩) n n) n (u32s (List.replicate n 0))) := by
    rw [← u32s_zeros]
    have e : (madeCells z.cells (n * 1)).toList = List.replicate n (Value.int .u32 0) := by
      rw [hzs]
      refine List.ext_getElem (by simp [madeCells]) (fun i h1 h2 => ?_)
      simp [madeCells, Value.cells, Nat.mod_one]
    rw [e] at hown
    exact hown
  have HF2 := Lib.hid ((Fr.refl (fun _ => False) w).grown hgr (by simp))
  have hw1 : (la : Int) + (lb : Int) = ((n : Nat) : Int) := by omega
  have HN := Lib.hid hn
  have hnl : n ≤ 800 := by omega
  clear hown hgr hi hz hsz hby hzs hn
  go_enter Try.func46, Try.ntmps46
  go_wp2_with fail
  go_loopw [6] (fun s6 wr => ∃ (i : Nat) (L : List Nat), i ≤ la ∧ s6 = .int .i64 (i : Int) ∧ Hid (wr.ownsRow w.heap.size 98 1 (.slice (some ⟨w.heap.size, 0, none⟩) n n) n (u32s L)) ∧ Hid (L.length = n) ∧ Hid (∀ x ∈ L, x < 65536) ∧ Hid (bv L = a % 65536 ^ i * b) ∧ Hid (Fr0 w wr)) (fun s6 _ => la - (intOf s6).toNat)
  case atStart =>
    refine ⟨0, List.replicate n 0, Nat.zero_le _, rfl, HOQ, List.length_replicate .., fun x hx => ?_, ?_, HF2⟩
    · rw [List.eq_of_mem_replicate hx]; omega
    · show bv _ = _
      rw [bv_zeros, Nat.pow_zero, Nat.mod_one, Nat.zero_mul]
  case round =>
    obtain ⟨i, L, him, rfl, HO, HL, HD, HV, HF⟩ := hrel
    by_cases qa : i < la
    · have ha1 : decide ((i : Int) < (la : Int)) = true := decide_eq_true (by omega)
      have ha2 : decide (i < la) = true := decide_eq_true (by omega)
      have ha3 : (i : Int) < (la : Int) := by omega
      have hi1 : (0 : Int) ≤ (i : Int) := by omega
      have hwi : wrap64 ((i : Int) + 1) = ((i + 1 : Nat) : Int) := by rw [w64_id (by omega) (by omega)]; omega
      go_wp2_with fail
      go_loopw [7, 8] (fun s7 s8 wr => ∃ (k c : Nat) (L : List Nat), k ≤ lb + 1 ∧ c < 65536 ∧ s7 = u64v c ∧ s8 = .int .i64 (k : Int) ∧ Hid (wr.ownsRow w.heap.size 98 1 (.slice (some ⟨w.heap.size, 0, none⟩) n n) n (u32s L)) ∧ Hid (L.length = n) ∧ Hid (∀ x ∈ L, x < 65536) ∧ Hid (bv L + c * 65536 ^ (i + k) = a % 65536 ^ i * b + a / 65536 ^ i % 65536 * (b % 65536 ^ k) * 65536 ^ i) ∧ Hid (Fr0 w wr)) (fun _ s8 _ => lb + 1 - (intOf s8).toNat)
      case atStart =>
        refine ⟨0, 0, L, Nat.zero_le _, by omega, rfl, rfl, HO, HL, HD, ?_, HF⟩
        have := HV.out
        show _ = _
        rw [Nat.pow_zero, Nat.mod_one, this, Nat.mul_zero, Nat.zero_mul, Nat.zero_mul]
      case round =>
        clear HO HL HD HV HF
        obtain ⟨k, c, L, hk, hc, rfl, rfl, HO, HL, HD, HV, HF⟩ := hrel
        by_cases qe : lb ≤ k ∧ c = 0
        · obtain ⟨qb, rfl⟩ := qe
          have hb1 : decide ((k : Int) < (lb : Int)) = false := decide_eq_false (by omega)
          have hb2 : decide (k < lb) = false := decide_eq_false (by omega)
          have HV2 : Hid (bv L = a % 65536 ^ (i + 1) * b) := by
            have := HV.out
            rw [Nat.zero_mul, Nat.add_zero, mul_row ((bd_len_le b k).1 (by rw [← HLB.out]; exact qb))] at this
            exact this
          clear HV
          go_wp2_with fail
          go_roundw
          case rel => exact ⟨i + 1, L, by omega, rfl, HO, HL, HD, HV2, HF⟩
          case measure => first | (simp [intOf]; done) | (simp [intOf]; omega)
        · have hkl : k ≤ lb := by
            rcases Nat.lt_or_ge k lb with h | h
            · omega
            · exact mul_room ((bd_len_le b lb).1 (by rw [← HLB.out]; exact Nat.le_refl _)) (show 0 < c by omega) HV.out
          have hjn : i + k < n := by have := HN.out; omega
          have hwk : wrap64 ((k : Int) + 1) = ((k + 1 : Nat) : Int) := by rw [w64_id (by omega) (by omega)]; omega
          have hms : lb + 1 - (k + 1) < lb + 1 - k := by omega
          have HMS := Lib.hid hms
          have hjL : i + k < L.length := by rw [HL.out]; exact hjn
          obtain ⟨cq, hcq, hxs⟩ := own_some HO.out (i + k) hjn
          have hcq2 : cq = .int .u32 ((L[i + k] : Nat) : Int) := by
            rw [show (u32s L)[i + k]? = some (.int .u32 ((L[i + k] : Nat) : Int)) by simp [u32s, hjL]] at hxs
            exact (Option.some.inj hxs).symm
          subst hcq2
          obtain ⟨cs9, hb9⟩ := (own_blk HO.out (k := w.heap.size) rfl).2
          have hfz : wr.frozen? ⟨w.heap.size, i + k, none⟩ = false := free_of_blk hb9 (i + k)
          have hll : L[i + k] < 65536 := HD.out _ (List.getElem_mem hjL)
          clear hxs hb9 hms
          by_cases qb : k < lb
          · have HNX := Lib.hid (mul_step (z := a / 65536 ^ i % 65536 * (b / 65536 ^ k % 65536)) hjL HV.out)
            rw [mul_next rfl] at HNX
            obtain ⟨x, hx⟩ : ∃ x, x = a / 65536 ^ i % 65536 := ⟨_, rfl⟩
            obtain ⟨y, hy⟩ : ∃ y, y = b / 65536 ^ k % 65536 := ⟨_, rfl⟩
            obtain ⟨l, hl⟩ : ∃ l, l = L[i + k] := ⟨_, rfl⟩
            have hra := HRA.out.kept HF.out
            obtain ⟨ba, oa, rfl⟩ := hra.some_ (by rw [u32s_length, ← HLA.out]; omega)
            have cella := rd_digit hra i (by rw [← HLA.out]; exact qa)
            rw [bd_get (by rw [← HLA.out]; exact qa), ← hx] at cella
            have hrb := HRB.out.kept HF.out
            obtain ⟨bb, ob, rfl⟩ := hrb.some_ (by rw [u32s_length, ← HLB.out]; omega)
            have cellb := rd_digit hrb k (by rw [← HLB.out]; exact qb)
            rw [bd_get (by rw [← HLB.out]; exact qb), ← hy] at cellb
            rw [← hl] at hcq hll HNX
            rw [← hx, ← hy] at HNX
            have hxl : x < 65536 := by rw [hx]; exact Nat.mod_lt _ (by omega)
            have hyl : y < 65536 := by rw [hy]; exact Nat.mod_lt _ (by omega)
            have hxy : x * y ≤ 65535 * 65535 := Nat.mul_le_mul (by omega) (by omega)
            obtain ⟨p, hp⟩ : ∃ p, p = x * y := ⟨_, rfl⟩
            obtain ⟨t, ht⟩ : ∃ t, t = c + l + p := ⟨_, rfl⟩
            rw [← hp] at hxy HNX
            rw [← ht] at HNX
            have hpi : (x : Int) * (y : Int) = (p : Int) := by rw [hp]; simp
            obtain ⟨t1, ht1⟩ : ∃ t, t = c + l := ⟨_, rfl⟩
            have hti : (c : Int) + (l : Int) = (t1 : Int) := by omega
            have htj : (t1 : Int) + (p : Int) = (t : Int) := by omega
            have htl : t < 4294967296 := by omega
            have hpl : p < 4294967296 := by omega
            have htl1 : t1 < 4294967296 := by omega
            have hmd : (t : Int).tmod 65536 = ((t % 65536 : Nat) : Int) := remN rfl
            have hqo : (t : Int).tdiv 65536 = ((t / 65536 : Nat) : Int) := quoN rfl
            have hcl2 : t / 65536 < 65536 := by omega
            have hvl2 : t % 65536 < 65536 := Nat.mod_lt _ (by omega)
            obtain ⟨c2, hc2⟩ : ∃ c2, c2 = t / 65536 := ⟨_, rfl⟩
            obtain ⟨v2, hv2⟩ : ∃ c2, c2 = t % 65536 := ⟨_, rfl⟩
            rw [← hc2] at hqo hcl2 HNX
            rw [← hv2] at hmd hvl2 HNX
            have HVL := Lib.hid hvl2
            have hvw : (v2 : Int) % 4294967296 = (v2 : Int) := by omega
            have hb1 : decide ((k : Int) < (lb : Int)) = true := decide_eq_true (by omega)
            have hb2 : decide (k < lb) = true := decide_eq_true (by omega)
            have hb3 : (k : Int) < (lb : Int) := by omega
            have hk0 : (0 : Int) ≤ (k : Int) := by omega
            obtain ⟨j, hj⟩ : ∃ j, j = i + k := ⟨_, rfl⟩
            rw [← hj] at hcq hfz hjn
            have hji : (i : Int) + (k : Int) = (j : Int) := by omega
            have hj0 : (0 : Int) ≤ (j : Int) := by omega
            have hjn2 : (j : Int) < (n : Int) := by omega
            have hcq0 : wr.cell? ⟨w.heap.size, 0 + j, none⟩ = some (.int .u32 (l : Int)) := by rw [Nat.zero_add]; exact hcq
            have hfz0 : wr.frozen? ⟨w.heap.size, 0 + j, none⟩ = false := by rw [Nat.zero_add]; exact hfz
            rw [show i + k + 1 = i + (k + 1) by omega, ← hj] at HNX
            have HJ := Lib.hid hj
            have HX := Lib.hid hx
            clear hx hy hl hp ht ht1 hc2 hv2 hj hra hrb HV qe
            go_upto_region 11 with fail
            have r0 := cg_cell (W := wr) cella
            have r1 := cg_cell (W := wr) cellb
            refine wp_region_cg hmx (by kernel_rfl) ?_
            repeat (go_big_quiet_step (fail))
            refine wpQuiet_nil ?_
            intro w6 hf6
            have HO6 := Lib.hid (own_kept0 HO.out hf6)
            clear hcq hcq0 hfz hfz0 cella cellb r0 r1
            obtain ⟨cs6, hb6⟩ := (own_blk HO6.out (k := w.heap.size) rfl).2
            have hfz : w6.frozen? ⟨w.heap.size, j, none⟩ = false := free_of_blk hb6 j
            have hfz0 : w6.frozen? ⟨w.heap.size, 0 + j, none⟩ = false := by rw [Nat.zero_add]; exact hfz
            obtain ⟨cq6, hcq6, hxs6⟩ := own_some HO6.out j hjn
            have hcq6b : w6.cell? ⟨w.heap.size, 0 + j, none⟩ = some cq6 := by rw [Nat.zero_add]; exact hcq6
            have HF6 := Lib.hid hf6
            clear hb6 hxs6 hjL hf6
            go_wp2_with fail
            go_roundw
            case rel =>
              have hso := own_set HO6.out j (.int .u32 (v2 : Int))
              rw [show (u32s L).set j (.int .u32 (v2 : Int)) = u32s (L.set j v2) by simp [u32s, List.map_set]] at hso
              refine ⟨k + 1, c2, L.set j v2, by omega, hcl2, rfl, rfl, hso, by rw [List.length_set]; exact HL.out, set_lt HD.out HVL.out, ?_, (HF.out.trans HF6.out).setCell (fun h => by simp at h) _⟩
              have h1 := HNX.out
              have h2 := HJ.out
              subst h2
              rw [HX.out] at h1
              exact h1
            case measure => have := HMS.out; first | (simp [intOf]; done) | (simp [intOf]; omega)
          · have HNX := Lib.hid (mul_step (z := 0) hjL HV.out)
            rw [Nat.zero_mul, Nat.add_zero, Nat.add_zero, mul_over ((bd_len_le b k).1 (by rw [← HLB.out]; omega)) rfl] at HNX
            obtain ⟨l, hl⟩ : ∃ l, l = L[i + k] := ⟨_, rfl⟩
            rw [← hl] at hcq hll HNX
            obtain ⟨t, ht⟩ : ∃ t, t = c + l := ⟨_, rfl⟩
            rw [← ht] at HNX
            have hti : (c : Int) + (l : Int) = (t : Int) := by omega
            have htl : t < 4294967296 := by omega
            have hmd : (t : Int).tmod 65536 = ((t % 65536 : Nat) : Int) := remN rfl
            have hqo : (t : Int).tdiv 65536 = ((t / 65536 : Nat) : Int) := quoN rfl
            have hcl2 : t / 65536 < 65536 := by omega
            have hvl2 : t % 65536 < 65536 := Nat.mod_lt _ (by omega)
            obtain ⟨c2, hc2⟩ : ∃ c2, c2 = t / 65536 := ⟨_, rfl⟩
            obtain ⟨v2, hv2⟩ : ∃ c2, c2 = t % 65536 := ⟨_, rfl⟩
            rw [← hc2] at hqo hcl2 HNX
            rw [← hv2] at hmd hvl2 HNX
            have HVL := Lib.hid hvl2
            have hvw : (v2 : Int) % 4294967296 = (v2 : Int) := by omega
            have hb1 : decide ((k : Int) < (lb : Int)) = false := decide_eq_false (by omega)
            have hb2 : decide (k < lb) = false := decide_eq_false qb
            have hc0 : decide ((0 : Int) < (c : Int)) = true := decide_eq_true (by omega)
            have hc1 : decide (0 < c) = true := decide_eq_true (by omega)
            have hk0 : (0 : Int) ≤ (k : Int) := by omega
            obtain ⟨j, hj⟩ : ∃ j, j = i + k := ⟨_, rfl⟩
            rw [← hj] at hcq hfz hjn
            have hji : (i : Int) + (k : Int) = (j : Int) := by omega
            have hj0 : (0 : Int) ≤ (j : Int) := by omega
            have hjn2 : (j : Int) < (n : Int) := by omega
            have hcq0 : wr.cell? ⟨w.heap.size, 0 + j, none⟩ = some (.int .u32 (l : Int)) := by rw [Nat.zero_add]; exact hcq
            have hfz0 : wr.frozen? ⟨w.heap.size, 0 + j, none⟩ = false := by rw [Nat.zero_add]; exact hfz
            rw [show i + k + 1 = i + (k + 1) by omega, ← hj] at HNX
            have HJ := Lib.hid hj
            clear hl ht hc2 hv2 hj HV qe hjL
            go_wp2_with fail
            go_roundw
            case rel =>
              have hso := own_set HO.out j (.int .u32 (v2 : Int))
              rw [show (u32s L).set j (.int .u32 (v2 : Int)) = u32s (L.set j v2) by simp [u32s, List.map_set]] at hso
              refine ⟨k + 1, c2, L.set j v2, by omega, hcl2, rfl, rfl, hso, by rw [List.length_set]; exact HL.out, set_lt HD.out HVL.out, ?_, HF.out.setCell (fun h => by simp at h) _⟩
              have h1 := HNX.out
              have h2 := HJ.out
              subst h2
              exact h1
            case measure => have := HMS.out; first | (simp [intOf]; done) | (simp [intOf]; omega)
    · have hil : i = la := by omega
      have ha1 : decide ((i : Int) < (la : Int)) = false := decide_eq_false (by omega)
      have ha2 : decide (i < la) = false := decide_eq_false (by omega)
      have hv : bv L = a * b := by
        rw [HV.out, hil, Nat.mod_eq_of_lt ((bd_len_le a la).1 (by rw [← HLA.out]; exact Nat.le_refl _))]
      have hown5 := HO.out
      rw [← HL.out] at hown5
      obtain ⟨A5, c5, e5, h5, hR5⟩ := isD_ownS hown5
      cases e5
      have HT := Lib.hid (rtrim_calls (some ⟨w.heap.size, 0, none⟩) L.length L wr hR5 h5 HD.out (by rw [HL.out]; omega))
      rw [HL.out, hv] at HT
      clear hv HV hR5 hown5 h5 hil qa
      go_wp2_with (first | (go_at_call 63; refine HT.out.mono ?_; rintro _ w5 ⟨⟨v5, rfl, hb5⟩, hf5⟩) | fail)
      go_ret
      exact ⟨⟨_, rfl, hb5⟩, HF.out.trans hf5⟩
end Go.Proofs.Ytjldogfpccbkeaa
