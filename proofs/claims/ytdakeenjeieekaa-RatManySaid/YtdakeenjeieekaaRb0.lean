/- Chapter 01, the document: numbers of any length; trim, Of. -/
import Derived.Test.YtdakeenjeieekaaRaP
import Derived.Test.YtdakeenjeieekaaRaH
set_option linter.unusedVariables false
set_option linter.unusedSimpArgs false
namespace Go.Proofs.Ytdakeenjeieekaa
open Go.RowKit
attribute [local go_sem] Oper.semAt_some

def u32s (l : List Nat) : List Value := l.map fun x : Nat => .int .u32 (x : Int)
theorem u32s_length (l : List Nat) : (u32s l).length = l.length := by simp [u32s]
theorem u32s_append (a b : List Nat) : u32s (a ++ b) = u32s a ++ u32s b := by simp [u32s]
theorem u32s_one (l : List Nat) : ∀ u ∈ u32s l, u.oneCell' = true := by
  intro u hu
  simp only [u32s, List.mem_map] at hu
  obtain ⟨x, _, rfl⟩ := hu
  rfl
theorem u32_elem : Elem Try.prog 62 1 4 := Elem.of (.int .u32 0) (by kernel_rfl) rfl (by decide)
/-- A slice that reads as these digits. -/
def IsD (w : World) (v : Value) (l : List Nat) : Prop := ∃ A c, v = .slice A l.length c ∧ l.length ≤ c ∧ Rd (fun _ => False) w A (u32s l)
/-- A slice that reads as a number. -/
def IsB (w : World) (v : Value) (n : Nat) : Prop := IsD w v (bd n)
/-- The same, read outside the blocks S. -/
def IsDS (S : Nat → Prop) (w : World) (v : Value) (l : List Nat) : Prop := ∃ A c, v = .slice A l.length c ∧ l.length ≤ c ∧ Rd S w A (u32s l)
def IsBS (S : Nat → Prop) (w : World) (v : Value) (n : Nat) : Prop := IsDS S w v (bd n)
theorem IsBS.weak {S : Nat → Prop} {w : World} {v : Value} {n : Nat} (h : IsBS S w v n) : IsB w v n := by
  obtain ⟨A, c, rfl, h1, h2⟩ := h
  exact ⟨A, c, rfl, h1, h2.mono (fun _ _ h => h.elim)⟩
theorem IsBS.mono {S T : Nat → Prop} {w : World} {v : Value} {n : Nat} (h : IsBS S w v n) (ht : ∀ k, k < w.heap.size → T k → S k) : IsBS T w v n := by
  obtain ⟨A, c, rfl, h1, h2⟩ := h
  exact ⟨A, c, rfl, h1, h2.mono ht⟩
theorem IsBS.kept {S : Nat → Prop} {w w' : World} {v : Value} {n : Nat} (h : IsBS S w v n) (hf : Fr S w w') : IsBS S w' v n := by
  obtain ⟨A, c, rfl, h1, h2⟩ := h
  exact ⟨A, c, rfl, h1, h2.kept hf⟩
theorem IsBS.kept0 {S : Nat → Prop} {w w' : World} {v : Value} {n : Nat} (h : IsBS S w v n) (hf : Fr0 w w') : IsBS S w' v n := h.kept (hf.mono (fun _ _ h => h.elim))
theorem isBS_zero (S : Nat → Prop) (w : World) (A : Option Addr) (c : Nat) : IsBS S w (.slice A 0 c) 0 := by
  unfold IsBS
  rw [bd_zero]
  exact ⟨A, c, rfl, Nat.zero_le _, Rd.nil _ _ _⟩
theorem IsD.kept {w w' : World} {v : Value} {l : List Nat} (h : IsD w v l) (hf : Fr0 w w') : IsD w' v l := by
  obtain ⟨A, c, rfl, h1, h2⟩ := h
  exact ⟨A, c, rfl, h1, h2.kept hf⟩
theorem IsB.kept {w w' : World} {v : Value} {n : Nat} (h : IsB w v n) (hf : Fr0 w w') : IsB w' v n := IsD.kept h hf
theorem isD_own {w : World} {base : Nat} {v : Value} {l : List Nat} (h : w.ownsRow base 62 1 v l.length (u32s l)) : IsD w v l := by
  obtain ⟨A, c, rfl, h1, _⟩ := own_form h
  exact ⟨A, c, rfl, h1, own_rd (fun _ => False) h (fun _ _ _ h => h)⟩
theorem isD_ownS {w : World} {base : Nat} {v : Value} {l : List Nat} (h : w.ownsRow base 62 1 v l.length (u32s l)) : IsDS (fun k => k < base) w v l := by
  obtain ⟨A, c, rfl, h1, _⟩ := own_form h
  exact ⟨A, c, rfl, h1, own_rd _ h (fun k h1 _ h2 => by omega)⟩
theorem rd_digit {S : Nat → Prop} {w : World} {b off : Nat} {l : List Nat} (h : Rd S w (some ⟨b, off, none⟩) (u32s l)) (i : Nat) (hi : i < l.length) : w.cell? ⟨b, off + i, none⟩ = some (.int .u32 ((l[i] : Nat) : Int)) := by
  have := h.at_ i (by rw [u32s_length]; exact hi)
  rw [this]
  simp [u32s]
theorem rdn_new (S : Nat → Prop) (w : World) (vs : List Value) (t : TypeId) (hS : ¬ S w.heap.size) : Rd S (w.alloc (.cells vs.toArray t)) (some ⟨w.heap.size, 0, none⟩) vs := by
  refine .inr ⟨_, 0, rfl, hS, fun i hi => ?_⟩
  have := cell_of_blk (heap_alloc_new w (.cells vs.toArray t)) (0 + i)
  rw [this, Nat.zero_add]
  simp [hi]
def slLen : Value → Nat
  | .slice _ n _ => n
  | _ => 0
theorem take_pred {l : List Nat} {k : Nat} (h : k + 1 ≤ l.length) : l.take (k + 1) = l.take k ++ [l[k]] := List.take_succ_eq_append_getElem h
theorem rtrim_calls {S : Nat → Prop} (A : Option Addr) (c : Nat) (L : List Nat) (w : World) (hR : Rd S w A (u32s L)) (hc : L.length ≤ c) (hL : ∀ x ∈ L, x < 65536) (hlen : L.length ≤ 1000000) :
    Calls Try.prog 73 #[.slice A L.length c] w fun e w' => (∃ v, e = .returned v ∧ IsBS S w' v (bv L)) ∧ Fr0 w w' := by
  have HR := Lib.hid hR
  have HL := Lib.hid hL
  clear hR hL
  go_enter Try.func73, Try.ntmps73
  go_wp2_with fail
  go_loopw [0] (fun s0 wr => ∃ k : Nat, k ≤ L.length ∧ s0 = .slice A k c ∧ Hid (bv (L.take k) = bv L) ∧ Hid (Fr0 w wr)) (fun s0 _ => slLen s0)
  case atStart => exact ⟨L.length, Nat.le_refl _, rfl, by rw [List.take_length]; rfl, Fr.refl _ _⟩
  case round =>
    obtain ⟨k, hk, rfl, HV, HF⟩ := hrel
    rcases k with _ | k
    · have HB : Hid (IsBS S wr (.slice A 0 c) (bv L)) := by
        have h0 : bv L = 0 := by rw [← HV.out]; rfl
        rw [h0]
        unfold IsBS
        rw [bd_zero]
        exact ⟨A, c, rfl, Nat.zero_le _, Rd.nil _ _ _⟩
      clear HV
      go_wp2_with fail
      go_ret
      exact ⟨⟨_, rfl, HB.out⟩, HF.out⟩
    · have hr := HR.out.kept (HF.out.mono (fun _ _ h => h.elim))
      obtain ⟨b, off, rfl⟩ := hr.some_ (by rw [u32s_length]; omega)
      have hbS : ¬ S b := by
        rcases hr with h | ⟨b2, o2, e2, h2, _⟩
        · have h3 := congrArg List.length h
          rw [u32s_length, List.length_nil] at h3
          omega
        · cases e2
          exact h2
      have d0 := rd_digit hr k (by omega)
      have HBS := Lib.hid hbS
      clear hbS
      have hdl := HL.out _ (List.getElem_mem (show k < L.length by omega))
      have hi1 : (0 : Int) ≤ (k : Int) := by omega
      have hi2 : (k : Int) < ((k + 1 : Nat) : Int) := by omega
      have hi3 : ((k + 1 : Nat) : Int) - 1 = (k : Int) := by omega
      have hi4 : (0 : Int) < ((k + 1 : Nat) : Int) := by omega
      have hi5 : (k : Int) ≤ (c : Int) := by omega
      have HT := Lib.hid (take_pred (l := L) (k := k) hk)
      obtain ⟨d, hd⟩ : ∃ d, d = L[k] := ⟨_, rfl⟩
      rw [← hd] at d0 HT hdl
      by_cases hz : d = 0
      · subst hz
        have HV2 : Hid (bv (L.take k) = bv L) := by
          have := HV.out
          rw [HT.out, bv_push, Nat.mul_zero, Nat.add_zero] at this
          exact this
        clear hr hd HV HT
        go_wp2_with fail
        go_roundw
        case rel => exact ⟨k, by omega, rfl, HV2, HF⟩
        case measure => simp [slLen]
      · have hzb : decide (d = 0) = false := decide_eq_false hz
        have hzc : (((d : Nat) : Int) == 0) = false := by simp; omega
        have hzd : decide ((d : Int) = 0) = false := decide_eq_false (by omega)
        have HB : Hid (IsBS S wr (.slice (some ⟨b, off, none⟩) (k + 1) c) (bv L)) := by
          unfold IsBS
          have h1 : bd (bv L) = L.take (k + 1) := by
            rw [← HV.out]
            refine bd_bv _ (fun x hx => HL.out x (List.mem_of_mem_take hx)) (fun x hx => ?_)
            rw [HT.out, List.getLast?_append] at hx
            simp at hx
            omega
          rw [h1]
          refine ⟨some ⟨b, off, none⟩, c, by rw [List.length_take, Nat.min_eq_left hk], by rw [List.length_take]; omega, ?_⟩
          refine .inr ⟨b, off, rfl, HBS.out, fun i hi => ?_⟩
          rw [u32s_length, List.length_take] at hi
          rw [rd_digit hr i (by omega)]
          simp [u32s]
        clear hr hd HV HT hz
        go_wp2_with fail
        go_ret
        exact ⟨⟨_, rfl, HB.out⟩, HF.out⟩
/-- A number's digits. -/
theorem rof_calls (n : Nat) (hn : n < 18446744073709551616) (w : World) : Calls Try.prog 40 #[u64v n] w fun e w' => (∃ v, e = .returned v ∧ IsB w' v n) ∧ Fr0 w w' := by
  go_enter Try.func40, Try.ntmps40
  go_wp2_with fail
  go_loopw [0, 3] (fun s0 s3 wr => ∃ (m : Nat) (xs : List Nat) (A : Option Addr) (c : Nat), s0 = u64v m ∧ s3 = .slice A xs.length c ∧ m < 18446744073709551616 ∧ xs.length ≤ 64 ∧ Hid (m * 65536 ^ xs.length ≤ n) ∧ Hid (wr.ownsRow w.heap.size 62 1 (.slice A xs.length c) xs.length (u32s xs)) ∧ Hid (bd n = xs ++ bd m) ∧ Hid (Fr0 w wr)) (fun s0 _ _ => (intOf s0).toNat)
  case atStart => exact ⟨n, [], none, 0, rfl, rfl, hn, by simp, by simp [Hid], own_nil _ _ _ _, rfl, Fr.refl _ _⟩
  case round =>
    obtain ⟨m, xs, A, c, rfl, rfl, hm, hx, HM, HO, HB, HF⟩ := hrel
    by_cases h0 : m = 0
    · subst h0
      have HE : Hid (IsB wr (.slice A xs.length c) n) := by
        unfold IsB
        rw [HB.out, bd_zero, List.append_nil]
        exact isD_own HO.out
      go_wp2_with fail
      go_ret
      exact ⟨⟨_, rfl, HE.out⟩, HF.out⟩
    · have h1 : decide ((0 : Int) < (m : Int)) = true := decide_eq_true (by omega)
      have h2 : decide (0 < m) = true := decide_eq_true (by omega)
      have hr : (m : Int).tmod 65536 = ((m % 65536 : Nat) : Int) := remN rfl
      have hq : (m : Int).tdiv 65536 = ((m / 65536 : Nat) : Int) := quoN rfl
      have hw : IntKind.u32.wrap ((m % 65536 : Nat) : Int) = ((m % 65536 : Nat) : Int) := by rw [IntKind.wrap_u32]; omega
      have hw2 : IntKind.u64.wrap ((m % 65536 : Nat) : Int) = ((m % 65536 : Nat) : Int) := by rw [IntKind.wrap_u64]; omega
      have hw3 : IntKind.u64.wrap ((m / 65536 : Nat) : Int) = ((m / 65536 : Nat) : Int) := by rw [IntKind.wrap_u64]; omega
      have hx4 : xs.length < 4 := by
        apply Nat.lt_of_not_le
        intro hle
        have e1 : 65536 ^ 4 ≤ 65536 ^ xs.length := Nat.pow_le_pow_right (by omega) hle
        have e2 : 1 * 65536 ^ xs.length ≤ m * 65536 ^ xs.length := Nat.mul_le_mul_right _ (by omega)
        have := HM.out
        omega
      have HM2 : Hid (m / 65536 * 65536 ^ (xs.length + 1) ≤ n) := by
        have e := HM.out
        have e2 : m / 65536 * 65536 ^ (xs.length + 1) ≤ m * 65536 ^ xs.length := by
          rw [Nat.pow_succ, ← Nat.mul_assoc, Nat.mul_right_comm]
          exact Nat.mul_le_mul_right _ (by have := Nat.div_mul_le_self m 65536; omega)
        exact Nat.le_trans e2 e
      have HB2 : Hid (bd n = (xs ++ [m % 65536]) ++ bd (m / 65536)) := by rw [HB.out, bd_pos h0, List.append_assoc]; rfl
      have hlt : m / 65536 < m := by omega
      clear HM HB h0
      obtain ⟨d, hd⟩ : ∃ d, d = m % 65536 := ⟨_, rfl⟩
      obtain ⟨m2, hm2⟩ : ∃ d, d = m / 65536 := ⟨_, rfl⟩
      rw [← hd] at hr hw hw2 HB2
      rw [← hm2] at hq hw3 HM2 HB2 hlt
      clear hd hm2
      go_wp2_with (at_builtin; refine wpList_app rfl (.tmp 6) (.tmp 10) _ rfl Try.underlying58 u32_elem (base := w.heap.size) (.slice A xs.length c) xs.length (u32s xs) rfl (own_kept0 HO.out ((Fr.refl _ wr).alloc _)) (fun _ => False) _ 1 1 (u32s [d]) rfl (rdn_new (fun _ => False) wr (u32s [d]) _ (fun h => h)) rfl (u32s_one _) (by simp only [maxLen]; omega) (by omega) (by have := HF.out.size; simp; omega) (by simp) ?_; intro v6 w6 hown hg hat; obtain ⟨A6, cv6, rfl, hvc6, hvm6⟩ := own_form hown)
      go_roundw
      case rel =>
        refine ⟨m2, xs ++ [d], A6, cv6, rfl, by rw [List.length_append]; rfl, by omega, by rw [List.length_append]; simp; omega, by rw [List.length_append]; exact HM2, ?_, HB2, ?_⟩
        · rw [List.length_append, u32s_append]; exact hown
        · refine (HF.out.alloc _).grown hg (fun k hk e => ?_)
          have := (own_blk HO.out e).1
          omega
      case measure => simp [intOf]; omega
end Go.Proofs.Ytdakeenjeieekaa
