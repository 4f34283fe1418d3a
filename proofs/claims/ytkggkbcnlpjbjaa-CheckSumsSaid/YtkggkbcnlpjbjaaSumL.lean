/- The statement CheckTurned walked. -/
import Derived.Test.YtkggkbcnlpjbjaaSumJ
import Derived.Test.YtkggkbcnlpjbjaaRegB
set_option linter.unusedVariables false
set_option linter.unusedSimpArgs false
namespace Go.Proofs.Ytkggkbcnlpjbjaa
open Go.RowKit

theorem u8s_get (bs : List UInt8) (i : Nat) (h : i < bs.length) {h' : i < (u8s bs).length} : (u8s bs)[i] = .int .u8 (bs[i].toNat : Int) := by simp [u8s]
theorem turn2_append : ∀ (a : List UInt8) (x y : UInt8), a.length % 2 = 0 → turn2 (a ++ [x, y]) = turn2 a ++ [y, x]
  | [], _, _, _ => rfl
  | [z], _, _, h => by simp at h
  | p :: q :: l, x, y, h => by
    have := turn2_append l x y (by simp only [List.length_cons] at h; omega)
    simp only [List.cons_append, turn2, this]
theorem turn2_take (es : List UInt8) (m : Nat) (hm : m % 2 = 0) (h : m + 1 < es.length) : turn2 (es.take (m + 2)) = turn2 (es.take m) ++ [es[m + 1], es[m]] := by
  have e : es.take (m + 2) = es.take m ++ [es[m], es[m + 1]] := by
    rw [show m + 2 = m + 1 + 1 by omega, List.take_succ_eq_append_getElem h, List.take_succ_eq_append_getElem (by omega : m < es.length), List.append_assoc]
    rfl
  rw [e, turn2_append _ _ _ (by simp; omega)]
theorem back2_drop (es : List UInt8) (j : Nat) (h : j + 1 < es.length) : back2 (es.drop j) = back2 (es.drop (j + 2)) ++ [es[j], es[j + 1]] := by
  rw [List.drop_eq_getElem_cons (by omega : j < es.length), List.drop_eq_getElem_cons h]
  rfl

theorem turn_or (n : Int) (h0 : 0 ≤ n) (h1 : n ≤ 65535) : bits .or .u16 (IntKind.u16.wrap (n * 256)) (n / 256) = n % 256 * 256 + n / 256 := by
  obtain ⟨a, rfl⟩ := Int.eq_ofNat_of_zero_le h0
  have e1 : IntKind.u16.wrap ((a : Int) * 256) = ((a % 256 * 256 : Nat) : Int) := by rw [IntKind.wrap_u16]; omega
  have e2 : (a : Int) / 256 = ((a / 256 : Nat) : Int) := by omega
  rw [e1, e2, u16_or_nat _ _ (by omega) (by omega)]
  have := Nat.two_pow_add_eq_or_of_lt (i := 8) (b := a / 256) (by omega) (a % 256)
  rw [show (2 : Nat) ^ 8 = 256 by rfl, Nat.mul_comm 256] at this
  rw [← this]
  omega
theorem u8s_append (a b : List UInt8) : u8s (a ++ b) = u8s a ++ u8s b := by simp [u8s]
theorem rd_new2 (S : Nat → Prop) (w : World) (x y : Value) (t : TypeId) (hS : ¬ S w.heap.size) : Rd S (w.alloc (.cells #[x, y] t)) (some ⟨w.heap.size, 0, none⟩) [x, y] := by
  refine .inr ⟨_, 0, rfl, hS, fun i hi => ?_⟩
  have := cell_of_blk (heap_alloc_new w (.cells #[x, y] t)) (0 + i)
  rw [this, Nat.zero_add]
  simp only [List.length_cons, List.length_nil] at hi
  have h2 : i = 0 ∨ i = 1 := by omega
  rcases h2 with rfl | rfl <;> rfl
theorem duo_app {w0 wr w1 : World} {e : TypeId} {t b v1 : Value} {n m : Nat} {xs ys : List Value} (HF : Fr0 w0 wr) (HT : wr.ownsRow w0.heap.size e 1 t n xs) (HK : wr.ownsRow w0.heap.size e 1 b m ys)
    (HNE : t.ownBlock ≠ b.ownBlock ∨ t.ownBlock = none) {o : Obj} (hg : (wr.drew.alloc o).grownBy w1 t.ownBlock) (hat : v1.ownBlock = t.ownBlock ∨ v1.ownBlock = some (wr.drew.alloc o).heap.size) :
    Fr0 w0 w1 ∧ w1.ownsRow w0.heap.size e 1 b m ys ∧ (v1.ownBlock ≠ b.ownBlock ∨ v1.ownBlock = none) := by
  refine ⟨(HF.drew.alloc o).grown hg (fun k hk ek => ?_), own_kept HK (((Fr.refl (fun k => t.ownBlock = some k) wr).drew.alloc o).grown hg (fun k _ ek => ek)) (fun k hk hs => ?_), ?_⟩
  · have := (HT.lt k ek).1
    omega
  · rcases HNE with h | h
    · exact h (hs.trans hk.symm)
    · rw [h] at hs; cases hs
  · rcases hat with h | h
    · rw [h]; exact HNE
    · left
      rw [h]
      intro e
      have := (HK.lt _ e.symm).2
      have h2 := ((Fr.refl (fun _ => False) wr).drew.alloc o).size
      omega
theorem ne_turn {x y : Option Nat} (h : x ≠ y ∨ x = none) : y ≠ x ∨ y = none := by
  cases x <;> cases y <;> simp_all
  exact Ne.symm h

set_option maxHeartbeats 2000000 in
theorem turned_walk (A : Option Addr) (c : Nat) (bs : List UInt8) (w : World) (hb : BArg w A bs) (hc : bs.length ≤ c) :
    Calls Try.prog 5 #[.slice A bs.length c] w (Good w) := by
  have hl := hb.len
  have HB := Lib.hid (hb.take (bs.length / 2 * 2))
  clear hb
  by_cases hlen : 2000 < bs.length
  · go_enter Try.func5, Try.ntmps5
    go_wp2_with (go_at_call 10; refine (known_calls _).mono ?_; rintro e w' ⟨rfl, hf⟩)
    go_ret
    exact ⟨rfl, hf⟩
  · go_enter Try.func5, Try.ntmps5
    go_wp2_with fail
    have hel : (bs.take (bs.length / 2 * 2)).length = bs.length / 2 * 2 := by simp; omega
    generalize bs.take (bs.length / 2 * 2) = es at *
    rw [← hel]
    have heven : es.length % 2 = 0 := by omega
    have hle : es.length ≤ 2000 := by omega
    clear hel
    go_loopw [3, 4, 5] (fun t b i wr => ∃ m : Nat, m % 2 = 0 ∧ m ≤ es.length ∧ i = .int .i64 (m : Int) ∧ Hid (wr.ownsRow w.heap.size 5 1 t m (u8s (turn2 (es.take m)))) ∧ Hid (wr.ownsRow w.heap.size 5 1 b m (u8s (back2 (es.drop (es.length - m))))) ∧ Hid (Fr0 w wr) ∧ Hid (t.ownBlock ≠ b.ownBlock ∨ t.ownBlock = none)) (fun _ _ i _ => es.length - (intOf i).toNat)
    case atStart => exact ⟨0, by omega, by omega, rfl, own_nil _ _ _ _, by show World.ownsRow _ _ _ _ _ _ _; have := own_nil w w.heap.size 5 1; simpa [back2, u8s] using this, Fr.refl _ _, .inr rfl⟩
    case round =>
      obtain ⟨m, hm2, hm, rfl, HT, HK, HF, HNE⟩ := hrel
      by_cases hlt : m < es.length
      · obtain ⟨At, ct, rfl, hct, hcm⟩ := own_form HT.out
        obtain ⟨Ab, cb, rfl, hcb, hcbm⟩ := own_form HK.out
        have hR := Rd.kept HB.out.rd HF.out
        obtain ⟨b, off, rfl⟩ := hR.some_ (by rw [u8s_length]; omega)
        have c1 := hR.at_ m (by rw [u8s_length]; omega)
        have c2 := hR.at_ (m + 1) (by rw [u8s_length]; omega)
        rw [u8s_get _ _ (by omega)] at c1
        rw [u8s_get _ _ (by omega)] at c2
        have hw1 : IntKind.i64.wrap ((m : Int) + 1) = ((m + 1 : Nat) : Int) := by rw [IntKind.wrap_i64]; omega
        have hi1 : (0 : Int) ≤ (m : Int) := by omega
        have hi2 : (m : Int) < (es.length : Int) := by omega
        have hi3 : (0 : Int) ≤ (m : Int) + 1 := by omega
        have hi4 : (m : Int) + 1 < (es.length : Int) := by omega
        go_wp2_with fail
        refine wp_region_masked (· = wr.drew) [true, false, false, false, false, false, false, false, false, false] (by kernel_rfl) (by kernel_rfl) rfl ?_
        simp only [masked, unmasked, List.length_cons, List.length_nil, Nat.zero_add, Nat.reduceAdd, List.drop_succ_cons, List.drop_zero]
        refine ⟨_, rfl, rfl, ?_⟩
        go_simp
        refine wpMoves_nil ?_
        repeat (quiet_step (fail))
        refine wpQuiet_nil ?_
        have HO := Lib.hid (own_kept0 HT.out ((Fr.refl _ wr).drew.alloc (.cells #[.int .u8 ((es[m + 1]'(by omega)).toNat : Int), .int .u8 ((es[m]'(by omega)).toNat : Int)] 5)))
        have HN := Lib.hid (rd_new2 (fun _ => False) wr.drew (.int .u8 ((es[m + 1]'(by omega)).toNat : Int)) (.int .u8 ((es[m]'(by omega)).toNat : Int)) 5 id)
        go_wp2_with (at_builtin; refine wpList_app rfl (.tmp 23) (.tmp 33) _ rfl Try.underlying22 u8_elem (base := w.heap.size) _ m _ rfl HO.out (fun _ => False) _ 2 2 (u8s [es[m + 1]'(by omega), es[m]'(by omega)]) rfl HN.out rfl (u8s_one _) (by simp only [maxLen]; omega) (by omega) (Nat.le_trans HF.out.size ((Fr.refl (fun _ => False) wr).drew.alloc _).size) (by simp) ?_; intro v1 w1 hown hg hat)
        refine noPanic_normal ?_
        obtain ⟨hf1, hk1, hne1⟩ := duo_app HF.out HT.out HK.out HNE.out hg hat
        rw [← u8s_append, ← turn2_take es m hm2 (by omega)] at hown
        have HT1 := Lib.hid hown
        have HF1 := Lib.hid hf1
        have HK1 := Lib.hid hk1
        have HNE1 := Lib.hid (ne_turn hne1)
        clear hown hf1 hk1 hne1 hg hat c1 c2 hR hw1 hi1 hi2 hi3 hi4
        have hR := Rd.kept HB.out.rd HF1.out
        obtain ⟨p, hp⟩ : ∃ p, p = es.length - 2 - m := ⟨_, rfl⟩
        obtain ⟨q, hq⟩ : ∃ q, q = es.length - 1 - m := ⟨_, rfl⟩
        have hg1 : p < es.length := by omega
        have hg2 : q < es.length := by omega
        have hg3 : p + 1 < es.length := by omega
        have c1 := hR.at_ p (by rw [u8s_length]; exact hg1)
        have c2 := hR.at_ q (by rw [u8s_length]; exact hg2)
        rw [u8s_get _ _ hg1] at c1
        rw [u8s_get _ _ hg2] at c2
        have hw1 : IntKind.i64.wrap ((es.length : Int) - 2) = (es.length : Int) - 2 := by rw [IntKind.wrap_i64]; omega
        have hw2 : IntKind.i64.wrap ((es.length : Int) - 1) = (es.length : Int) - 1 := by rw [IntKind.wrap_i64]; omega
        have hw3 : IntKind.i64.wrap ((es.length : Int) - 2 - m) = (p : Int) := by rw [IntKind.wrap_i64]; omega
        have hw4 : IntKind.i64.wrap ((es.length : Int) - 1 - m) = (q : Int) := by rw [IntKind.wrap_i64]; omega
        have HB2 := Lib.hid (back2_drop es p hg3)
        have hi2 : (p : Int) < (es.length : Int) := by omega
        have hi4 : (q : Int) < (es.length : Int) := by omega
        have HP := Lib.hid (show p + 1 = q by omega)
        have HQ := Lib.hid (show p + 2 = es.length - m ∧ p = es.length - (m + 2) by omega)
        have hi1 : (0 : Int) ≤ (p : Int) := by omega
        have hi3 : (0 : Int) ≤ (q : Int) := by omega
        clear hp hq
        go_wp2_with fail
        refine wp_region_masked (· = w1.drew) [true, false, false, false, false, false, false, false, false, false, false, false, false, false, false, false, false] (by kernel_rfl) (by kernel_rfl) rfl ?_
        simp only [masked, unmasked, List.length_cons, List.length_nil, Nat.zero_add, Nat.reduceAdd, List.drop_succ_cons, List.drop_zero]
        refine ⟨_, rfl, rfl, ?_⟩
        go_simp
        refine wpMoves_nil ?_
        repeat (quiet_step (fail))
        refine wpQuiet_nil ?_
        have HO2 := Lib.hid (own_kept0 HK1.out ((Fr.refl _ w1).drew.alloc (.cells #[.int .u8 ((es[p]'(by omega)).toNat : Int), .int .u8 ((es[q]'(by omega)).toNat : Int)] 5)))
        have HN2 := Lib.hid (rd_new2 (fun _ => False) w1.drew (.int .u8 ((es[p]'(by omega)).toNat : Int)) (.int .u8 ((es[q]'(by omega)).toNat : Int)) 5 id)
        go_wp2_with (at_builtin; refine wpList_app rfl (.tmp 35) (.tmp 52) _ rfl Try.underlying22 u8_elem (base := w.heap.size) _ m _ rfl HO2.out (fun _ => False) _ 2 2 (u8s [es[p]'(by omega), es[q]'(by omega)]) rfl HN2.out rfl (u8s_one _) (by simp only [maxLen]; omega) (by omega) (Nat.le_trans HF1.out.size ((Fr.refl (fun _ => False) w1).drew.alloc _).size) (by simp) ?_; intro v2 w2 hown hg hat)
        refine noPanic_normal ?_
        obtain ⟨hf2, hk2, hne2⟩ := duo_app HF1.out HK1.out HT1.out HNE1.out hg hat
        have HT2 := Lib.hid hk2
        have HF2 := Lib.hid hf2
        have hbk : back2 (es.drop (es.length - (m + 2))) = back2 (es.drop (es.length - m)) ++ [es[p], es[q]] := by
          rw [← HQ.out.2, ← HQ.out.1, HB2.out]
          have := HP.out
          subst this
          rfl
        rw [← u8s_append, ← hbk] at hown
        have HK2 := Lib.hid hown
        have HNE2 := Lib.hid (ne_turn hne2)
        clear hown hf2 hk2 hne2 hg hat
        go_wp2_with fail
        go_roundw
        case rel => exact ⟨m + 2, by omega, by omega, rfl, HT2, HK2, HF2, HNE2⟩
        case measure => simp [intOf]; omega
      · have hme : m = es.length := by omega
        subst hme
        simp only [Nat.sub_self, List.drop_zero, List.take_length] at HT HK
        obtain ⟨At, ct, rfl, hct, hcm⟩ := own_form HT.out
        obtain ⟨Ab, cb, rfl, hcb, hcbm⟩ := own_form HK.out
        go_wp2_with fail
        refine (sum_calls _ 1 1 [es] _ (rdbb_one ⟨_, c, rfl, (HB.out.kept ((HF.out).alloc _)).rd⟩ (heap_alloc_new wr _) (fun h => h)) (parts_one (by simp only [maxLen]; omega))).mono ?_
        rintro e w1 ⟨rfl, hf1⟩
        simp only [List.flatten_cons, List.flatten_nil, List.append_nil]
        have HF1 := Lib.hid ((HF.out.alloc _).trans hf1)
        have HT1 := Lib.hid (own_kept0 HT.out (((Fr.refl _ wr).alloc _).trans hf1))
        have HK1 := Lib.hid (own_kept0 HK.out (((Fr.refl _ wr).alloc _).trans hf1))
        clear hf1
        have hlt2 : (turn2 es).length = es.length := by have := own_len HT1.out; rw [u8s_length] at this; omega
        have hlb2 : (back2 es).length = es.length := by have := own_len HK1.out; rw [u8s_length] at this; omega
        have hbt : BArg w1 At (turn2 es) := .own HT1.out (by omega)
        have hbb : BArg w1 Ab (back2 es) := .own HK1.out (by omega)
        have HBT := Lib.hid hbt
        have HBB := Lib.hid hbb
        clear hbt hbb
        have hct2 := ck_turn es heven
        have hcb2 : ck (back2 es) = ck es := by rw [ck_tot, ck_tot, tot_back es heven]
        generalize turn2 es = tu at *
        generalize back2 es = bk at *
        go_wp2_with fail
        refine (sum_calls _ 1 1 [tu] _ (rdbb_one ⟨_, ct, by rw [hlt2], (HBT.out.kept ((Fr.refl _ w1).alloc _)).rd⟩ (heap_alloc_new w1 _) (fun h => h)) (parts_one (by simp only [maxLen]; omega))).mono ?_
        rintro e w2 ⟨rfl, hf2⟩
        simp only [List.flatten_cons, List.flatten_nil, List.append_nil]
        have HF2 := Lib.hid ((HF1.out.alloc _).trans hf2)
        have HBB2 := Lib.hid (HBB.out.kept (((Fr.refl _ w1).alloc _).trans hf2))
        clear hf2
        have hr := ck_range es
        have hor := turn_or (ck es) hr.1 hr.2
        have hoe : (ck tu == bits .or .u16 (IntKind.u16.wrap (ck es * 256)) (ck es / 256)) = true := by rw [hct2, hor]; simp
        clear hct2 hor
        go_wp2_with fail
        refine (sum_calls _ 1 1 [bk] _ (rdbb_one ⟨_, cb, by rw [hlb2], (HBB2.out.kept ((Fr.refl _ w2).alloc _)).rd⟩ (heap_alloc_new w2 _) (fun h => h)) (parts_one (by simp only [maxLen]; omega))).mono ?_
        rintro e w3 ⟨rfl, hf3⟩
        simp only [List.flatten_cons, List.flatten_nil, List.append_nil]
        have HF3 := Lib.hid ((HF2.out.alloc _).trans hf3)
        clear hf3
        go_wp2_with (go_at_call 10; refine (known_calls _).mono ?_; rintro e w' ⟨rfl, hf⟩)
        go_ret
        exact ⟨rfl, HF3.out.trans hf⟩
end Go.Proofs.Ytkggkbcnlpjbjaa
