/- The statement CheckPatches walked. -/
import Derived.Test.YtkggkbcnlpjbjaaSumL
import Derived.Test.YtkggkbcnlpjbjaaOpen
import Derived.Deep.RegionHeld3
import Derived.BigRegion
set_option linter.unusedVariables false
set_option linter.unusedSimpArgs false
namespace Go.Proofs.Ytkggkbcnlpjbjaa
open Go.RowKit

theorem u8s_seti (l : List UInt8) (j : Nat) (i : Int) (h0 : 0 ≤ i) (h1 : i < 256) : (u8s l).set j (.int .u8 i) = u8s (l.set j (u8of i)) := by
  rw [← u8s_set, u8of_toNat h0 h1]
theorem was_or (a b : Nat) (ha : a < 256) (hb : b < 256) : bits .or .u16 (IntKind.u16.wrap ((a : Int) * 256)) (b : Int) = 256 * (a : Int) + b := by
  have e1 : IntKind.u16.wrap ((a : Int) * 256) = ((a * 256 : Nat) : Int) := by rw [IntKind.wrap_u16]; omega
  rw [e1, u16_or_nat _ _ (by omega) (by omega)]
  have := Nat.two_pow_add_eq_or_of_lt (i := 8) (b := b) (by omega) a
  rw [show (2 : Nat) ^ 8 = 256 by rfl, Nat.mul_comm 256] at this
  rw [← this]
  omega

theorem three_u16 {cs : Array Value} (h : FlatC [.u16, .u16, .u16] cs.toList) : ∃ x0 x1 x2 : Int, cs = #[.int .u16 x0, .int .u16 x1, .int .u16 x2] ∧ (0 ≤ x0 ∧ x0 ≤ 65535) ∧ (0 ≤ x1 ∧ x1 ≤ 65535) ∧ (0 ≤ x2 ∧ x2 ≤ 65535) := by
  obtain ⟨l⟩ := cs
  match l, h with
  | [a, b, c], ⟨⟨x0, e0, h0⟩, ⟨x1, e1, h1⟩, ⟨x2, e2, h2⟩, _⟩ =>
    subst e0 e1 e2
    have b0 := wf_u16 h0
    have b1 := wf_u16 h1
    have b2 := wf_u16 h2
    exact ⟨x0, x1, x2, rfl, by omega, by omega, by omega⟩
/-- A block of one cell. -/
def Blk (t : TypeId) (w : World) (b : Nat) (v : Value) : Prop := w.heap[b]? = some (.cells #[v] t (0, 0))
theorem Blk.new (t : TypeId) (w : World) (v : Value) : Blk t (w.alloc (.cells #[v] t)) w.heap.size v := heap_alloc_new _ _
theorem Blk.newd (t : TypeId) (w : World) (v : Value) : Blk t (w.alloc (.cells #[v] t)).drew w.heap.size v := heap_alloc_new w (.cells #[v] t)
theorem Blk.elder (t : TypeId) (w : World) (v u : Value) : Blk t ((w.alloc (.cells #[v] t)).alloc (.cells #[u] t)).drew w.heap.size v := blk_alloc (heap_alloc_new w (.cells #[v] t)) (.cells #[u] t)
theorem Blk.younger (t : TypeId) (w : World) (v u : Value) : Blk t ((w.alloc (.cells #[v] t)).alloc (.cells #[u] t)).drew (w.heap.size + 1) u := by
  have h := heap_alloc_new (w.alloc (.cells #[v] t)) (.cells #[u] t)
  rw [show (w.alloc (.cells #[v] t)).heap.size = w.heap.size + 1 by simp] at h
  exact h
theorem Blk.fr {t : TypeId} {w w' : World} {b : Nat} {v : Value} (h : Blk t w b v) (hf : Fr0 w w') : Blk t w' b v := hf.blk h (fun h => h)
theorem sum_blk (W : World) (b : Nat) (A : Option Addr) (c : Nat) (bs : List UInt8) (n : Nat) (hn : bs.length = n) (hB : Blk 22 W b (.slice A n c)) (hb : BArg W A bs) (hl : bs.length ≤ maxLen) :
    Calls Try.prog 14 #[.slice (some ⟨b, 0, none⟩) 1 1] W fun e w' => e = .returned (.int .u16 (ck bs)) ∧ Fr0 W w' := by
  have := sum_calls _ 1 1 [bs] _ (rdbb_one ⟨_, c, by rw [hn], hb.rd⟩ hB (fun h => h)) (parts_one hl)
  simpa using this

set_option maxHeartbeats 4000000 in
theorem patches_walk (A : Option Addr) (c : Nat) (bs : List UInt8) (pr x0 x1 x2 : Int) (w : World) (hb : BArg w A bs) (hc : bs.length ≤ c) (hp : -9223372036854775808 ≤ pr) (hp2 : pr ≤ 9223372036854775807)
    (a0 : 0 ≤ x0) (b0 : x0 ≤ 65535) (a1 : 0 ≤ x1) (b1 : x1 ≤ 65535) (a2 : 0 ≤ x2) (b2 : x2 ≤ 65535) :
    Calls Try.prog 7 #[.slice A bs.length c, .int .i64 pr, .agg #[.int .u16 x0, .int .u16 x1, .int .u16 x2]] w (Good w) := by
  have hl := hb.len
  have HB := Lib.hid hb
  clear hb
  have HX := Lib.hid (heap_alloc_new w (.cells #[.int .u16 x0, .int .u16 x1, .int .u16 x2] 35))
  have HF := Lib.hid ((Fr.refl (fun _ => False) w).alloc (.cells #[.int .u16 x0, .int .u16 x1, .int .u16 x2] 35))
  by_cases hlen : 2000 < bs.length
  · have hg : decide ((2000 : Int) < (bs.length : Int)) = true := decide_eq_true (by omega)
    go_enter Try.func7, Try.ntmps7
    go_wp2_with fail
    generalize w.alloc (.cells #[.int .u16 x0, .int .u16 x1, .int .u16 x2] 35) = w1 at *
    go_quiet (fail)
    go_wp2_with (go_at_call 10; refine (known_calls _).mono ?_; rintro e w' ⟨rfl, hf⟩)
    go_ret
    exact ⟨rfl, (HF.out.drewN nq).trans hf⟩
  · have hg : decide ((2000 : Int) < (bs.length : Int)) = false := decide_eq_false (by omega)
    go_enter Try.func7, Try.ntmps7
    go_wp2_with fail
    generalize w.alloc (.cells #[.int .u16 x0, .int .u16 x1, .int .u16 x2] 35) = w1 at *
    have c0 := cell_of_blk HX.out 0
    have c1 := cell_of_blk HX.out 1
    have c2 := cell_of_blk HX.out 2
    simp at c0 c1 c2
    have HW := Lib.hid (rfl : w.heap.size = w.heap.size)
    have hpa := patch_calls x0 x1 x2 w1.drew a0 b0 a1 b1 a2 b2
    have hpb := rpatch_calls x0 x1 x2 w1.drew a0 b0 a1 b1 a2 b2
    have hpr : 0 ≤ patchI x0 x1 x2 ∧ patchI x0 x1 x2 ≤ 65535 := by
      obtain ⟨p0, p1⟩ := putI_range (a := 65535 - x0) (b := 65535 - x1) (by omega) (by omega) (by omega) (by omega)
      obtain ⟨q0, q1⟩ := putI_range p0 p1 a2 b2
      unfold patchI
      omega
    generalize patchI x0 x1 x2 = pi at *
    have HPA := Lib.hid hpa
    have HPB := Lib.hid hpb
    clear hpa hpb
    refine wp_region_class (· = w1.drew) 23 (by kernel_rfl) (by kernel_rfl) rfl ?_
    simp only [List.take_succ_cons, List.take_zero, List.drop_succ_cons, List.drop_zero]
    repeat (quiet_step (fail))
    refine wpQuiet_step (fun K hK => ?_)
    go_simp
    refine ⟨_, HPA.out.mono fun e w' h => ⟨h.1, h.2.symm⟩, hK _ ?_⟩
    clear hK K
    have hwp : IntKind.i64.wrap pi = pi := by rw [IntKind.wrap_i64]; omega
    have hwx0 : IntKind.i64.wrap x0 = x0 := by rw [IntKind.wrap_i64]; omega
    have hwx1 : IntKind.i64.wrap x1 = x1 := by rw [IntKind.wrap_i64]; omega
    have hwx2 : IntKind.i64.wrap x2 = x2 := by rw [IntKind.wrap_i64]; omega
    repeat (quiet_step (fail))
    refine wpQuiet_step (fun K hK => ?_)
    go_simp
    refine ⟨_, HPB.out.mono fun e w' h => ⟨h.1, h.2.symm⟩, hK _ ?_⟩
    clear hK K
    repeat (quiet_step (fail))
    refine wpQuiet_nil ?_
    rintro _ rfl
    clear hwp HPA HPB
    have hel : (bs.take (bs.length / 2 * 2)).length = bs.length / 2 * 2 := by simp; omega
    have HB := Lib.hid (HB.out.take (bs.length / 2 * 2))
    have HB1 := Lib.hid (HB.out.kept HF.out.drew)
    generalize bs.take (bs.length / 2 * 2) = es at *
    have HN := Lib.hid (nought_calls A c es w1.drew HB1.out.rd (by omega))
    rw [hel] at HN
    have hle : bs.length ≤ 2000 := by omega
    have hle2 : es.length ≤ 2000 := by omega
    by_cases hp0 : pr < 0
    · go_wp2_with (go_at_call 10; refine (known_calls _).mono ?_; rintro e w' ⟨rfl, hf⟩)
      go_ret
      exact ⟨rfl, HF.out.drew.trans hf⟩
    · by_cases hp3 : (bs.length : Int) / 2 ≤ pr
      · go_wp2_with (go_at_call 10; refine (known_calls _).mono ?_; rintro e w' ⟨rfl, hf⟩)
        go_ret
        exact ⟨rfl, HF.out.drew.trans hf⟩
      · by_cases hn0 : es.all (· == 0) = true
        · rw [hn0] at HN
          go_wp2_with (first | (go_at_call 17; refine HN.out.mono ?_; rintro e w' ⟨rfl, rfl⟩) | (go_at_call 10; refine (known_calls _).mono ?_; rintro e w' ⟨rfl, hf⟩))
          go_ret
          exact ⟨rfl, HF.out.drew.trans hf⟩
        · obtain ⟨k, rfl⟩ := Int.eq_ofNat_of_zero_le (show 0 ≤ pr by omega)
          have hk : 2 * k + 1 < es.length := by omega
          have hn1 : es.all (· == 0) = false := by simpa using hn0
          have HNT := Lib.hid hn0
          rw [hn1] at HN
          clear hn0 hn1
          obtain ⟨b, off, rfl⟩ := HB.out.rd.some_ (by rw [u8s_length]; omega)
          go_wp2_with (first | (go_at_call 17; refine HN.out.mono ?_; rintro e w' ⟨rfl, rfl⟩) | (at_builtin; refine wpList_app rfl (.const (.slice none 0 0)) (.tmp 59) _ rfl Try.underlying22 u8_elem (base := w1.heap.size) (.slice none 0 0) 0 [] rfl (own_nil _ _ _ _) (fun _ => False) _ (bs.length / 2 * 2) c (u8s es) rfl HB1.out.rd (by rw [u8s_length, hel, Nat.mul_one]) (u8s_one es) (by simp only [maxLen]; omega) (by omega) (Nat.le_refl _) (by simp) ?_; intro v w2 hown hg hat))
          rw [Nat.zero_add, List.nil_append] at hown
          obtain ⟨g, cap, rfl, hg0, hglt⟩ := hown.form (by omega)
          have HF2 := Lib.hid (HF.out.drew.grown hg (fun g hg e => by simp [Value.ownBlock] at e))
          have HX2 := Lib.hid (blk_grown (blk_drew HX.out) hg (by simp [Value.ownBlock]))
          rw [← hel] at hown ⊢
          have HO := Lib.hid hown
          clear hown hg hat hel HN
          clear c0 c1 c2
          have hwg := lt_of_block HX.out
          have HB2 := Lib.hid (HB.out.kept HF2.out)
          have hgw : g ≠ w.heap.size := by omega
          have c0 := cell_of_blk HX2.out 0
          simp at c0
          have hgw2 : ¬ g < w.heap.size := by omega
          have HGW := Lib.hid hgw2
          have HGN := Lib.hid hgw
          obtain ⟨y0, d0, e0⟩ := own_some HO.out (2 * k) (by omega)
          obtain ⟨y1, d1, e1⟩ := own_some HO.out (2 * k + 1) hk
          have f0 := HO.out.frozenAt (2 * k)
          have f1 := HO.out.frozenAt (2 * k + 1)
          clear e0 e1 hgw2 hgw hwg hg0 hglt
          have hs1 : IntKind.u8.wrap (x0 / 256) = x0 / 256 := by rw [IntKind.wrap_u8]; omega
          have hs2 : IntKind.u8.wrap x0 = x0 % 256 := by rw [IntKind.wrap_u8]
          have hm1 : IntKind.i64.wrap (2 * (k : Int)) = ((2 * k : Nat) : Int) := by rw [IntKind.wrap_i64]; omega
          have hm2 : IntKind.i64.wrap (((2 * k : Nat) : Int) + 1) = ((2 * k + 1 : Nat) : Int) := by rw [IntKind.wrap_i64]; omega
          have hmm : 2 * k < es.length := by omega
          generalize hm : 2 * k = m at *
          have hi1 : (0 : Int) ≤ (m : Int) := by omega
          have hi2 : (m : Int) < (es.length : Int) := by omega
          have hi3 : (0 : Int) ≤ (m : Int) + 1 := by omega
          have hi4 : (m : Int) + 1 < (es.length : Int) := by omega
          have HMK := Lib.hid hm
          clear hm
          have hgw := HGN.out
          have hgw' := hgw.symm
          go_region
          have ho := own_set (own_set HO.out m (.int .u8 (x0 / 256))) (m + 1) (.int .u8 (x0 % 256))
          rw [u8s_seti _ _ _ (by omega) (by omega), u8s_seti _ _ _ (by omega) (by omega)] at ho
          have HO3 := Lib.hid ho.drew
          have HF3 := Lib.hid (((HF2.out.setCell (p := ⟨g, m, none⟩) (fun h => HGW.out h) (.int .u8 (x0 / 256))).setCell (p := ⟨g, m + 1, none⟩) (fun h => HGW.out h) (.int .u8 (x0 % 256))).drew)
          have HX3 := Lib.hid (blk_drew (blk_setCell_other (blk_setCell_other HX2.out (p := ⟨g, m, none⟩) hgw (.int .u8 (x0 / 256))) (p := ⟨g, m + 1, none⟩) hgw (.int .u8 (x0 % 256))))
          have HB3 := Lib.hid (HB.out.kept HF3.out)
          have HPR := Lib.hid (patch_right es k (by rw [HMK.out]; exact hk) x0 a0 b0)
          have hol : ((es.set m (u8of (x0 / 256))).set (m + 1) (u8of (x0 % 256))).length = es.length := by simp
          have HML := Lib.hid hmm
          have HKL := Lib.hid hk
          clear ho c0 d0 d1 f0 f1 hgw hgw' hs1 hs2 hi1 hi2 hi3 hi4
          simp only [HMK.out] at HPR
          generalize ((w2.setCell ⟨g, m, none⟩ (.int .u8 (x0 / 256))).setCell ⟨g, m + 1, none⟩ (.int .u8 (x0 % 256))).drew = w3 at *
          generalize (es.set m (u8of (x0 / 256))).set (m + 1) (u8of (x0 % 256)) = os at *
          have HBO := Lib.hid (BArg.own HO3.out (by omega))
          have HN := Lib.hid (nought_calls _ cap os w3 HBO.out.rd (by omega))
          rw [hol] at HN
          by_cases hn0 : os.all (· == 0) = true
          · rw [hn0] at HN
            go_wp2_with (first | (go_at_call 17; refine HN.out.mono ?_; rintro e w' ⟨rfl, rfl⟩) | (go_at_call 10; refine (known_calls _).mono ?_; rintro e w' ⟨rfl, hf⟩))
            go_ret
            exact ⟨rfl, HF3.out.trans hf⟩
          · have hn1 : os.all (· == 0) = false := by simpa using hn0
            rw [hn1] at HN
            have htp : 0 < tot os := by
              have h1 := tot_nonneg os
              have h2 := mt (tot_zero_iff os).1 hn0
              omega
            have HPT := Lib.hid (HPR.out htp)
            clear hn0 hn1 htp HPR
            go_wp2_with (first | (go_at_call 17; refine HN.out.mono ?_; rintro e w' ⟨rfl, rfl⟩))
            have c1 := HB3.out.rd.at_ m (by rw [u8s_length]; exact hmm)
            have c2 := HB3.out.rd.at_ (m + 1) (by rw [u8s_length]; exact hk)
            rw [u8s_get _ _ hmm] at c1
            rw [u8s_get _ _ hk] at c2
            have hy := (es[m]).toNat_lt
            have hz := (es[m + 1]).toNat_lt
            have hwo := was_or (es[m]).toNat (es[m + 1]).toNat hy hz
            have hwy : IntKind.u16.wrap ((es[m]).toNat : Int) = ((es[m]).toNat : Int) := by rw [IntKind.wrap_u16]; omega
            have hwz : IntKind.u16.wrap ((es[m + 1]).toNat : Int) = ((es[m + 1]).toNat : Int) := by rw [IntKind.wrap_u16]; omega
            have hi1 : (0 : Int) ≤ (m : Int) := by omega
            have hi2 : (m : Int) < (es.length : Int) := by omega
            have hi3 : (0 : Int) ≤ (m : Int) + 1 := by omega
            have hi4 : (m : Int) + 1 < (es.length : Int) := by omega
            clear HN
            generalize (es[m]).toNat = y at *
            generalize (es[m + 1]).toNat = z at *
            go_region
            have hwo2 : bits .or .u16 ((y : Int) * 256) z = 256 * (y : Int) + z := by
              have e : IntKind.u16.wrap ((y : Int) * 256) = (y : Int) * 256 := by rw [IntKind.wrap_u16]; omega
              rw [← hwo, e]
            rw [hwo2]
            have hwr : 0 ≤ 256 * (y : Int) + z ∧ 256 * (y : Int) + z ≤ 65535 := by omega
            generalize 256 * (y : Int) + z = was at *
            have hce := ck_range es
            have hkeq : (patchI (ck es) was x0 == ck os) = true := by rw [HPT.out]; simp
            have HF4 := Lib.hid (HF3.out.drew)
            have HB4 := Lib.hid (HB3.out.kept ((Fr.refl _ w3).drew))
            have HBO4 := Lib.hid (HBO.out.kept ((Fr.refl _ w3).drew))
            have HX4 := Lib.hid (cell_of_blk (blk_drew HX3.out) 0)
            clear hwo hwo2 c1 c2 hwy hwz hi1 hi2 hi3 hi4 hy hz
            go_wp2_with fail
            generalize w3.drew = w4 at *
            have HK : ∀ W, Fr0 w4 W → (W.cell? ⟨w.heap.size, 0, none⟩ = some (.int .u16 x0) ∧ Fr0 w4 W) := fun W h => ⟨h.cell HX4.out (fun h => h), h⟩
            have hle3 : es.length ≤ maxLen := by simp only [maxLen]; omega
            have hle4 : os.length ≤ maxLen := by simp only [maxLen]; omega
            have hE2 := Blk.elder 22 w4 (.slice (some ⟨b, off, none⟩) es.length c) (.slice (some ⟨g, 0, none⟩) es.length cap)
            have hE3 := Blk.younger 22 w4 (.slice (some ⟨g, 0, none⟩) es.length cap) (.slice (some ⟨b, off, none⟩) es.length c)
            have hO2 := Blk.elder 22 w4 (.slice (some ⟨g, 0, none⟩) es.length cap) (.slice (some ⟨b, off, none⟩) es.length c)
            have hO3 := Blk.younger 22 w4 (.slice (some ⟨b, off, none⟩) es.length c) (.slice (some ⟨g, 0, none⟩) es.length cap)
            go_region_held3 (fun w' => w'.cell? ⟨w.heap.size, 0, none⟩ = some (.int .u16 x0) ∧ Fr0 w4 w') (exact HK _ (by repeat (first | assumption | exact Fr.refl _ _ | exact And.right (by assumption) | refine Fr.drew ?_ | refine Fr.alloc ?_ _ | refine Fr.trans ?_ (by assumption))))
              (first
                | (go_at_call 14; refine (sum_blk _ _ (some ⟨b, off, none⟩) c es es.length rfl (by first | with_reducible assumption | with_reducible exact Blk.new _ _ _ | with_reducible exact Blk.newd _ _ _) (HB4.out.kept (And.right (by assumption))) hle3).mono ?_; rintro e wE ⟨rfl, hfE⟩; try (have hoe := Blk.fr (v := (.slice (some ⟨g, 0, none⟩) es.length cap)) (by with_reducible assumption) hfE))
                | (go_at_call 14; refine (sum_blk _ _ (some ⟨g, 0, none⟩) cap os es.length hol (by first | with_reducible assumption | with_reducible exact Blk.new _ _ _ | with_reducible exact Blk.newd _ _ _) (HBO4.out.kept (And.right (by assumption))) hle4).mono ?_; rintro e wO ⟨rfl, hfO⟩; try (have heo := Blk.fr (v := (.slice (some ⟨b, off, none⟩) es.length c)) (by with_reducible assumption) hfO))
                | (go_at_call 15; refine (patch_calls _ _ _ _ hce.1 hce.2 hwr.1 hwr.2 a0 b0).mono ?_; rintro e w' ⟨rfl, rfl⟩)
                | (go_at_call 10; refine (known_calls _).mono ?_; rintro e wK ⟨rfl, hfK⟩))
            all_goals
              go_wp2_with fail
              go_ret
              exact ⟨rfl, HF4.out.trans (And.right (by assumption))⟩
end Go.Proofs.Ytkggkbcnlpjbjaa
