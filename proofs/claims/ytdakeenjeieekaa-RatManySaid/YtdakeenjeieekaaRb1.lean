/- Chapter 01, the document: Add. -/
import Derived.Test.YtdakeenjeieekaaRb0
set_option linter.unusedVariables false
set_option linter.unusedSimpArgs false
namespace Go.Proofs.Ytdakeenjeieekaa
open Go.RowKit
attribute [local go_sem] Oper.semAt_some

set_option maxHeartbeats 4000000 in
theorem badd_calls (a b : Nat) (va vb : Value) (w : World) (ha : IsB w va a) (hb : IsB w vb b) (hla : (bd a).length ≤ 1000) (hlb : (bd b).length ≤ 1000) :
    Calls Try.prog 51 #[va, vb] w fun e w' => (∃ v, e = .returned v ∧ IsBS (fun k => k < w.heap.size) w' v (a + b)) ∧ Fr0 w w' := by
  obtain ⟨Aa, ca, rfl, hca, hRA⟩ := ha
  obtain ⟨Ab, cb, rfl, hcb, hRB⟩ := hb
  have HRA := Lib.hid hRA
  have HRB := Lib.hid hRB
  clear hRA hRB
  obtain ⟨la, hla2⟩ : ∃ l, l = (bd a).length := ⟨_, rfl⟩
  obtain ⟨lb, hlb2⟩ : ∃ l, l = (bd b).length := ⟨_, rfl⟩
  rw [← hla2] at hla hca ⊢
  rw [← hlb2] at hlb hcb ⊢
  have HLA := Lib.hid hla2
  have HLB := Lib.hid hlb2
  clear hla2 hlb2
  go_enter Try.func51, Try.ntmps51
  go_wp2_with fail
  go_loopw [5, 6, 7] (fun s5 s6 s7 wr => ∃ (i cy : Nat) (L : List Nat) (A : Option Addr) (c : Nat), s5 = .slice A i c ∧ s6 = .int .u32 (cy : Int) ∧ s7 = .int .i64 (i : Int) ∧ Hid (L.length = i) ∧ i + cy ≤ max la lb + 1 ∧ cy ≤ 1 ∧ Hid (wr.ownsRow w.heap.size 62 1 (.slice A i c) i (u32s L)) ∧ Hid (bv L + cy * 65536 ^ i = a % 65536 ^ i + b % 65536 ^ i) ∧ Hid (∀ x ∈ L, x < 65536) ∧ Hid (Fr0 w wr)) (fun _ s6 s7 _ => (max la lb - (intOf s7).toNat) * 2 + (intOf s6).toNat)
  case atStart => exact ⟨0, 0, [], none, 0, rfl, rfl, rfl, (rfl : ([] : List Nat).length = 0), by omega, by omega, own_nil _ _ _ _, by simp [Hid, bv, Nat.mod_one], fun x hx => by simp at hx, Fr.refl _ _⟩
  case round =>
    obtain ⟨i, cy, L, A, c, rfl, rfl, rfl, hi, him, hcy, HO, HV, HL, HF⟩ := hrel
    by_cases qa : i < la
    · by_cases qb : i < lb
      · have ha1 : decide ((i : Int) < (la : Int)) = true := decide_eq_true (by omega)
        have ha2 : decide (i < la) = true := decide_eq_true (by omega)
        have ha3 : (i : Int) < (la : Int) := by omega
        have hra := HRA.out.kept HF.out
        obtain ⟨ba, oa, rfl⟩ := hra.some_ (by rw [u32s_length, ← HLA.out]; omega)
        have cella := rd_digit hra i (by rw [← HLA.out]; exact qa)
        rw [bd_get (by rw [← HLA.out]; exact qa)] at cella
        clear hra
        have hb1 : decide ((i : Int) < (lb : Int)) = true := decide_eq_true (by omega)
        have hb2 : decide (i < lb) = true := decide_eq_true (by omega)
        have hb3 : (i : Int) < (lb : Int) := by omega
        have hrb := HRB.out.kept HF.out
        obtain ⟨bb, ob, rfl⟩ := hrb.some_ (by rw [u32s_length, ← HLB.out]; omega)
        have cellb := rd_digit hrb i (by rw [← HLB.out]; exact qb)
        rw [bd_get (by rw [← HLB.out]; exact qb)] at cellb
        clear hrb
        obtain ⟨x, hx⟩ : ∃ x, x = a / 65536 ^ i % 65536 := ⟨_, rfl⟩
        obtain ⟨y, hy⟩ : ∃ y, y = b / 65536 ^ i % 65536 := ⟨_, rfl⟩
        have hxl : x < 65536 := by rw [hx]; exact Nat.mod_lt _ (by omega)
        have hyl : y < 65536 := by rw [hy]; exact Nat.mod_lt _ (by omega)
        rw [← hx] at cella
        rw [← hy] at cellb
        obtain ⟨t, ht⟩ : ∃ t, t = cy + x + y := ⟨_, rfl⟩
        have HV2 := Lib.hid (add_digit hi.out HV.out (show t = cy + a / 65536 ^ i % 65536 + b / 65536 ^ i % 65536 by rw [ht, hx, hy]))
        obtain ⟨d, hd⟩ : ∃ d, d = t % 65536 := ⟨_, rfl⟩
        obtain ⟨c2, hc2⟩ : ∃ d, d = t / 65536 := ⟨_, rfl⟩
        rw [← hd, ← hc2] at HV2
        have s1 : IntKind.u32.wrap ((cy : Int) + (x : Int)) = ((cy + x : Nat) : Int) := by rw [IntKind.wrap_u32]; omega
        have s2 : IntKind.u32.wrap (((cy + x : Nat) : Int) + (y : Int)) = (t : Int) := by rw [IntKind.wrap_u32]; omega
        obtain ⟨u, hu⟩ : ∃ u, u = cy + x := ⟨_, rfl⟩
        rw [← hu] at s1 s2
        clear hu
        have s1' := s1
        rw [IntKind.wrap_u32] at s1'
        have s2' := s2
        rw [IntKind.wrap_u32] at s2'
        have r1 : (t : Int).tmod 65536 = (d : Int) := remN hd
        have r2 : (t : Int).tdiv 65536 = (c2 : Int) := quoN hc2
        have r3 : IntKind.u32.wrap (d : Int) = (d : Int) := by rw [IntKind.wrap_u32]; omega
        have r4 : IntKind.u32.wrap (c2 : Int) = (c2 : Int) := by rw [IntKind.wrap_u32]; omega
        have r3' := r3
        rw [IntKind.wrap_u32] at r3'
        have r4' := r4
        rw [IntKind.wrap_u32] at r4'
        have hdl : d < 65536 := by omega
        have hcl : c2 ≤ 1 := by omega
        have hm2 : i + 1 + c2 ≤ max la lb + 1 := by omega
        have HMS := Lib.hid (show (max la lb - (i + 1)) * 2 + c2 < (max la lb - i) * 2 + cy by omega)
        have hi1 : (0 : Int) ≤ (i : Int) := by omega
        have HXB := Lib.hid (And.intro hdl hcl)
        clear hxl hyl hdl hcl hcy
        clear hx hy ht hd hc2 HV
        go_wp2_with (first | (at_builtin; refine wpList_app rfl (.tmp 44) (.tmp 47) _ rfl Try.underlying58 u32_elem (base := w.heap.size) (.slice A i c) i (u32s L) rfl (own_kept0 HO.out ((Fr.refl _ wr).alloc _)) (fun _ => False) _ 1 1 (u32s [d]) rfl (rdn_new (fun _ => False) wr (u32s [d]) _ (fun h => h)) rfl (u32s_one _) (by simp only [maxLen]; omega) (by omega) (by have := HF.out.size; simp; omega) (by simp) ?_; intro v6 w6 hown hg hat; obtain ⟨A6, cv6, rfl, hvc6, hvm6⟩ := own_form hown) | fail)
        go_roundw
        case rel =>
          refine ⟨i + 1, c2, L ++ [d], A6, cv6, rfl, rfl, by go_num, by rw [List.length_append, hi.out]; rfl, hm2, HXB.out.2, ?_, HV2, lt_push HL.out HXB.out.1, ?_⟩
          · rw [u32s_append]; exact hown
          · refine (HF.out.alloc _).grown hg (fun k hk e => ?_)
            have := (own_blk HO.out e).1
            omega
        case measure => have := HMS.out; simp [intOf]; omega
      · have ha1 : decide ((i : Int) < (la : Int)) = true := decide_eq_true (by omega)
        have ha2 : decide (i < la) = true := decide_eq_true (by omega)
        have ha3 : (i : Int) < (la : Int) := by omega
        have hra := HRA.out.kept HF.out
        obtain ⟨ba, oa, rfl⟩ := hra.some_ (by rw [u32s_length, ← HLA.out]; omega)
        have cella := rd_digit hra i (by rw [← HLA.out]; exact qa)
        rw [bd_get (by rw [← HLA.out]; exact qa)] at cella
        clear hra
        have hb1 : decide ((i : Int) < (lb : Int)) = false := decide_eq_false (by omega)
        have hb2 : decide (i < lb) = false := decide_eq_false (by omega)
        have zb : b / 65536 ^ i % 65536 = 0 := by rw [Nat.div_eq_of_lt ((bd_len_le b i).1 (by rw [← HLB.out]; omega))]
        obtain ⟨x, hx⟩ : ∃ x, x = a / 65536 ^ i % 65536 := ⟨_, rfl⟩
        obtain ⟨y, hy⟩ : ∃ y, y = b / 65536 ^ i % 65536 := ⟨_, rfl⟩
        have hxl : x < 65536 := by rw [hx]; exact Nat.mod_lt _ (by omega)
        have hyl : y < 65536 := by rw [hy]; exact Nat.mod_lt _ (by omega)
        rw [← hx] at cella
        have hy0 : y = 0 := hy.trans zb
        obtain ⟨t, ht⟩ : ∃ t, t = cy + x + y := ⟨_, rfl⟩
        have HV2 := Lib.hid (add_digit hi.out HV.out (show t = cy + a / 65536 ^ i % 65536 + b / 65536 ^ i % 65536 by rw [ht, hx, hy]))
        obtain ⟨d, hd⟩ : ∃ d, d = t % 65536 := ⟨_, rfl⟩
        obtain ⟨c2, hc2⟩ : ∃ d, d = t / 65536 := ⟨_, rfl⟩
        rw [← hd, ← hc2] at HV2
        have s1 : IntKind.u32.wrap ((cy : Int) + (x : Int)) = ((cy + x : Nat) : Int) := by rw [IntKind.wrap_u32]; omega
        have s3 : cy + x = t := by omega
        rw [s3] at s1
        clear s3
        have s1' := s1
        rw [IntKind.wrap_u32] at s1'
        have r1 : (t : Int).tmod 65536 = (d : Int) := remN hd
        have r2 : (t : Int).tdiv 65536 = (c2 : Int) := quoN hc2
        have r3 : IntKind.u32.wrap (d : Int) = (d : Int) := by rw [IntKind.wrap_u32]; omega
        have r4 : IntKind.u32.wrap (c2 : Int) = (c2 : Int) := by rw [IntKind.wrap_u32]; omega
        have r3' := r3
        rw [IntKind.wrap_u32] at r3'
        have r4' := r4
        rw [IntKind.wrap_u32] at r4'
        have hdl : d < 65536 := by omega
        have hcl : c2 ≤ 1 := by omega
        have hm2 : i + 1 + c2 ≤ max la lb + 1 := by omega
        have HMS := Lib.hid (show (max la lb - (i + 1)) * 2 + c2 < (max la lb - i) * 2 + cy by omega)
        have hi1 : (0 : Int) ≤ (i : Int) := by omega
        have HXB := Lib.hid (And.intro hdl hcl)
        clear hxl hyl hdl hcl hcy
        clear hx hy ht hd hc2 HV zb hy0
        go_wp2_with (first | (at_builtin; refine wpList_app rfl (.tmp 44) (.tmp 47) _ rfl Try.underlying58 u32_elem (base := w.heap.size) (.slice A i c) i (u32s L) rfl (own_kept0 HO.out ((Fr.refl _ wr).alloc _)) (fun _ => False) _ 1 1 (u32s [d]) rfl (rdn_new (fun _ => False) wr (u32s [d]) _ (fun h => h)) rfl (u32s_one _) (by simp only [maxLen]; omega) (by omega) (by have := HF.out.size; simp; omega) (by simp) ?_; intro v6 w6 hown hg hat; obtain ⟨A6, cv6, rfl, hvc6, hvm6⟩ := own_form hown) | fail)
        go_roundw
        case rel =>
          refine ⟨i + 1, c2, L ++ [d], A6, cv6, rfl, rfl, by go_num, by rw [List.length_append, hi.out]; rfl, hm2, HXB.out.2, ?_, HV2, lt_push HL.out HXB.out.1, ?_⟩
          · rw [u32s_append]; exact hown
          · refine (HF.out.alloc _).grown hg (fun k hk e => ?_)
            have := (own_blk HO.out e).1
            omega
        case measure => have := HMS.out; simp [intOf]; omega
    · by_cases qb : i < lb
      · have ha1 : decide ((i : Int) < (la : Int)) = false := decide_eq_false (by omega)
        have ha2 : decide (i < la) = false := decide_eq_false (by omega)
        have za : a / 65536 ^ i % 65536 = 0 := by rw [Nat.div_eq_of_lt ((bd_len_le a i).1 (by rw [← HLA.out]; omega))]
        have hb1 : decide ((i : Int) < (lb : Int)) = true := decide_eq_true (by omega)
        have hb2 : decide (i < lb) = true := decide_eq_true (by omega)
        have hb3 : (i : Int) < (lb : Int) := by omega
        have hrb := HRB.out.kept HF.out
        obtain ⟨bb, ob, rfl⟩ := hrb.some_ (by rw [u32s_length, ← HLB.out]; omega)
        have cellb := rd_digit hrb i (by rw [← HLB.out]; exact qb)
        rw [bd_get (by rw [← HLB.out]; exact qb)] at cellb
        clear hrb
        obtain ⟨x, hx⟩ : ∃ x, x = a / 65536 ^ i % 65536 := ⟨_, rfl⟩
        obtain ⟨y, hy⟩ : ∃ y, y = b / 65536 ^ i % 65536 := ⟨_, rfl⟩
        have hxl : x < 65536 := by rw [hx]; exact Nat.mod_lt _ (by omega)
        have hyl : y < 65536 := by rw [hy]; exact Nat.mod_lt _ (by omega)
        have hx0 : x = 0 := hx.trans za
        rw [← hy] at cellb
        obtain ⟨t, ht⟩ : ∃ t, t = cy + x + y := ⟨_, rfl⟩
        have HV2 := Lib.hid (add_digit hi.out HV.out (show t = cy + a / 65536 ^ i % 65536 + b / 65536 ^ i % 65536 by rw [ht, hx, hy]))
        obtain ⟨d, hd⟩ : ∃ d, d = t % 65536 := ⟨_, rfl⟩
        obtain ⟨c2, hc2⟩ : ∃ d, d = t / 65536 := ⟨_, rfl⟩
        rw [← hd, ← hc2] at HV2
        have s2 : IntKind.u32.wrap ((cy : Int) + (y : Int)) = (t : Int) := by rw [IntKind.wrap_u32]; omega
        have s2' := s2
        rw [IntKind.wrap_u32] at s2'
        have r1 : (t : Int).tmod 65536 = (d : Int) := remN hd
        have r2 : (t : Int).tdiv 65536 = (c2 : Int) := quoN hc2
        have r3 : IntKind.u32.wrap (d : Int) = (d : Int) := by rw [IntKind.wrap_u32]; omega
        have r4 : IntKind.u32.wrap (c2 : Int) = (c2 : Int) := by rw [IntKind.wrap_u32]; omega
        have r3' := r3
        rw [IntKind.wrap_u32] at r3'
        have r4' := r4
        rw [IntKind.wrap_u32] at r4'
        have hdl : d < 65536 := by omega
        have hcl : c2 ≤ 1 := by omega
        have hm2 : i + 1 + c2 ≤ max la lb + 1 := by omega
        have HMS := Lib.hid (show (max la lb - (i + 1)) * 2 + c2 < (max la lb - i) * 2 + cy by omega)
        have hi1 : (0 : Int) ≤ (i : Int) := by omega
        have HXB := Lib.hid (And.intro hdl hcl)
        clear hxl hyl hdl hcl hcy
        clear hx hy ht hd hc2 HV za hx0
        go_wp2_with (first | (at_builtin; refine wpList_app rfl (.tmp 44) (.tmp 47) _ rfl Try.underlying58 u32_elem (base := w.heap.size) (.slice A i c) i (u32s L) rfl (own_kept0 HO.out ((Fr.refl _ wr).alloc _)) (fun _ => False) _ 1 1 (u32s [d]) rfl (rdn_new (fun _ => False) wr (u32s [d]) _ (fun h => h)) rfl (u32s_one _) (by simp only [maxLen]; omega) (by omega) (by have := HF.out.size; simp; omega) (by simp) ?_; intro v6 w6 hown hg hat; obtain ⟨A6, cv6, rfl, hvc6, hvm6⟩ := own_form hown) | fail)
        go_roundw
        case rel =>
          refine ⟨i + 1, c2, L ++ [d], A6, cv6, rfl, rfl, by go_num, by rw [List.length_append, hi.out]; rfl, hm2, HXB.out.2, ?_, HV2, lt_push HL.out HXB.out.1, ?_⟩
          · rw [u32s_append]; exact hown
          · refine (HF.out.alloc _).grown hg (fun k hk e => ?_)
            have := (own_blk HO.out e).1
            omega
        case measure => have := HMS.out; simp [intOf]; omega
      · by_cases qc : 0 < cy
        · have ha1 : decide ((i : Int) < (la : Int)) = false := decide_eq_false (by omega)
          have ha2 : decide (i < la) = false := decide_eq_false (by omega)
          have za : a / 65536 ^ i % 65536 = 0 := by rw [Nat.div_eq_of_lt ((bd_len_le a i).1 (by rw [← HLA.out]; omega))]
          have hb1 : decide ((i : Int) < (lb : Int)) = false := decide_eq_false (by omega)
          have hb2 : decide (i < lb) = false := decide_eq_false (by omega)
          have zb : b / 65536 ^ i % 65536 = 0 := by rw [Nat.div_eq_of_lt ((bd_len_le b i).1 (by rw [← HLB.out]; omega))]
          obtain ⟨x, hx⟩ : ∃ x, x = a / 65536 ^ i % 65536 := ⟨_, rfl⟩
          obtain ⟨y, hy⟩ : ∃ y, y = b / 65536 ^ i % 65536 := ⟨_, rfl⟩
          have hxl : x < 65536 := by rw [hx]; exact Nat.mod_lt _ (by omega)
          have hyl : y < 65536 := by rw [hy]; exact Nat.mod_lt _ (by omega)
          have hx0 : x = 0 := hx.trans za
          have hy0 : y = 0 := hy.trans zb
          obtain ⟨t, ht⟩ : ∃ t, t = cy + x + y := ⟨_, rfl⟩
          have HV2 := Lib.hid (add_digit hi.out HV.out (show t = cy + a / 65536 ^ i % 65536 + b / 65536 ^ i % 65536 by rw [ht, hx, hy]))
          obtain ⟨d, hd⟩ : ∃ d, d = t % 65536 := ⟨_, rfl⟩
          obtain ⟨c2, hc2⟩ : ∃ d, d = t / 65536 := ⟨_, rfl⟩
          rw [← hd, ← hc2] at HV2
          have s3 : t = cy := by omega
          rw [s3] at hd hc2
          have r1 : (cy : Int).tmod 65536 = (d : Int) := remN hd
          have r2 : (cy : Int).tdiv 65536 = (c2 : Int) := quoN hc2
          have r3 : IntKind.u32.wrap (d : Int) = (d : Int) := by rw [IntKind.wrap_u32]; omega
          have r4 : IntKind.u32.wrap (c2 : Int) = (c2 : Int) := by rw [IntKind.wrap_u32]; omega
          have r3' := r3
          rw [IntKind.wrap_u32] at r3'
          have r4' := r4
          rw [IntKind.wrap_u32] at r4'
          have hdl : d < 65536 := by omega
          have hcl : c2 ≤ 1 := by omega
          have hm2 : i + 1 + c2 ≤ max la lb + 1 := by omega
          have HMS := Lib.hid (show (max la lb - (i + 1)) * 2 + c2 < (max la lb - i) * 2 + cy by omega)
          have hcy1 : decide ((0 : Int) < (cy : Int)) = true := decide_eq_true (by omega)
          have hcy2 : decide (0 < cy) = true := decide_eq_true (by omega)
          have hi1 : (0 : Int) ≤ (i : Int) := by omega
          have HXB := Lib.hid (And.intro hdl hcl)
          clear hxl hyl hdl hcl hcy
          clear hx hy ht hd hc2 HV za hx0 zb hy0
          go_wp2_with (first | (at_builtin; refine wpList_app rfl (.tmp 44) (.tmp 47) _ rfl Try.underlying58 u32_elem (base := w.heap.size) (.slice A i c) i (u32s L) rfl (own_kept0 HO.out ((Fr.refl _ wr).alloc _)) (fun _ => False) _ 1 1 (u32s [d]) rfl (rdn_new (fun _ => False) wr (u32s [d]) _ (fun h => h)) rfl (u32s_one _) (by simp only [maxLen]; omega) (by omega) (by have := HF.out.size; simp; omega) (by simp) ?_; intro v6 w6 hown hg hat; obtain ⟨A6, cv6, rfl, hvc6, hvm6⟩ := own_form hown) | fail)
          go_roundw
          case rel =>
            refine ⟨i + 1, c2, L ++ [d], A6, cv6, rfl, rfl, by go_num, by rw [List.length_append, hi.out]; rfl, hm2, HXB.out.2, ?_, HV2, lt_push HL.out HXB.out.1, ?_⟩
            · rw [u32s_append]; exact hown
            · refine (HF.out.alloc _).grown hg (fun k hk e => ?_)
              have := (own_blk HO.out e).1
              omega
          case measure => have := HMS.out; simp [intOf]; omega
        · have hc0 : cy = 0 := by omega
          subst hc0
          clear hcy
          have ha1 : decide ((i : Int) < (la : Int)) = false := decide_eq_false (by omega)
          have ha2 : decide (i < la) = false := decide_eq_false (by omega)
          have hb1 : decide ((i : Int) < (lb : Int)) = false := decide_eq_false (by omega)
          have hb2 : decide (i < lb) = false := decide_eq_false (by omega)
          have hv : bv L = a + b := by
            have := HV.out
            rw [Nat.zero_mul, Nat.add_zero, Nat.mod_eq_of_lt ((bd_len_le a i).1 (by rw [← HLA.out]; omega)), Nat.mod_eq_of_lt ((bd_len_le b i).1 (by rw [← HLB.out]; omega))] at this
            exact this
          have hown5 := HO.out
          rw [← hi.out] at hown5
          obtain ⟨A5, c5, e5, h5, hR5⟩ := isD_ownS hown5
          cases e5
          have HT := Lib.hid (rtrim_calls A c L wr hR5 h5 HL.out (by rw [hi.out]; omega))
          rw [hi.out] at HT
          rw [hv] at HT
          clear hv HV hR5 qc hown5 h5
          go_wp2_with (first | (go_at_call 73; refine HT.out.mono ?_; rintro _ w5 ⟨⟨v5, rfl, hb5⟩, hf5⟩) | fail)
          go_ret
          exact ⟨⟨_, rfl, hb5⟩, HF.out.trans hf5⟩
end Go.Proofs.Ytdakeenjeieekaa
