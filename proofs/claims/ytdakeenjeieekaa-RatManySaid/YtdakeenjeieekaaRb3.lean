/- Chapter 01, the document: Sub. -/
import Derived.Test.YtdakeenjeieekaaRb1
set_option linter.unusedVariables false
set_option linter.unusedSimpArgs false
namespace Go.Proofs.Ytdakeenjeieekaa
open Go.RowKit
attribute [local go_sem] Oper.semAt_some

theorem w64_id {x : Int} (h1 : -9223372036854775808 ≤ x) (h2 : x ≤ 9223372036854775807) : wrap64 x = x := by
  simp only [wrap64]; omega
set_option maxHeartbeats 4000000 in
theorem bsub_calls (a b : Nat) (va vb : Value) (w : World) (hle : b ≤ a) (ha : IsB w va a) (hb : IsB w vb b) (hla : (bd a).length ≤ 1000) (hlb : (bd b).length ≤ 1000) :
    Calls Try.prog 53 #[va, vb] w fun e w' => (∃ v, e = .returned v ∧ IsBS (fun k => k < w.heap.size) w' v (a - b)) ∧ Fr0 w w' := by
  obtain ⟨Aa, ca, rfl, hca, hRA⟩ := ha
  obtain ⟨Ab, cb, rfl, hcb, hRB⟩ := hb
  have HRA := Lib.hid hRA
  have HRB := Lib.hid hRB
  clear hRA hRB
  obtain ⟨la, hla2⟩ : ∃ l, l = (bd a).length := ⟨_, rfl⟩
  obtain ⟨lb, hlb2⟩ : ∃ l, l = (bd b).length := ⟨_, rfl⟩
  rw [← hla2] at hla hca ⊢
  rw [← hlb2] at hlb hcb ⊢
  have HLA := Lib.hid hla2
  have HLB := Lib.hid hlb2
  have HLE := Lib.hid hle
  clear hla2 hlb2 hle
  go_enter Try.func53, Try.ntmps53
  go_wp2_with fail
  go_loopw [5, 6, 7] (fun s5 s6 s7 wr => ∃ (i cy : Nat) (L : List Nat) (A : Option Addr) (c : Nat), s5 = .slice A i c ∧ s6 = .int .i64 (-(cy : Int)) ∧ s7 = .int .i64 (i : Int) ∧ Hid (L.length = i) ∧ i ≤ la ∧ cy ≤ 1 ∧ Hid (wr.ownsRow w.heap.size 62 1 (.slice A i c) i (u32s L)) ∧ Hid (bv L + b % 65536 ^ i = a % 65536 ^ i + cy * 65536 ^ i) ∧ Hid (∀ x ∈ L, x < 65536) ∧ Hid (Fr0 w wr)) (fun _ _ s7 _ => la - (intOf s7).toNat)
  case atStart => exact ⟨0, 0, [], none, 0, rfl, rfl, rfl, (rfl : ([] : List Nat).length = 0), by omega, by omega, own_nil _ _ _ _, by simp [Hid, bv, Nat.mod_one], fun x hx => by simp at hx, Fr.refl _ _⟩
  case round =>
    obtain ⟨i, cy, L, A, c, rfl, rfl, rfl, hi, him, hcy, HO, HV, HL, HF⟩ := hrel
    by_cases qa : i < la
    · have ha1 : decide ((i : Int) < (la : Int)) = true := decide_eq_true (by omega)
      have ha2 : decide (i < la) = true := decide_eq_true (by omega)
      have ha3 : (i : Int) < (la : Int) := by omega
      have hra := HRA.out.kept HF.out
      obtain ⟨ba, oa, rfl⟩ := hra.some_ (by rw [u32s_length, ← HLA.out]; omega)
      have cella := rd_digit hra i (by rw [← HLA.out]; exact qa)
      rw [bd_get (by rw [← HLA.out]; exact qa)] at cella
      clear hra
      by_cases qb : i < lb <;> by_cases qn : (a / 65536 ^ i % 65536) < cy + b / 65536 ^ i % 65536
      · have hb1 : decide ((i : Int) < (lb : Int)) = true := decide_eq_true (by omega)
        have hb2 : decide (i < lb) = true := decide_eq_true (by omega)
        have hb3 : (i : Int) < (lb : Int) := by omega
        have hrb := HRB.out.kept HF.out
        obtain ⟨bb, ob, rfl⟩ := hrb.some_ (by rw [u32s_length, ← HLB.out]; omega)
        have cellb := rd_digit hrb i (by rw [← HLB.out]; exact qb)
        rw [bd_get (by rw [← HLB.out]; exact qb)] at cellb
        clear hrb
        obtain ⟨x, hx⟩ : ∃ x, x = a / 65536 ^ i % 65536 := ⟨_, rfl⟩
        obtain ⟨y, hy⟩ : ∃ y, y = b / 65536 ^ i % 65536 := ⟨_, rfl⟩
        have hxl : x < 65536 := by rw [hx]; exact Nat.mod_lt _ (by omega)
        have hyl : y < 65536 := by rw [hy]; exact Nat.mod_lt _ (by omega)
        rw [← hx] at cella
        rw [← hy] at cellb
        rw [← hx, ← hy] at qn
        obtain ⟨d, hd⟩ : ∃ d : Nat, d + cy + y = x + 65536 := ⟨x + 65536 - cy - y, by omega⟩
        have HV2 := Lib.hid (sub_digit (d := 1) hi.out HV.out (show d + cy + b / 65536 ^ i % 65536 = a / 65536 ^ i % 65536 + 1 * 65536 by rw [← hx, ← hy]; omega))
        clear hx hy HV
        obtain ⟨u, hu⟩ : ∃ u : Int, u = -(cy : Int) + (x : Int) := ⟨_, rfl⟩
        obtain ⟨v, hv⟩ : ∃ v : Int, v = u - (y : Int) := ⟨_, rfl⟩
        have hur : -9223372036854775808 ≤ u ∧ u ≤ 9223372036854775807 := by omega
        have hvr : -9223372036854775808 ≤ v ∧ v ≤ 9223372036854775807 := by omega
        have hxr : -9223372036854775808 ≤ (x : Int) ∧ (x : Int) ≤ 9223372036854775807 := by omega
        have hyr : -9223372036854775808 ≤ (y : Int) ∧ (y : Int) ≤ 9223372036854775807 := by omega
        have hdr : -9223372036854775808 ≤ (d : Int) ∧ (d : Int) ≤ 9223372036854775807 := by omega
        have s3 : decide (v < 0) = true := decide_eq_true (by omega)
        have s4 : v + 65536 = (d : Int) := by omega
        have s6b : (d : Int) % 4294967296 = (d : Int) := by omega
        have hdl : d < 65536 := by omega
        have HXB := Lib.hid hdl
        have hi1 : (0 : Int) ≤ (i : Int) := by omega
        have wx := w64_id hxr.1 hxr.2
        have wy := w64_id hyr.1 hyr.2
        have s1w : wrap64 (-(cy : Int) + (x : Int)) = u := by rw [← hu]; exact w64_id hur.1 hur.2
        have s2w : wrap64 (u - (y : Int)) = v := by rw [← hv]; exact w64_id hvr.1 hvr.2
        have s4w : wrap64 (v + 65536) = (d : Int) := by rw [s4]; exact w64_id hdr.1 hdr.2
        clear s4
        clear hd hu hv hxl hyl hdl hcy qn hur hvr hxr hyr hdr
        go_wp2_with (first | (at_builtin; refine wpList_app rfl (.tmp 38) (.tmp 41) _ rfl Try.underlying58 u32_elem (base := w.heap.size) (.slice A i c) i (u32s L) rfl (own_kept0 HO.out ((Fr.refl _ wr).alloc _)) (fun _ => False) _ 1 1 (u32s [d]) rfl (rdn_new (fun _ => False) wr (u32s [d]) _ (fun h => h)) rfl (u32s_one _) (by simp only [maxLen]; omega) (by omega) (by have := HF.out.size; simp; omega) (by simp) ?_; intro v6 w6 hown hg hat; obtain ⟨A6, cv6, rfl, hvc6, hvm6⟩ := own_form hown) | fail)
        go_roundw
        case rel =>
          refine ⟨i + 1, 1, L ++ [d], A6, cv6, rfl, by first | rfl | simp, by go_num, by rw [List.length_append, hi.out]; rfl, by omega, by omega, ?_, HV2, lt_push HL.out HXB.out, ?_⟩
          · rw [u32s_append]; exact hown
          · refine (HF.out.alloc _).grown hg (fun k hk e => ?_)
            have := (own_blk HO.out e).1
            omega
        case measure => first | (simp [intOf]; done) | (simp [intOf]; omega)
      · have hb1 : decide ((i : Int) < (lb : Int)) = true := decide_eq_true (by omega)
        have hb2 : decide (i < lb) = true := decide_eq_true (by omega)
        have hb3 : (i : Int) < (lb : Int) := by omega
        have hrb := HRB.out.kept HF.out
        obtain ⟨bb, ob, rfl⟩ := hrb.some_ (by rw [u32s_length, ← HLB.out]; omega)
        have cellb := rd_digit hrb i (by rw [← HLB.out]; exact qb)
        rw [bd_get (by rw [← HLB.out]; exact qb)] at cellb
        clear hrb
        obtain ⟨x, hx⟩ : ∃ x, x = a / 65536 ^ i % 65536 := ⟨_, rfl⟩
        obtain ⟨y, hy⟩ : ∃ y, y = b / 65536 ^ i % 65536 := ⟨_, rfl⟩
        have hxl : x < 65536 := by rw [hx]; exact Nat.mod_lt _ (by omega)
        have hyl : y < 65536 := by rw [hy]; exact Nat.mod_lt _ (by omega)
        rw [← hx] at cella
        rw [← hy] at cellb
        rw [← hx, ← hy] at qn
        obtain ⟨d, hd⟩ : ∃ d : Nat, d + cy + y = x := ⟨x - cy - y, by omega⟩
        have HV2 := Lib.hid (sub_digit (d := 0) hi.out HV.out (show d + cy + b / 65536 ^ i % 65536 = a / 65536 ^ i % 65536 + 0 * 65536 by rw [← hx, ← hy]; omega))
        clear hx hy HV
        obtain ⟨u, hu⟩ : ∃ u : Int, u = -(cy : Int) + (x : Int) := ⟨_, rfl⟩
        obtain ⟨v, hv⟩ : ∃ v : Int, v = u - (y : Int) := ⟨_, rfl⟩
        have hur : -9223372036854775808 ≤ u ∧ u ≤ 9223372036854775807 := by omega
        have hvr : -9223372036854775808 ≤ v ∧ v ≤ 9223372036854775807 := by omega
        have hxr : -9223372036854775808 ≤ (x : Int) ∧ (x : Int) ≤ 9223372036854775807 := by omega
        have hyr : -9223372036854775808 ≤ (y : Int) ∧ (y : Int) ≤ 9223372036854775807 := by omega
        have hdr : -9223372036854775808 ≤ (d : Int) ∧ (d : Int) ≤ 9223372036854775807 := by omega
        have s3 : decide (v < 0) = false := decide_eq_false (by omega)
        have s6b : v % 4294967296 = (d : Int) := by omega
        have hdl : d < 65536 := by omega
        have HXB := Lib.hid hdl
        have hi1 : (0 : Int) ≤ (i : Int) := by omega
        have wx := w64_id hxr.1 hxr.2
        have wy := w64_id hyr.1 hyr.2
        have s1w : wrap64 (-(cy : Int) + (x : Int)) = u := by rw [← hu]; exact w64_id hur.1 hur.2
        have s2w : wrap64 (u - (y : Int)) = v := by rw [← hv]; exact w64_id hvr.1 hvr.2
        clear hd hu hv hxl hyl hdl hcy qn hur hvr hxr hyr hdr
        go_wp2_with (first | (at_builtin; refine wpList_app rfl (.tmp 38) (.tmp 41) _ rfl Try.underlying58 u32_elem (base := w.heap.size) (.slice A i c) i (u32s L) rfl (own_kept0 HO.out ((Fr.refl _ wr).alloc _)) (fun _ => False) _ 1 1 (u32s [d]) rfl (rdn_new (fun _ => False) wr (u32s [d]) _ (fun h => h)) rfl (u32s_one _) (by simp only [maxLen]; omega) (by omega) (by have := HF.out.size; simp; omega) (by simp) ?_; intro v6 w6 hown hg hat; obtain ⟨A6, cv6, rfl, hvc6, hvm6⟩ := own_form hown) | fail)
        go_roundw
        case rel =>
          refine ⟨i + 1, 0, L ++ [d], A6, cv6, rfl, by first | rfl | simp, by go_num, by rw [List.length_append, hi.out]; rfl, by omega, by omega, ?_, HV2, lt_push HL.out HXB.out, ?_⟩
          · rw [u32s_append]; exact hown
          · refine (HF.out.alloc _).grown hg (fun k hk e => ?_)
            have := (own_blk HO.out e).1
            omega
        case measure => first | (simp [intOf]; done) | (simp [intOf]; omega)
      · have hb1 : decide ((i : Int) < (lb : Int)) = false := decide_eq_false (by omega)
        have hb2 : decide (i < lb) = false := decide_eq_false (by omega)
        have zb : b / 65536 ^ i % 65536 = 0 := by rw [Nat.div_eq_of_lt ((bd_len_le b i).1 (by rw [← HLB.out]; omega))]
        obtain ⟨x, hx⟩ : ∃ x, x = a / 65536 ^ i % 65536 := ⟨_, rfl⟩
        obtain ⟨y, hy⟩ : ∃ y, y = b / 65536 ^ i % 65536 := ⟨_, rfl⟩
        have hxl : x < 65536 := by rw [hx]; exact Nat.mod_lt _ (by omega)
        have hyl : y < 65536 := by rw [hy]; exact Nat.mod_lt _ (by omega)
        rw [← hx] at cella
        have hy0 : y = 0 := hy.trans zb
        rw [← hx, ← hy] at qn
        obtain ⟨d, hd⟩ : ∃ d : Nat, d + cy + y = x + 65536 := ⟨x + 65536 - cy - y, by omega⟩
        have HV2 := Lib.hid (sub_digit (d := 1) hi.out HV.out (show d + cy + b / 65536 ^ i % 65536 = a / 65536 ^ i % 65536 + 1 * 65536 by rw [← hx, ← hy]; omega))
        clear hx hy HV zb
        obtain ⟨u, hu⟩ : ∃ u : Int, u = -(cy : Int) + (x : Int) := ⟨_, rfl⟩
        obtain ⟨v, hv⟩ : ∃ v : Int, v = u := ⟨_, rfl⟩
        have hur : -9223372036854775808 ≤ u ∧ u ≤ 9223372036854775807 := by omega
        have hvr : -9223372036854775808 ≤ v ∧ v ≤ 9223372036854775807 := by omega
        have hxr : -9223372036854775808 ≤ (x : Int) ∧ (x : Int) ≤ 9223372036854775807 := by omega
        have hyr : -9223372036854775808 ≤ (y : Int) ∧ (y : Int) ≤ 9223372036854775807 := by omega
        have hdr : -9223372036854775808 ≤ (d : Int) ∧ (d : Int) ≤ 9223372036854775807 := by omega
        have s3 : decide (u < 0) = true := decide_eq_true (by omega)
        have s4 : u + 65536 = (d : Int) := by omega
        have s6b : (d : Int) % 4294967296 = (d : Int) := by omega
        have hdl : d < 65536 := by omega
        have HXB := Lib.hid hdl
        have hi1 : (0 : Int) ≤ (i : Int) := by omega
        have wx := w64_id hxr.1 hxr.2
        have wy := w64_id hyr.1 hyr.2
        have s1w : wrap64 (-(cy : Int) + (x : Int)) = u := by rw [← hu]; exact w64_id hur.1 hur.2
        have s4w : wrap64 (u + 65536) = (d : Int) := by rw [s4]; exact w64_id hdr.1 hdr.2
        clear s4
        clear hd hu hv hxl hyl hdl hcy qn hur hvr hxr hyr hdr hy0
        go_wp2_with (first | (at_builtin; refine wpList_app rfl (.tmp 38) (.tmp 41) _ rfl Try.underlying58 u32_elem (base := w.heap.size) (.slice A i c) i (u32s L) rfl (own_kept0 HO.out ((Fr.refl _ wr).alloc _)) (fun _ => False) _ 1 1 (u32s [d]) rfl (rdn_new (fun _ => False) wr (u32s [d]) _ (fun h => h)) rfl (u32s_one _) (by simp only [maxLen]; omega) (by omega) (by have := HF.out.size; simp; omega) (by simp) ?_; intro v6 w6 hown hg hat; obtain ⟨A6, cv6, rfl, hvc6, hvm6⟩ := own_form hown) | fail)
        go_roundw
        case rel =>
          refine ⟨i + 1, 1, L ++ [d], A6, cv6, rfl, by first | rfl | simp, by go_num, by rw [List.length_append, hi.out]; rfl, by omega, by omega, ?_, HV2, lt_push HL.out HXB.out, ?_⟩
          · rw [u32s_append]; exact hown
          · refine (HF.out.alloc _).grown hg (fun k hk e => ?_)
            have := (own_blk HO.out e).1
            omega
        case measure => first | (simp [intOf]; done) | (simp [intOf]; omega)
      · have hb1 : decide ((i : Int) < (lb : Int)) = false := decide_eq_false (by omega)
        have hb2 : decide (i < lb) = false := decide_eq_false (by omega)
        have zb : b / 65536 ^ i % 65536 = 0 := by rw [Nat.div_eq_of_lt ((bd_len_le b i).1 (by rw [← HLB.out]; omega))]
        obtain ⟨x, hx⟩ : ∃ x, x = a / 65536 ^ i % 65536 := ⟨_, rfl⟩
        obtain ⟨y, hy⟩ : ∃ y, y = b / 65536 ^ i % 65536 := ⟨_, rfl⟩
        have hxl : x < 65536 := by rw [hx]; exact Nat.mod_lt _ (by omega)
        have hyl : y < 65536 := by rw [hy]; exact Nat.mod_lt _ (by omega)
        rw [← hx] at cella
        have hy0 : y = 0 := hy.trans zb
        rw [← hx, ← hy] at qn
        obtain ⟨d, hd⟩ : ∃ d : Nat, d + cy + y = x := ⟨x - cy - y, by omega⟩
        have HV2 := Lib.hid (sub_digit (d := 0) hi.out HV.out (show d + cy + b / 65536 ^ i % 65536 = a / 65536 ^ i % 65536 + 0 * 65536 by rw [← hx, ← hy]; omega))
        clear hx hy HV zb
        obtain ⟨u, hu⟩ : ∃ u : Int, u = -(cy : Int) + (x : Int) := ⟨_, rfl⟩
        obtain ⟨v, hv⟩ : ∃ v : Int, v = u := ⟨_, rfl⟩
        have hur : -9223372036854775808 ≤ u ∧ u ≤ 9223372036854775807 := by omega
        have hvr : -9223372036854775808 ≤ v ∧ v ≤ 9223372036854775807 := by omega
        have hxr : -9223372036854775808 ≤ (x : Int) ∧ (x : Int) ≤ 9223372036854775807 := by omega
        have hyr : -9223372036854775808 ≤ (y : Int) ∧ (y : Int) ≤ 9223372036854775807 := by omega
        have hdr : -9223372036854775808 ≤ (d : Int) ∧ (d : Int) ≤ 9223372036854775807 := by omega
        have s3 : decide (u < 0) = false := decide_eq_false (by omega)
        have s6b : u % 4294967296 = (d : Int) := by omega
        have hdl : d < 65536 := by omega
        have HXB := Lib.hid hdl
        have hi1 : (0 : Int) ≤ (i : Int) := by omega
        have wx := w64_id hxr.1 hxr.2
        have wy := w64_id hyr.1 hyr.2
        have s1w : wrap64 (-(cy : Int) + (x : Int)) = u := by rw [← hu]; exact w64_id hur.1 hur.2
        clear hd hu hv hxl hyl hdl hcy qn hur hvr hxr hyr hdr hy0
        go_wp2_with (first | (at_builtin; refine wpList_app rfl (.tmp 38) (.tmp 41) _ rfl Try.underlying58 u32_elem (base := w.heap.size) (.slice A i c) i (u32s L) rfl (own_kept0 HO.out ((Fr.refl _ wr).alloc _)) (fun _ => False) _ 1 1 (u32s [d]) rfl (rdn_new (fun _ => False) wr (u32s [d]) _ (fun h => h)) rfl (u32s_one _) (by simp only [maxLen]; omega) (by omega) (by have := HF.out.size; simp; omega) (by simp) ?_; intro v6 w6 hown hg hat; obtain ⟨A6, cv6, rfl, hvc6, hvm6⟩ := own_form hown) | fail)
        go_roundw
        case rel =>
          refine ⟨i + 1, 0, L ++ [d], A6, cv6, rfl, by first | rfl | simp, by go_num, by rw [List.length_append, hi.out]; rfl, by omega, by omega, ?_, HV2, lt_push HL.out HXB.out, ?_⟩
          · rw [u32s_append]; exact hown
          · refine (HF.out.alloc _).grown hg (fun k hk e => ?_)
            have := (own_blk HO.out e).1
            omega
        case measure => first | (simp [intOf]; done) | (simp [intOf]; omega)
    · have hil : i = la := by omega
      have ha1 : decide ((i : Int) < (la : Int)) = false := decide_eq_false (by omega)
      have ha2 : decide (i < la) = false := decide_eq_false (by omega)
      have hv : bv L = a - b := by
        have h1 := HV.out
        have h2 : a < 65536 ^ i := (bd_len_le a i).1 (by rw [← HLA.out]; omega)
        have h3 := bv_lt L HL.out
        rw [hi.out] at h3
        have h4 := HLE.out
        rw [Nat.mod_eq_of_lt h2, Nat.mod_eq_of_lt (by omega)] at h1
        rcases Nat.lt_or_ge cy 1 with h5 | h5
        · have : cy = 0 := by omega
          subst this
          omega
        · have : cy = 1 := by omega
          subst this
          omega
      have hown5 := HO.out
      rw [← hi.out] at hown5
      obtain ⟨A5, c5, e5, h5, hR5⟩ := isD_ownS hown5
      cases e5
      have HT := Lib.hid (rtrim_calls A c L wr hR5 h5 HL.out (by rw [hi.out]; omega))
      rw [hi.out, hv] at HT
      clear hv HV hR5 hown5 h5 hcy hil qa
      go_wp2_with (first | (go_at_call 73; refine HT.out.mono ?_; rintro _ w5 ⟨⟨v5, rfl, hb5⟩, hf5⟩) | fail)
      go_ret
      exact ⟨⟨_, rfl, hb5⟩, HF.out.trans hf5⟩
end Go.Proofs.Ytdakeenjeieekaa
