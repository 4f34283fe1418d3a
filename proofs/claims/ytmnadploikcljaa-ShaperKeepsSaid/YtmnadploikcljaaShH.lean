/- Chapter 13: slices.Equal. -/
import Derived.Test.YtmnadploikcljaaShC
set_option linter.unusedVariables false
set_option linter.unusedSimpArgs false
namespace Go.Proofs.Ytmnadploikcljaa
open Go.RowKit

set_option maxHeartbeats 1000000 in
theorem wequal_calls (A B : Option Addr) (c d : Nat) (l m : List (Int × Int)) (w : World) (hA : Rd (fun _ => False) w A (sends l)) (hB : Rd (fun _ => False) w B (sends m)) (hl : l.length ≤ 1000000000) (hm : m.length ≤ 1000000000) :
    Calls Try.prog 43 #[.slice A l.length c, .slice B m.length d] w fun e w' => e = .returned (.bool (decide (l = m))) ∧ Fr0 w w' := by
  have HA := Lib.hid hA
  have HB := Lib.hid hB
  clear hA hB
  by_cases hlen : l.length = m.length
  · have HLN := Lib.hid hlen
    have hq1 : ((l.length : Int) == (m.length : Int)) = true := by rw [hlen]; simp
    have hq2 : ((l.length : Int) != (m.length : Int)) = false := by rw [hlen]; simp
    clear hlen
    go_enter Try.func43, Try.ntmps43
    go_wp2_with fail
    go_loopw [5, 13] (fun j i wr => ∃ (k : Nat), k ≤ l.length ∧ i = .int .i64 (k : Int) ∧ Hid (l.take k = m.take k) ∧ Hid (Fr0 w wr)) (fun _ i _ => l.length - (intOf i).toNat)
    case atStart => exact ⟨0, by omega, rfl, by simp [Hid], Fr.refl _ _⟩
    case round =>
      obtain ⟨k, hk, rfl, HT, HF⟩ := hrel
      by_cases hlt : k < l.length
      · have hlt2 : k < m.length := by have := HLN.out; omega
        have hr := HA.out.kept HF.out
        have hs := HB.out.kept HF.out
        obtain ⟨b, off, rfl⟩ := hr.some_ (by rw [sends_length]; omega)
        obtain ⟨b2, off2, rfl⟩ := hs.some_ (by rw [sends_length]; omega)
        obtain ⟨d0, d1⟩ := rdl_cells hr k hlt
        obtain ⟨e0, e1⟩ := rdl_cells hs k hlt2
        have hi1 : (0 : Int) ≤ (k : Int) := by omega
        have hi2 : (k : Int) < (l.length : Int) := by omega
        have hi3 : (k : Int) < (m.length : Int) := by omega
        have HSN := Lib.hid (fun (h1 : at_ l k = at_ m k) (h2 : sz_ l k = sz_ m k) => show l.take (k + 1) = m.take (k + 1) by rw [take_snoc l k hlt, take_snoc m k hlt2, HT.out, h1, h2])
        have HNE := Lib.hid (fun (h : ¬ (at_ l k = at_ m k ∧ sz_ l k = sz_ m k)) => show l ≠ m from fun e => h (by subst e; exact ⟨rfl, rfl⟩))
        generalize at_ l k = x0 at *
        generalize sz_ l k = x1 at *
        generalize at_ m k = y0 at *
        generalize sz_ m k = y1 at *
        clear hr hs
        by_cases h0 : x0 = y0
        · subst h0
          by_cases h1 : x1 = y1
          · subst h1
            have HS := Lib.hid (HSN.out rfl rfl)
            clear HSN HNE
            go_wp2_with fail
            go_quiet (fail)
            go_wp2_with fail
            go_roundw
            case rel => exact ⟨k + 1, by omega, by go_num, HS.out, HF.out.drewN nq⟩
            case measure => simp [intOf]; omega
          · have hq3 : (x1 == y1) = false := by simpa using h1
            have HS := Lib.hid (decide_eq_false (HNE.out (fun e => h1 e.2)))
            clear HSN HNE h1
            go_wp2_with fail
            go_quiet (fail)
            go_wp2_with fail
            go_ret
            exact ⟨by rw [HS.out]; rfl, HF.out.drewN nq⟩
        · have hq3 : (x0 == y0) = false := by simpa using h0
          have HS := Lib.hid (decide_eq_false (HNE.out (fun e => h0 e.1)))
          clear HSN HNE h0
          go_wp2_with fail
          go_quiet (fail)
          go_wp2_with fail
          go_ret
          exact ⟨by rw [HS.out]; rfl, HF.out.drewN nq⟩
      · have hkm : k = l.length := by omega
        subst hkm
        go_wp2_with fail
        go_ret
        have he : l = m := by have h1 := HT.out; have h2 := HLN.out; rw [h2, List.take_length, ← h2, List.take_length] at h1; exact h1
        exact ⟨by rw [decide_eq_true he]; rfl, HF.out⟩
  · have hq2 : ((l.length : Int) != (m.length : Int)) = true := by simp; omega
    have HNE := Lib.hid (decide_eq_false (fun e : l = m => hlen (by rw [e])))
    clear hlen
    go_enter Try.func43, Try.ntmps43
    go_wp2_with fail
    go_ret
    exact ⟨by rw [HNE.out]; rfl, Fr.refl _ _⟩
set_option maxHeartbeats 1000000 in
/-- The document's Same, of two lists. -/
theorem wsame_calls (A B : Option Addr) (c d : Nat) (l m : List (Int × Int)) (w : World) (hA : Rd (fun _ => False) w A (sends l)) (hB : Rd (fun _ => False) w B (sends m)) (hl : l.length ≤ 1000000000) (hm : m.length ≤ 1000000000) :
    Calls Try.prog 14 #[.slice A l.length c, .slice B m.length d] w fun e w' => e = .returned (.bool (decide (l = m))) ∧ Fr0 w w' := by

  have HA := Lib.hid hA
  have HB := Lib.hid hB
  clear hA hB
  by_cases hlen : l.length = m.length
  · have HLN := Lib.hid hlen
    have hq1 : ((l.length : Int) == (m.length : Int)) = true := by rw [hlen]; simp
    have hq2 : ((l.length : Int) != (m.length : Int)) = false := by rw [hlen]; simp
    clear hlen
    go_enter Try.func14, Try.ntmps14
    go_wp2_with fail
    go_loopw [5] (fun i wr => ∃ (k : Nat), k ≤ l.length ∧ i = .int .i64 (k : Int) ∧ Hid (l.take k = m.take k) ∧ Hid (Fr0 w wr)) (fun i _ => l.length - (intOf i).toNat)
    case atStart => exact ⟨0, by omega, rfl, by simp [Hid], Fr.refl _ _⟩
    case round =>
      obtain ⟨k, hk, rfl, HT, HF⟩ := hrel
      by_cases hlt : k < l.length
      · have hlt2 : k < m.length := by have := HLN.out; omega
        have hr := HA.out.kept HF.out
        have hs := HB.out.kept HF.out
        obtain ⟨b, off, rfl⟩ := hr.some_ (by rw [sends_length]; omega)
        obtain ⟨b2, off2, rfl⟩ := hs.some_ (by rw [sends_length]; omega)
        obtain ⟨d0, d1⟩ := rdl_cells hr k hlt
        obtain ⟨e0, e1⟩ := rdl_cells hs k hlt2
        have hi1 : (0 : Int) ≤ (k : Int) := by omega
        have hi2 : (k : Int) < (l.length : Int) := by omega
        have hi3 : (k : Int) < (m.length : Int) := by omega
        have HSN := Lib.hid (fun (h1 : at_ l k = at_ m k) (h2 : sz_ l k = sz_ m k) => show l.take (k + 1) = m.take (k + 1) by rw [take_snoc l k hlt, take_snoc m k hlt2, HT.out, h1, h2])
        have HNE := Lib.hid (fun (h : ¬ (at_ l k = at_ m k ∧ sz_ l k = sz_ m k)) => show l ≠ m from fun e => h (by subst e; exact ⟨rfl, rfl⟩))
        generalize at_ l k = x0 at *
        generalize sz_ l k = x1 at *
        generalize at_ m k = y0 at *
        generalize sz_ m k = y1 at *
        clear hr hs
        by_cases h0 : x0 = y0
        · subst h0
          by_cases h1 : x1 = y1
          · subst h1
            have HS := Lib.hid (HSN.out rfl rfl)
            clear HSN HNE
            go_wp2_with fail
            go_quiet (fail)
            go_wp2_with fail
            go_roundw
            case rel => exact ⟨k + 1, by omega, by go_num, HS.out, HF.out.drewN nq⟩
            case measure => simp [intOf]; omega
          · have hq3 : (x1 == y1) = false := by simpa using h1
            have HS := Lib.hid (decide_eq_false (HNE.out (fun e => h1 e.2)))
            clear HSN HNE h1
            go_wp2_with fail
            go_quiet (fail)
            go_wp2_with fail
            go_ret
            exact ⟨by rw [HS.out]; rfl, HF.out.drewN nq⟩
        · have hq3 : (x0 == y0) = false := by simpa using h0
          have HS := Lib.hid (decide_eq_false (HNE.out (fun e => h0 e.1)))
          clear HSN HNE h0
          go_wp2_with fail
          go_quiet (fail)
          go_wp2_with fail
          go_ret
          exact ⟨by rw [HS.out]; rfl, HF.out.drewN nq⟩
      · have hkm : k = l.length := by omega
        subst hkm
        go_wp2_with fail
        go_ret
        have he : l = m := by have h1 := HT.out; have h2 := HLN.out; rw [h2, List.take_length, ← h2, List.take_length] at h1; exact h1
        exact ⟨by rw [decide_eq_true he]; rfl, HF.out⟩
  · have hq2 : ((l.length : Int) != (m.length : Int)) = true := by simp; omega
    have HNE := Lib.hid (decide_eq_false (fun e : l = m => hlen (by rw [e])))
    clear hlen
    go_enter Try.func14, Try.ntmps14
    go_wp2_with fail
    go_ret
    exact ⟨by rw [HNE.out]; rfl, Fr.refl _ _⟩
end Go.Proofs.Ytmnadploikcljaa
