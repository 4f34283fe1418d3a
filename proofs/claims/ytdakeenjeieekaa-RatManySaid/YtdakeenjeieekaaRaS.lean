/- Chapter 01: fractions in a row; both. -/
import Derived.Test.YtdakeenjeieekaaRaL
set_option linter.unusedVariables false
set_option linter.unusedSimpArgs false
namespace Go.Proofs.Ytdakeenjeieekaa
open Go.RowKit
attribute [local go_sem] Oper.semAt_some

/-- Fractions as cells. -/
def sends (l : List (Int × Int)) : List Value := l.flatMap fun p => [.int .i64 p.1, .int .i64 p.2]
theorem sends_length : ∀ l, (sends l).length = 2 * l.length
  | [] => rfl
  | p :: l => by have := sends_length l; simp [sends] at this ⊢; omega
theorem sends_at0 : ∀ (l : List (Int × Int)) (i : Nat) (h : i < l.length) (h' : i * 2 < (sends l).length), (sends l)[i * 2] = .int .i64 l[i].1
  | p :: l, 0, _, _ => rfl
  | p :: l, i + 1, h, h' => by
    have := sends_at0 l i (by simpa using h) (by rw [sends_length]; simp at h; omega)
    show (Value.int .i64 p.1 :: Value.int .i64 p.2 :: sends l)[(i + 1) * 2] = _
    simp only [show (i + 1) * 2 = i * 2 + 1 + 1 by omega, List.getElem_cons_succ]
    exact this
theorem sends_at1 : ∀ (l : List (Int × Int)) (i : Nat) (h : i < l.length) (h' : i * 2 + 1 < (sends l).length), (sends l)[i * 2 + 1] = .int .i64 l[i].2
  | p :: l, 0, _, _ => rfl
  | p :: l, i + 1, h, h' => by
    have := sends_at1 l i (by simpa using h) (by rw [sends_length]; simp at h; omega)
    show (Value.int .i64 p.1 :: Value.int .i64 p.2 :: sends l)[(i + 1) * 2 + 1] = _
    simp only [show (i + 1) * 2 + 1 = i * 2 + 1 + 1 + 1 by omega, List.getElem_cons_succ]
    exact this
def at_ (l : List (Int × Int)) (i : Nat) : Int := (l.getD i (0, 0)).1
def sz_ (l : List (Int × Int)) (i : Nat) : Int := (l.getD i (0, 0)).2
theorem at_eq (l : List (Int × Int)) (i : Nat) (h : i < l.length) : at_ l i = l[i].1 := by simp [at_, h]
theorem sz_eq (l : List (Int × Int)) (i : Nat) (h : i < l.length) : sz_ l i = l[i].2 := by simp [sz_, h]
theorem rdl_cells {S : Nat → Prop} {w : World} {b off : Nat} {l : List (Int × Int)} (h : Rd S w (some ⟨b, off, none⟩) (sends l)) (i : Nat) (hi : i < l.length) :
    w.cell? ⟨b, off + i * 2, none⟩ = some (.int .i64 (at_ l i)) ∧ w.cell? ⟨b, off + i * 2 + 1, none⟩ = some (.int .i64 (sz_ l i)) := by
  have c0 := h.at_ (i * 2) (by rw [sends_length]; omega)
  have c1 := h.at_ (i * 2 + 1) (by rw [sends_length]; omega)
  rw [sends_at0 l i hi, ← at_eq l i hi] at c0
  rw [sends_at1 l i hi, ← sz_eq l i hi, ← Nat.add_assoc] at c1
  exact ⟨c0, c1⟩

abbrev I64l (l : List (Int × Int)) : Prop := ∀ x ∈ l, I64r x.1 ∧ I64r x.2
/-- All are fractions. -/
def AllR (l : List (Int × Int)) : Prop := ∀ x ∈ l, RtOk x.1 x.2
instance (l : List (Int × Int)) : Decidable (AllR l) := by unfold AllR; infer_instance
def bothE (l : List (Int × Int)) : Ending := if AllR l then .returned (.tuple #[]) else .panicked [stopE 2]
theorem at_mem {l : List (Int × Int)} {i : Nat} (h : i < l.length) : (at_ l i, sz_ l i) ∈ l := by
  rw [at_eq l i h, sz_eq l i h]; exact List.getElem_mem h
theorem rboth_calls (A : Option Addr) (c : Nat) (l : List (Int × Int)) (w : World) (hR : Rd (fun _ => False) w A (sends l)) (hl : I64l l) (hlen : l.length ≤ 1000000000) :
    Calls Try.prog 56 #[.slice A l.length c] w fun e w' => e = bothE l ∧ Fr0 w w' := by
  have HR := Lib.hid hR
  have HL := Lib.hid hl
  have HY := Lib.hid (fun U => rmust_yes 2 U)
  have HN := Lib.hid (fun U => rmust_no 2 U)
  clear hR hl
  unfold bothE
  go_enter Try.func56, Try.ntmps56
  go_wp2_with fail
  go_loopw [6] (fun i wr => ∃ (k : Nat), k ≤ l.length ∧ i = .int .i64 (k : Int) ∧ Hid (AllR (l.take k)) ∧ Hid (Fr0 w wr)) (fun i _ => l.length - (intOf i).toNat)
  case atStart => exact ⟨0, by omega, rfl, (fun x hx => by simp at hx), Fr.refl _ _⟩
  case round =>
    obtain ⟨k, hk, rfl, HA, HF⟩ := hrel
    by_cases hlt : k < l.length
    · have hr := HR.out.kept HF.out
      obtain ⟨b, off, rfl⟩ := hr.some_ (by rw [sends_length]; omega)
      obtain ⟨d0, d1⟩ := rdl_cells hr k hlt
      have hi1 : (0 : Int) ≤ (k : Int) := by omega
      have hi2 : (k : Int) < (l.length : Int) := by omega
      have hm := at_mem hlt
      have hi64 := HL.out _ hm
      have HC := Lib.hid (fun U => rcheck_calls (at_ l k) (sz_ l k) hi64.1 hi64.2 U)
      have HF1 := Lib.hid (HF.out.alloc (.cells (rtc (at_ l k) (sz_ l k)) 23))
      have HT := Lib.hid (show l.take (k + 1) = l.take k ++ [(at_ l k, sz_ l k)] by rw [List.take_succ_eq_append_getElem hlt, at_eq l k hlt, sz_eq l k hlt])
      clear hr hi64
      by_cases hok : RtOk (at_ l k) (sz_ l k)
      · rw [if_pos hok] at HC
        have HOK := Lib.hid hok
        clear hok hm
        go_wp2_with (first | (go_at_call 13; refine (HC.out _).mono ?_; rintro e w5 ⟨rfl, hf5⟩) | (go_at_call 36; refine (HY.out _).mono ?_; rintro _ _ ⟨rfl, rfl⟩) | fail)
        go_roundw
        case rel =>
          refine ⟨k + 1, by omega, by go_num, ?_, HF1.out.trans hf5⟩
          intro x hx
          rw [HT.out] at hx
          rcases List.mem_append.1 hx with hx | hx
          · exact HA.out x hx
          · rw [List.mem_singleton.1 hx]; exact HOK.out
        case measure => simp [intOf]; omega
      · rw [if_neg hok] at HC
        have HNO := Lib.hid (show ¬ AllR l from fun h => hok (h _ hm))
        clear hok hm
        go_wp2_with (first | (go_at_call 13; refine (HC.out _).mono ?_; rintro e w5 ⟨rfl, hf5⟩) | (go_at_call 36; refine (HN.out _).mono ?_; rintro _ _ ⟨rfl, rfl⟩) | fail)
        exact ⟨rfl, by first | rfl | exact (if_neg HNO.out).symm, HF1.out.trans hf5⟩
    · have hkm : k = l.length := by omega
      subst hkm
      rw [List.take_length] at HA
      go_wp2_with fail
      go_end0
      exact ⟨by first | rfl | exact (if_pos HA.out).symm, HF.out⟩
end Go.Proofs.Ytdakeenjeieekaa
