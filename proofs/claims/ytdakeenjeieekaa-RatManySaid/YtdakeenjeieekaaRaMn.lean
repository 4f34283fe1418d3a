/- Chapter 01: RatMany, where one is no fraction, or there are too many. -/
import Derived.Test.YtdakeenjeieekaaRaX
import Derived.Test.YtdakeenjeieekaaRaMs
import Derived.Test.YtdakeenjeieekaaRaMb
import Derived.Test.YtdakeenjeieekaaRb8
set_option linter.unusedVariables false
set_option linter.unusedSimpArgs false
namespace Go.Proofs.Ytdakeenjeieekaa
open Go.RowKit
attribute [local go_sem] Oper.semAt_some

theorem told_same2 (x y k : Int) (w : World) : Calls Try.prog 22 #[rtv x y, .int .i64 k, rtv x y, .int .i64 k] w fun e w' => e = .returned (.bool true) ∧ Fr0 w w' := by
  have heq := fun (U : World) => eq_rat x y x y U
  simp only [and_self, decide_true] at heq
  have hb := blk_alloc (heap_alloc_new w (.cells (rtc x y) 23)) (.cells (rtc x y) 23)
  have hb2 := heap_an (w := w.alloc (.cells (rtc x y) 23)) (k := w.heap.size + 1) (.cells (rtc x y) 23) (by simp)
  have HF := Lib.hid (((Fr.refl (fun _ => False) w).alloc (.cells (rtc x y) 23)).alloc (.cells (rtc x y) 23))
  obtain ⟨a0, a1, _, _⟩ := two_facts hb
  obtain ⟨b0, b1, _, _⟩ := two_facts hb2
  clear hb hb2
  go_enter Try.func22, Try.ntmps22
  go_wp2_with fail
  go_ret
  exact ⟨rfl, HF.out⟩
theorem many_long (A : Option Addr) (c : Nat) (l : List (Int × Int)) (w : World) (h : 20 < l.length) :
    Calls Try.prog 10 #[.slice A l.length c] w fun e w' => e = .returned (.bool true) ∧ Fr0 w w' := by
  have h1 : decide (20 < l.length) = true := decide_eq_true h
  have h2 : decide ((20 : Int) < (l.length : Int)) = true := decide_eq_true (by omega)
  have HK := Lib.hid known_calls
  clear h
  go_enter Try.func10, Try.ntmps10
  go_wp2_with (first | (go_at_call 15; (with_reducible refine (HK.out _).mono ?_); rintro _ w3 ⟨rfl, hf3⟩) | fail)
  go_ret
  exact ⟨rfl, hf3⟩
set_option maxHeartbeats 2000000 in
theorem many_no (A : Option Addr) (c : Nat) (l : List (Int × Int)) (w : World) (h20 : l.length ≤ 20) (hall : ¬ AllR l) (hl : I64l l) (hR : Rd (fun _ => False) w A (sends l))
    (HS : Hid (∀ U, Fr0 w U → Calls Try.prog 31 #[.slice A l.length c] U fun e w' => e = .returned (.tuple #[rtv 0 0, .int .i64 2]) ∧ Fr0 U w'))
    (HL : Hid (∀ U, Fr0 w U → Calls Try.prog 32 #[.slice A l.length c] U fun e w' => e = .returned (.tuple #[rtv 0 0, .int .i64 2]) ∧ Fr0 U w'))
    (HG : Hid (∀ U, Fr0 w U → Calls Try.prog 33 #[.slice A l.length c] U fun e w' => e = .returned (.tuple #[rtv 0 0, .int .i64 2]) ∧ Fr0 U w')) :
    Calls Try.prog 10 #[.slice A l.length c] w fun e w' => e = .returned (.bool true) ∧ Fr0 w w' := by
  have h1 : decide (20 < l.length) = false := decide_eq_false (by omega)
  have h2 : decide ((20 : Int) < (l.length : Int)) = false := decide_eq_false (by omega)
  have HK := Lib.hid known_calls
  have HR := Lib.hid hR
  have HI := Lib.hid hl
  have HNA := Lib.hid hall
  have HF0 := Lib.hid (Fr.refl (fun _ => False) w)
  clear hall hl hR
  go_enter Try.func10, Try.ntmps10
  go_wp2_with (first
    | (go_at_call 31; (with_reducible refine (HS.out _ HF0.out).mono ?_); rintro _ w3 ⟨rfl, hf3⟩; have K3 := Lib.hid (heap_alloc_new w3 (.cells (rtc 0 0) 23)); have HF3 := Lib.hid ((HF0.out.trans hf3).alloc (.cells (rtc 0 0) 23)))
    | (go_at_call 32; (with_reducible refine (HL.out _ HF3.out).mono ?_); rintro _ w5 ⟨rfl, hf5⟩; have K35 := Lib.hid (blk_alloc (hf5.blk K3.out (fun h => h)) (.cells (rtc 0 0) 23)); have K5 := Lib.hid (heap_alloc_new w5 (.cells (rtc 0 0) 23)); have HF5 := Lib.hid ((HF3.out.trans hf5).alloc (.cells (rtc 0 0) 23)))
    | (go_at_call 33; (with_reducible refine (HG.out _ HF5.out).mono ?_); rintro _ w7 ⟨rfl, hf7⟩; have K37 := Lib.hid (blk_alloc (hf7.blk K35.out (fun h => h)) (.cells (rtc 0 0) 23)); have K57 := Lib.hid (blk_alloc (hf7.blk K5.out (fun h => h)) (.cells (rtc 0 0) 23)); have K7 := Lib.hid (heap_alloc_new w7 (.cells (rtc 0 0) 23)); have HF7 := Lib.hid ((HF5.out.trans hf7).alloc (.cells (rtc 0 0) 23)))
    | fail)
  have J3 := Lib.hid (blk_alloc (blk_alloc (blk_alloc (K37.out) (.cells (rtc 0 1) 23)) (.cells (rtc 0 0) 23)) (.cells (rtc 0 0) 23))
  have J5 := Lib.hid (blk_alloc (blk_alloc (blk_alloc (K57.out) (.cells (rtc 0 1) 23)) (.cells (rtc 0 0) 23)) (.cells (rtc 0 0) 23))
  have J7 := Lib.hid (blk_alloc (blk_alloc (blk_alloc (K7.out) (.cells (rtc 0 1) 23)) (.cells (rtc 0 0) 23)) (.cells (rtc 0 0) 23))
  have J9 := Lib.hid (blk_alloc (blk_alloc (heap_an (w := w7.alloc (.cells (rtc 0 0) 23)) (k := w7.heap.size + 1) (.cells (rtc 0 1) 23) (by simp)) (.cells (rtc 0 0) 23)) (.cells (rtc 0 0) 23))
  have J11 := Lib.hid (blk_alloc (heap_an (w := (w7.alloc (.cells (rtc 0 0) 23)).alloc (.cells (rtc 0 1) 23)) (k := w7.heap.size + 1 + 1) (.cells (rtc 0 0) 23) (by simp)) (.cells (rtc 0 0) 23))
  have J12 := Lib.hid (heap_an (w := ((w7.alloc (.cells (rtc 0 0) 23)).alloc (.cells (rtc 0 1) 23)).alloc (.cells (rtc 0 0) 23)) (k := w7.heap.size + 1 + 1 + 1) (.cells (rtc 0 0) 23) (by simp))
  have JF := Lib.hid (((HF7.out.alloc (.cells (rtc 0 1) 23)).alloc (.cells (rtc 0 0) 23)).alloc (.cells (rtc 0 0) 23))
  generalize (((w7.alloc (.cells (rtc 0 0) 23)).alloc (.cells (rtc 0 1) 23)).alloc (.cells (rtc 0 0) 23)).alloc (.cells (rtc 0 0) 23) = W at *
  have hs5 := hf5.size
  have hs7 := hf7.size
  have hs3 := HF3.out.size
  have e5 : (w3.alloc (.cells (rtc 0 0) 23)).heap.size = w3.heap.size + 1 := by simp
  have e7 : (w5.alloc (.cells (rtc 0 0) 23)).heap.size = w5.heap.size + 1 := by simp
  have e3 : w.heap.size ≤ w3.heap.size := hf3.size
  clear K3 HF3 K35 K5 HF5 K37 K57 K7 HF7 HS HL HG hf3 hf5 hf7
  generalize hb7 : w7.heap.size = b7 at *
  generalize w5.heap.size = b5 at *
  generalize w3.heap.size = b3 at *
  have HN : Hid (w.heap.size ≤ b3 ∧ b3 < b5 ∧ b5 < b7) := ⟨by omega, by omega, by omega⟩
  clear hs5 hs7 hs3 e5 e7 e3 hb7
  go_loopw [13] (fun i wr => ∃ k : Nat, k ≤ l.length ∧ i = .int .i64 (k : Int) ∧ Hid (AllR (l.take k)) ∧ Hid (Fr0 W wr)) (fun i _ => l.length - (intOf i).toNat)
  case atStart => exact ⟨0, by omega, rfl, (fun x hx => by simp at hx), Fr.refl _ _⟩
  case round =>
    obtain ⟨k, hk, rfl, HA, HF⟩ := hrel
    by_cases hlt : k < l.length
    · have hr := HR.out.kept (JF.out.trans HF.out)
      obtain ⟨b, off, rfl⟩ := hr.some_ (by rw [sends_length]; omega)
      obtain ⟨d0, d1⟩ := rdl_cells hr k hlt
      have hi1 : (0 : Int) ≤ (k : Int) := by omega
      have hi2 : (k : Int) < (l.length : Int) := by omega
      have hm := at_mem hlt
      have hi64 := HI.out _ hm
      have HRT := Lib.hid (fun U => right_calls (at_ l k) (sz_ l k) hi64.1 hi64.2 U)
      have HT := Lib.hid (show l.take (k + 1) = l.take k ++ [(at_ l k, sz_ l k)] by rw [List.take_succ_eq_append_getElem hlt, at_eq l k hlt, sz_eq l k hlt])
      have HFW := Lib.hid (JF.out.trans HF.out)
      clear hr hi64
      by_cases hok : RtOk (at_ l k) (sz_ l k)
      · rw [decide_eq_true hok] at HRT
        have HOK := Lib.hid hok
        clear hok hm
        go_wp2_with (first | (go_at_call 14; (with_reducible refine (HRT.out _).mono ?_); rintro _ v5 ⟨rfl, hf5⟩) | fail)
        go_roundw
        case rel =>
          refine ⟨k + 1, by omega, by go_num, ?_, HF.out.trans hf5⟩
          intro x hx
          rw [HT.out] at hx
          rcases List.mem_append.1 hx with hx | hx
          · exact HA.out x hx
          · rw [List.mem_singleton.1 hx]; exact HOK.out
        case measure => simp [intOf]; omega
      · rw [decide_eq_false hok] at HRT
        clear hok hm
        go_wp2_with (first
          | (go_at_call 22; (with_reducible refine (told_same2 0 0 2 _).mono ?_); rintro _ v8 ⟨rfl, hf8⟩; have HF8 := Lib.hid (HF7.out.trans hf8))
          | (go_at_call 22; (with_reducible refine (told_same2 0 0 2 _).mono ?_); rintro _ v7 ⟨rfl, hf7⟩; have HF7 := Lib.hid (HF6.out.trans hf7); obtain ⟨z0, z1, _, _⟩ := two_facts (HF7.out.blk J7.out (fun h => h)))
          | (go_at_call 22; (with_reducible refine (told_same2 0 0 2 _).mono ?_); rintro _ v6 ⟨rfl, hf6⟩; have HF6 := Lib.hid (HF5.out.trans hf6); obtain ⟨y0, y1, _, _⟩ := two_facts (HF6.out.blk J5.out (fun h => h)))
          | (go_at_call 14; (with_reducible refine (HRT.out _).mono ?_); rintro _ v5 ⟨rfl, hf5⟩; have HF5 := Lib.hid (HF.out.trans hf5); obtain ⟨x0, x1, _, _⟩ := two_facts (HF5.out.blk J3.out (fun h => h)))
          | (go_at_call 15; (with_reducible refine (HK.out _).mono ?_); rintro _ v9 ⟨rfl, hf9⟩; have HF9 := Lib.hid (HF8.out.trans hf9))
          | fail)
        go_ret
        exact ⟨rfl, JF.out.trans HF9.out⟩
    · exfalso
      have hkm : k = l.length := by omega
      subst hkm
      rw [List.take_length] at HA
      exact HNA.out HA.out
end Go.Proofs.Ytdakeenjeieekaa
