/- Chapter 24: what a pick picks. -/
import Derived.Test.YtbhdkpcakjookaaPoC
set_option linter.unusedVariables false
set_option linter.unusedSimpArgs false
namespace Go.Proofs.Ytbhdkpcakjookaa
open Go.RowKit
attribute [local go_sem] Oper.semAt_some

theorem rnd_tmod (p n : Int) (hn : 0 < n) : (p.tmod n + n).tmod n = p % n := by
  have h1 : p.tmod n + n * p.tdiv n = p := Int.tmod_add_mul_tdiv p n
  have h2 : -n < p.tmod n := Int.lt_tmod_of_pos p hn
  rw [Int.tmod_eq_emod_of_nonneg (by omega)]
  have h3 : p.tmod n = p + n * (-p.tdiv n) := by rw [Int.mul_neg]; omega
  have h4 : p.tmod n + n = p + n * (-p.tdiv n + 1) := by rw [Int.mul_add, Int.mul_one]; omega
  rw [h4, Int.add_mul_emod_self_left]
theorem rnd_neg (p n : Int) (hn : 0 < n) : (if p.tmod n < 0 then p.tmod n + n else p.tmod n) = p % n := by
  have h1 : p.tmod n + n * p.tdiv n = p := Int.tmod_add_mul_tdiv p n
  have h2 := Int.lt_tmod_of_pos p hn
  have h3 := Int.tmod_lt_of_pos p hn
  split
  · have h4 := rnd_tmod p n hn
    rw [Int.tmod_eq_emod_of_nonneg (a := p.tmod n + n) (by omega), Int.emod_eq_of_lt (by omega) (by omega)] at h4
    exact h4
  · have h5 : p.tmod n = p + n * (-p.tdiv n) := by rw [Int.mul_neg]; omega
    have h6 : p.tmod n % n = p % n := by rw [h5, Int.add_mul_emod_self_left]
    rw [← h6, Int.emod_eq_of_lt (by omega) (by omega)]
/-- What a pick picks among n. -/
def rnd (p : Int) (n : Nat) : Nat := (p % (n : Int)).toNat
theorem rnd_lt (p : Int) (n : Nat) (hn : 0 < n) : rnd p n < n := by
  have h1 := Int.emod_nonneg p (b := (n : Int)) (by omega)
  have h2 := Int.emod_lt_of_pos p (b := (n : Int)) (by omega)
  unfold rnd
  omega
theorem rnd_int (p : Int) (n : Nat) (hn : 0 < n) : ((rnd p n : Nat) : Int) = p % (n : Int) := by
  have h1 := Int.emod_nonneg p (b := (n : Int)) (by omega)
  unfold rnd
  omega
theorem round_calls (p : Int) (n : Nat) (w : World) (hn : 0 < n) (hn2 : n ≤ 1000000000) (hp : -9223372036854775808 ≤ p ∧ p ≤ 9223372036854775807) : Calls Try.prog 42 #[.int .i64 p, .int .i64 n] w fun e w' => e = .returned (.int .i64 (rnd p n)) ∧ w = w' := by
  have h2 := Int.lt_tmod_of_pos p (b := (n : Int)) (by omega)
  have h3 := Int.tmod_lt_of_pos p (b := (n : Int)) (by omega)
  have HR := Lib.hid (rnd_neg p n (by omega))
  have HI := Lib.hid (rnd_int p n hn)
  have hz : ((n : Int) == 0) = false := by simp; omega
  have hw1 : IntKind.i64.wrap (p.tmod n) = p.tmod n := by rw [IntKind.wrap_i64]; omega
  have hw2 : IntKind.i64.wrap (p.tmod n + n) = p.tmod n + n := by rw [IntKind.wrap_i64]; omega
  by_cases h : p.tmod n < 0
  · go_enter Try.func42, Try.ntmps42
    go_wp2_with fail
    go_ret
    have hr := HR.out
    rw [if_pos h] at hr
    refine ⟨?_, rfl⟩
    rw [HI.out, ← hr]
    rfl
  · go_enter Try.func42, Try.ntmps42
    go_wp2_with fail
    go_ret
    have hr := HR.out
    rw [if_neg (by omega)] at hr
    refine ⟨?_, rfl⟩
    rw [HI.out, ← hr]
    rfl
theorem picks1_calls (p : Int) (n : Nat) (q : Nat) (w : World) (hn : 0 < n) (hn2 : n ≤ 1000000000) (hp : -9223372036854775808 ≤ p ∧ p ≤ 9223372036854775807) (hq : w.cell? ⟨q, 0, none⟩ = some (.int .i64 p)) : Calls Try.prog 40 #[.int .i64 n, .pointer (some ⟨q, 0, none⟩)] w fun e w' => e = .returned (.int .i64 (rnd p n)) ∧ w = w' := by
  have h2 := Int.lt_tmod_of_pos p (b := (n : Int)) (by omega)
  have h3 := Int.tmod_lt_of_pos p (b := (n : Int)) (by omega)
  have HR := Lib.hid (show (p.tmod n + n) % n = p % n from by rw [← Int.tmod_eq_emod_of_nonneg (a := p.tmod n + n) (by omega)]; exact rnd_tmod p n (by omega))
  have HI := Lib.hid (rnd_int p n hn)
  have hz : ((n : Int) == 0) = false := by simp; omega
  have hw1 : IntKind.i64.wrap (p.tmod n) = p.tmod n := by rw [IntKind.wrap_i64]; omega
  have hw2 : IntKind.i64.wrap (p.tmod n + n) = p.tmod n + n := by rw [IntKind.wrap_i64]; omega
  have hw3 : IntKind.i64.wrap ((p.tmod n + n).tmod n) = (p.tmod n + n).tmod n := by
    have := Int.lt_tmod_of_pos (p.tmod n + n) (b := (n : Int)) (by omega)
    have := Int.tmod_lt_of_pos (p.tmod n + n) (b := (n : Int)) (by omega)
    rw [IntKind.wrap_i64]; omega
  go_enter Try.func40, Try.ntmps40
  go_wp2_with fail
  go_ret
  refine ⟨?_, rfl⟩
  rw [HI.out, ← HR.out]
  rfl
theorem picks_calls (b : Nat) (most last : Int) (L : List Rm) (p : Int) (w : World) (h : IsPool w b most last L) (hl : 0 < L.length) (hp : -9223372036854775808 ≤ p ∧ p ≤ 9223372036854775807) :
    Calls Try.prog 30 #[.pointer (some ⟨b, 0, none⟩), .int .i64 p] w fun e w' => e = .returned (.tuple #[.int .i64 (rnd p L.length), .int .i64 0]) ∧ Fr0 w w' := by
  have hf := (Fr.refl (fun _ => False) w).alloc (.cells #[.int .i64 p] 3)
  have HN := Lib.hid (pnone_calls b most last L _ (h.kept hf))
  obtain ⟨A, c, hb, hls⟩ := h.ex
  obtain ⟨⟨_, _, c2⟩, _⟩ := po_cells (hf.blk hb (fun h => h))
  have HP := Lib.hid (picks1_calls p L.length w.heap.size _ hl (by have := hls.most; omega) hp ((cell_of_blk (heap_alloc_new w (.cells #[.int .i64 p] 3)) 0).trans (by simp)))
  have HF := Lib.hid hf
  have hz : ((L.length : Int) == 0) = false := by simp; intro e; subst e; simp at hl
  have hmf : ∀ (fn : Fn) (first cap : Array Value) (w : World), (Instr.makeFunc fn first cap).run Try.prog w = .ok (.func fn first cap) w := fun _ _ _ _ => rfl
  clear h hb hls hf
  go_enter Try.func30, Try.ntmps30
  go_wp2_with (first
    | (go_at_call 27; refine HN.out.mono ?_; rintro e w' ⟨rfl, rfl⟩)
    | (go_at_call 40; refine HP.out.mono ?_; rintro e w' ⟨rfl, rfl⟩))
  go_ret2
  exact ⟨rfl, HF.out⟩
theorem picks_empty (b : Nat) (most last : Int) (p : Int) (w : World) (h : IsPool w b most last []) :
    Calls Try.prog 30 #[.pointer (some ⟨b, 0, none⟩), .int .i64 p] w fun e w' => e = .returned (.tuple #[.int .i64 0, .int .i64 5]) ∧ Fr0 w w' := by
  have hf := (Fr.refl (fun _ => False) w).alloc (.cells #[.int .i64 p] 3)
  have HN := Lib.hid (pnone_calls b most last [] _ (h.kept hf))
  obtain ⟨A, c, hb, hls⟩ := h.ex
  obtain ⟨⟨_, _, c2⟩, _⟩ := po_cells (hf.blk hb (fun h => h))
  have HF := Lib.hid hf
  clear h hb hls hf
  go_enter Try.func30, Try.ntmps30
  go_wp2_with (first
    | (go_at_call 27; refine HN.out.mono ?_; rintro e w' ⟨rfl, rfl⟩))
  go_ret2
  exact ⟨rfl, HF.out⟩
theorem picks_no (v : Value) (p : Int) (w : World) (h : NoPo w v) :
    Calls Try.prog 30 #[v, .int .i64 p] w fun e w' => e = .returned (.tuple #[.int .i64 0, .int .i64 1]) ∧ Fr0 w w' := by
  have hf := (Fr.refl (fun _ => False) w).alloc (.cells #[.int .i64 p] 3)
  have HN := Lib.hid (pnone_no v _ (h.kept hf))
  have HF := Lib.hid hf
  clear h hf
  go_enter Try.func30, Try.ntmps30
  go_wp2_with (first
    | (go_at_call 27; refine HN.out.mono ?_; rintro e w' ⟨rfl, rfl⟩))
  go_ret2
  exact ⟨rfl, HF.out⟩
/-- A list of messages, cloned: a row of its own. -/
abbrev rmRow (w : World) (base : Nat) (v : Value) (l : List Rm) : Prop := w.ownsRow base 31 4 v l.length (rms l)
theorem lclone_calls (A : Option Addr) (c : Nat) (L : List Rm) (w : World) (h : IsLs w A c L) :
    Calls Try.prog 28 #[.slice A L.length c] w fun e w' => (∃ A' c', e = .returned (.slice A' L.length c') ∧ rmRow w' w.heap.size (.slice A' L.length c') L ∧ IsLs w' A' c' L) ∧ Fr0 w w' := by
  have HLS := Lib.hid h
  have hmL := h.most
  have HL := Lib.hid (rms_length L)
  cases A with
  | none =>
    obtain rfl := h.nil rfl
    have hq := fun w : World => Lib.run_eql_slice_nil (P := Try.prog) w 36 31 none 0 c 0 0 Try.underlying36
    clear h
    go_enter Try.func28, Try.ntmps28
    go_wp2
    go_ret
    exact ⟨⟨none, 0, rfl, own_nil _ _ _ _, .nil_ _⟩, Fr.refl _ _⟩
  | some a =>
    have hq := fun w : World => Lib.run_eql_slice_nil (P := Try.prog) w 36 31 (some a) L.length c 0 0 Try.underlying36
    clear h
    go_enter Try.func28, Try.ntmps28
    go_wp2_with (at_builtin; refine wpList_app rfl (.tmp 5) (.tmp 6) _ rfl Try.underlying36 rm_elem (base := w.heap.size) (.slice (some ⟨w.heap.size, 0, none⟩) 0 0) 0 [] rfl (World.ownsRow_made w _ 0 (Nat.le_refl _) (by simp [maxLen]) rfl) (fun _ => False) (some a) L.length c (rms L) rfl (HLS.out.rd.kept ((Fr.refl _ w).alloc _)) HL.out (rms_one L) (by simp only [maxLen]; omega) (by omega) (by simp) (by simp) ?_; intro v' w' hown hg hat)
    go_ret
    have hf : Fr0 w w' := ((Fr.refl _ w).alloc _).grown hg (fun k hk e => by simp [Value.ownBlock] at e; omega)
    obtain ⟨A', c', rfl, hc1, hc2⟩ := own_form hown
    simp only [Nat.zero_add, List.nil_append] at hown hc1
    have hA : A' = none → L = [] := by
      rintro rfl
      rcases hat with e | e <;> simp [Value.ownBlock] at e
    exact ⟨⟨A', c', by simp, hown, own_rd _ hown (fun _ _ _ h => h), fun r hr => (HLS.out.ok r hr).kept hf, ⟨hc1, hc2⟩, hA, hmL⟩, hf⟩
end Go.Proofs.Ytbhdkpcakjookaa
