/- Chapter 12: the bucket as it lies in memory; the small functions. -/
import Derived.Test.YtmnadploikcljaaBkA
import Derived.Test.YtmnadploikcljaaRegC
import Derived.Deep.DeepCutAuto
set_option linter.unusedVariables false
set_option linter.unusedSimpArgs false
namespace Go.Proofs.Ytmnadploikcljaa
open Go.RowKit

abbrev bkc (B : Bk) : Array Value := #[.int .i64 B.s.peak, .int .i64 B.s.rate, .int .i64 B.s.burst, .int .i64 B.s.most, .int .i64 B.s.least, .int .i64 B.k0.has, .int .i64 B.k0.most, .int .i64 B.k0.more, .int .i64 B.k1.has, .int .i64 B.k1.most, .int .i64 B.k1.more, .int .i64 B.now]
def IsBk (w : World) (b : Nat) (B : Bk) : Prop := w.heap[b]? = some (.cells (bkc B) 97 (0, 0))
theorem IsBk.kept {w w' : World} {b : Nat} {B : Bk} {S : Nat → Prop} (h : IsBk w b B) (hf : Fr S w w') (hs : ¬ S b) : IsBk w' b B := hf.blk h hs
theorem IsBk.kept0 {w w' : World} {b : Nat} {B : Bk} (h : IsBk w b B) (hf : Fr0 w w') : IsBk w' b B := hf.blk h (fun h => h)
structure BkCells (w : World) (b : Nat) (B : Bk) : Prop where
  c0 : w.cell? ⟨b, 0, none⟩ = some (.int .i64 B.s.peak)
  c1 : w.cell? ⟨b, 1, none⟩ = some (.int .i64 B.s.rate)
  c2 : w.cell? ⟨b, 2, none⟩ = some (.int .i64 B.s.burst)
  c3 : w.cell? ⟨b, 3, none⟩ = some (.int .i64 B.s.most)
  c4 : w.cell? ⟨b, 4, none⟩ = some (.int .i64 B.s.least)
  c5 : w.cell? ⟨b, 5, none⟩ = some (.int .i64 B.k0.has)
  c6 : w.cell? ⟨b, 6, none⟩ = some (.int .i64 B.k0.most)
  c7 : w.cell? ⟨b, 7, none⟩ = some (.int .i64 B.k0.more)
  c8 : w.cell? ⟨b, 8, none⟩ = some (.int .i64 B.k1.has)
  c9 : w.cell? ⟨b, 9, none⟩ = some (.int .i64 B.k1.most)
  c10 : w.cell? ⟨b, 10, none⟩ = some (.int .i64 B.k1.more)
  c11 : w.cell? ⟨b, 11, none⟩ = some (.int .i64 B.now)
theorem IsBk.cells {w : World} {b : Nat} {B : Bk} (h : IsBk w b B) : BkCells w b B :=
  ⟨cell_of_blk h 0, cell_of_blk h 1, cell_of_blk h 2, cell_of_blk h 3, cell_of_blk h 4, cell_of_blk h 5, cell_of_blk h 6, cell_of_blk h 7, cell_of_blk h 8, cell_of_blk h 9, cell_of_blk h 10, cell_of_blk h 11⟩
theorem IsBk.free {w : World} {b : Nat} {B : Bk} (h : IsBk w b B) (i : Nat) : w.frozen? ⟨b, i, none⟩ = false := free_of_blk h i
theorem IsBk.lt {w : World} {b : Nat} {B : Bk} (h : IsBk w b B) : b < w.heap.size := lt_of_block h

theorem bwithin_calls (n lo hi : Int) (w : World) : Calls Try.prog 51 #[.int .i64 n, .int .i64 lo, .int .i64 hi] w fun e w' => e = .returned (.bool (decide (lo ≤ n ∧ n ≤ hi))) ∧ w = w' := by
  by_cases h1 : lo ≤ n
  · go_enter Try.func51, Try.ntmps51
    go_wp2_with fail
    go_ret
    simp [h1]
  · go_enter Try.func51, Try.ntmps51
    go_wp2_with fail
    go_ret
    exact ⟨rtb (by have : ¬ lo ≤ n := by omega
                   simp [this]), rfl⟩
theorem bnone_calls (b : Nat) (B : Bk) (w : World) (hb : IsBk w b B) : Calls Try.prog 48 #[.pointer (some ⟨b, 0, none⟩)] w fun e w' => e = .returned (.bool (B.s.rate == 0)) ∧ w = w' := by
  have c1 := hb.cells.c1
  go_enter Try.func48, Try.ntmps48
  go_wp2_with fail
  go_ret
  exact ⟨rfl, rfl⟩
theorem bnone_nil (w : World) : Calls Try.prog 48 #[.pointer none] w fun e w' => e = .returned (.bool true) ∧ w = w' := by
  go_enter Try.func48, Try.ntmps48
  go_wp2_with fail
  go_ret
  exact ⟨rfl, rfl⟩

theorem new_yes (s : Sp) (hr : s.Right) (w : World) : Calls Try.prog 25 #[spv s] w fun e w' => (∃ g, e = .returned (.tuple #[.pointer (some ⟨g, 0, none⟩), .int .i64 0]) ∧ w.heap.size ≤ g ∧ IsBk w' g (bkNew s)) ∧ Fr0 w w' := by
  have HB := Lib.hid (heap_alloc_new w (.cells (spc s) 23))
  have HC := Lib.hid (check_calls s)
  rw [show chk s = 0 from if_pos hr] at HC
  go_enter Try.func25, Try.ntmps25
  go_wp2_with fail
  refine (HC.out _).mono ?_
  rintro e w1 ⟨rfl, hf⟩
  have HF := Lib.hid (((Fr.refl (fun _ => False) w).alloc _).trans hf)
  obtain ⟨c0, c1, c2, c3, c4⟩ := sp_cells (hf.blk HB.out (fun h => h))
  clear hf
  go_wp2_with fail
  go_ret2
  exact ⟨⟨_, rfl, HF.out.size, heap_alloc_new _ _⟩, HF.out.alloc _⟩
theorem new_no (s : Sp) (hr : ¬ s.Right) (w : World) : Calls Try.prog 25 #[spv s] w fun e w' => e = .returned (.tuple #[.pointer none, .int .i64 2]) ∧ Fr0 w w' := by
  have HC := Lib.hid (check_calls s)
  rw [show chk s = 2 from if_neg hr] at HC
  go_enter Try.func25, Try.ntmps25
  go_wp2_with fail
  refine (HC.out _).mono ?_
  rintro e w1 ⟨rfl, hf⟩
  have HF := Lib.hid (((Fr.refl (fun _ => False) w).alloc _).trans hf)
  go_wp2_with fail
  go_ret2
  exact ⟨rfl, HF.out⟩

/-- A bucket that is there: what comes of a question at a tick. -/
def askA (B : Bk) (t : Int) : Int := if B.may t then 0 else 2
theorem asked_calls (b : Nat) (B : Bk) (t : Int) (w : World) (hb : IsBk w b B) (hr : B.s.rate ≠ 0) : Calls Try.prog 49 #[.pointer (some ⟨b, 0, none⟩), .int .i64 t] w fun e w' => e = .returned (.int .i64 (askA B t)) ∧ w = w' := by
  have c11 := hb.cells.c11
  have HN := Lib.hid (bnone_calls b B w hb)
  have hrb : (B.s.rate == 0) = false := by simpa using hr
  rw [hrb] at HN
  have HW := Lib.hid (bwithin_calls t B.now 2147483647)
  have hask : askA B t = if B.may t then 0 else 2 := rfl
  have HASK := Lib.hid hask
  clear hrb hr hask
  by_cases hm : B.may t
  · have hd : decide (B.now ≤ t ∧ t ≤ 2147483647) = true := decide_eq_true hm
    rw [hd] at HW
    have H2 := Lib.hid (show askA B t = 0 by rw [HASK.out, if_pos hm])
    clear hd hm HASK
    go_enter Try.func49, Try.ntmps49
    go_wp2_with fail
    refine wp_scope_fwd 0 rfl ?_
    go_wp2_with (first
      | (go_at_call 48; refine HN.out.mono ?_; rintro e w' ⟨rfl, rfl⟩)
      | (go_at_call 51; refine (HW.out _).mono ?_; rintro e w' ⟨rfl, rfl⟩))
    rw [jump_ret]
    go_ret
    exact ⟨by rw [H2.out]; rfl, rfl⟩
  · have hd : decide (B.now ≤ t ∧ t ≤ 2147483647) = false := decide_eq_false hm
    rw [hd] at HW
    have H2 := Lib.hid (show askA B t = 2 by rw [HASK.out, if_neg hm])
    clear hd hm HASK
    go_enter Try.func49, Try.ntmps49
    go_wp2_with fail
    refine wp_scope_fwd 0 rfl ?_
    go_wp2_with (first
      | (go_at_call 48; refine HN.out.mono ?_; rintro e w' ⟨rfl, rfl⟩)
      | (go_at_call 51; refine (HW.out _).mono ?_; rintro e w' ⟨rfl, rfl⟩))
    apply wp_goto
    refine And.intro rfl ?_
    show Code.wp _ _ _ _ _
    go_wp2
    rw [Exit.noGoto_ret]
    go_ret
    exact ⟨by rw [H2.out]; rfl, rfl⟩
/-- A bucket that is not there, of any kind. -/
def NoBk (w : World) (v : Value) : Prop := v = .pointer none ∨ ∃ b B, v = .pointer (some ⟨b, 0, none⟩) ∧ IsBk w b B ∧ B.s.rate = 0
theorem NoBk.kept {w w' : World} {v : Value} (h : NoBk w v) (hf : Fr0 w w') : NoBk w' v := by
  rcases h with h | ⟨b, B, h1, h2, h3⟩
  · exact .inl h
  · exact .inr ⟨b, B, h1, h2.kept0 hf, h3⟩
theorem none_no (v : Value) (w : World) (h : NoBk w v) : Calls Try.prog 48 #[v] w fun e w' => e = .returned (.bool true) ∧ w = w' := by
  rcases h with rfl | ⟨b, B, rfl, hb, hr⟩
  · exact bnone_nil w
  · have := bnone_calls b B w hb
    rw [hr] at this
    exact this
theorem asked_no (v : Value) (t : Int) (w : World) (h : NoBk w v) : Calls Try.prog 49 #[v, .int .i64 t] w fun e w' => e = .returned (.int .i64 1) ∧ w = w' := by
  have HN := Lib.hid (none_no v w h)
  clear h
  go_enter Try.func49, Try.ntmps49
  go_wp2_with fail
  refine wp_scope_fwd 0 rfl ?_
  go_wp2_with (first
    | (go_at_call 48; refine HN.out.mono ?_; rintro e w' ⟨rfl, rfl⟩))
  apply wp_goto
  refine And.intro rfl ?_
  show Code.wp _ _ _ _ _
  go_wp2
  rw [Exit.noGoto_ret]
  go_ret
  exact ⟨rfl, rfl⟩
theorem now_calls (b : Nat) (B : Bk) (w : World) (hb : IsBk w b B) (hr : B.s.rate ≠ 0) : Calls Try.prog 36 #[.pointer (some ⟨b, 0, none⟩)] w fun e w' => e = .returned (.int .i64 B.now) ∧ w = w' := by
  have c11 := hb.cells.c11
  have HN := Lib.hid (bnone_calls b B w hb)
  have hrb : (B.s.rate == 0) = false := by simpa using hr
  rw [hrb] at HN
  clear hrb hr
  go_enter Try.func36, Try.ntmps36
  go_wp2_with (go_at_call 48; refine HN.out.mono ?_; rintro e w' ⟨rfl, rfl⟩)
  go_ret
  exact ⟨rfl, rfl⟩
theorem now_no (v : Value) (w : World) (h : NoBk w v) : Calls Try.prog 36 #[v] w fun e w' => e = .returned (.int .i64 0) ∧ w = w' := by
  have HN := Lib.hid (none_no v w h)
  clear h
  go_enter Try.func36, Try.ntmps36
  go_wp2_with (go_at_call 48; refine HN.out.mono ?_; rintro e w' ⟨rfl, rfl⟩)
  go_ret
  exact ⟨rfl, rfl⟩
theorem spec_calls (b : Nat) (B : Bk) (w : World) (hb : IsBk w b B) (hr : B.s.rate ≠ 0) : Calls Try.prog 28 #[.pointer (some ⟨b, 0, none⟩)] w fun e w' => e = .returned (spv B.s) ∧ Fr0 w w' := by
  have hf := (Fr.refl (fun _ => False) w).alloc (.cells (spc ⟨0, 0, 0, 0, 0⟩) 23)
  have HN := Lib.hid (bnone_calls b B _ (hb.kept0 hf))
  obtain ⟨c0, c1, c2, c3, c4, _⟩ := (hb.kept0 hf).cells
  have hrb : (B.s.rate == 0) = false := by simpa using hr
  rw [hrb] at HN
  clear hrb hr hf
  go_enter Try.func28, Try.ntmps28
  go_wp2_with (go_at_call 48; refine HN.out.mono ?_; rintro e w' ⟨rfl, rfl⟩)
  exact bodyPost_ret (results_cell_row rfl _ _ w.heap.size _ _ _ _ rfl (heap_alloc_new w (.cells (spc B.s) 23)) Try.underlying23 rfl (by kernel_rfl)) rfl ⟨rfl, (Fr.refl _ w).alloc _⟩
theorem spec_no (v : Value) (w : World) (h : NoBk w v) : Calls Try.prog 28 #[v] w fun e w' => e = .returned (spv ⟨0, 0, 0, 0, 0⟩) ∧ Fr0 w w' := by
  have hf := (Fr.refl (fun _ => False) w).alloc (.cells (spc ⟨0, 0, 0, 0, 0⟩) 23)
  have HN := Lib.hid (none_no v _ (h.kept hf))
  clear h hf
  go_enter Try.func28, Try.ntmps28
  go_wp2_with (go_at_call 48; refine HN.out.mono ?_; rintro e w' ⟨rfl, rfl⟩)
  exact bodyPost_ret (results_cell_row rfl _ _ w.heap.size _ _ _ _ rfl (heap_alloc_new w (.cells (spc ⟨0, 0, 0, 0, 0⟩) 23)) Try.underlying23 rfl (by kernel_rfl)) rfl ⟨rfl, (Fr.refl _ w).alloc _⟩
/-- Another one of the same. -/
theorem copy_calls (b : Nat) (B : Bk) (w : World) (hb : IsBk w b B) (hr : B.s.rate ≠ 0) : Calls Try.prog 39 #[.pointer (some ⟨b, 0, none⟩)] w fun e w' => e = .returned (.pointer (some ⟨w.heap.size, 0, none⟩)) ∧ w.alloc (.cells (bkc B) 97) = w' := by
  obtain ⟨c0, c1, c2, c3, c4, c5, c6, c7, c8, c9, c10, c11⟩ := hb.cells
  have HN := Lib.hid (bnone_calls b B w hb)
  have hrb : (B.s.rate == 0) = false := by simpa using hr
  rw [hrb] at HN
  clear hrb hr
  go_enter Try.func39, Try.ntmps39
  go_wp2_with (go_at_call 48; refine HN.out.mono ?_; rintro e w' ⟨rfl, rfl⟩)
  go_ret
  exact ⟨rfl, rfl⟩
theorem copy_no (v : Value) (w : World) (h : NoBk w v) : Calls Try.prog 39 #[v] w fun e w' => e = .returned (.pointer none) ∧ w = w' := by
  have HN := Lib.hid (none_no v w h)
  clear h
  go_enter Try.func39, Try.ntmps39
  go_wp2_with (go_at_call 48; refine HN.out.mono ?_; rintro e w' ⟨rfl, rfl⟩)
  go_ret
  exact ⟨rfl, rfl⟩
end Go.Proofs.Ytmnadploikcljaa
