/- Chapter 13: Put. (Written by tools/gensput.py.) -/
import Derived.Test.YtmnadploikcljaaShC
set_option linter.unusedVariables false
set_option linter.unusedSimpArgs false
namespace Go.Proofs.Ytmnadploikcljaa
open Go.RowKit
attribute [local go_sem] Oper.semAt_some

/-- A shaper whose list lies apart from some blocks more. -/
def IsShT (T : Nat → Prop) (w : World) (b m : Nat) (X : Sh) : Prop := ∃ A c, IsShAt w b m A c X ∧ Rd T w A (sends X.L)
theorem IsShT.sh {T : Nat → Prop} {w : World} {b m : Nat} {X : Sh} (h : IsShT T w b m X) : IsSh w b m X := by
  obtain ⟨A, c, h, _⟩ := h
  exact ⟨A, c, h⟩
theorem IsSh.t0 {w : World} {b m : Nat} {X : Sh} (h : IsSh w b m X) : IsShT (fun _ => False) w b m X := by
  obtain ⟨A, c, h⟩ := h
  exact ⟨A, c, h, h.ls.rd.mono (fun _ _ h => h.elim)⟩
theorem IsShT.kept0 {T : Nat → Prop} {w w' : World} {b m : Nat} {X : Sh} (h : IsShT T w b m X) (hf : Fr0 w w') : IsShT T w' b m X := by
  obtain ⟨A, c, h, h2⟩ := h
  exact ⟨A, c, h.kept hf, h2.kept (Fr0.any hf)⟩
theorem IsShT.mono {T T' : Nat → Prop} {w : World} {b m : Nat} {X : Sh} (h : IsShT T w b m X) (ht : ∀ k, k < w.heap.size → T' k → T k) : IsShT T' w b m X := by
  obtain ⟨A, c, h, h2⟩ := h
  exact ⟨A, c, h, h2.mono ht⟩
/-- What Put answers. -/
def putE (X : Sh) (id z : Int) : Int := if ¬ (0 ≤ id ∧ id ≤ 4611686018427387904) then 2 else if ¬ (X.s.least ≤ z ∧ z ≤ X.s.most) then 220 else if X.room - bytesW X.L < z then 230 else 0
/-- What Put makes. -/
def putX (X : Sh) (id z : Int) : Sh := if putE X id z = 0 then { X with L := X.L ++ [(id, z)] } else X
theorem bool_and {a b : Prop} [Decidable a] [Decidable b] (v : Bool) (h : decide (a ∧ b) = v) : (decide a && decide b) = v := by rw [← h]; simp
/-- What waits, stored anew. -/
theorem IsShAt.put {w : World} {b m : Nat} {A : Option Addr} {c : Nat} {X : Sh} (h : IsShAt w b m A c X) {A' : Option Addr} {n c' : Nat} {X' : Sh} (hr : Rd (ShS b m) w A' (sends X'.L)) (hn : A' = none → X'.L = []) (hln : X'.L.length = n) (hc : n ≤ c' ∧ c' ≤ maxLen)
    (hx : X'.room = X.room) (hB : X'.B = X.B) (hok : X'.Ok) : IsShAt (w.setCell ⟨b, 2, none⟩ (.slice A' n c')) b m A' c' X' := by
  subst hln
  refine ⟨?_, ?_, ⟨hr.kept ((Fr.refl (ShS b m) w).setCell (p := ⟨b, 2, none⟩) (fun _ => .inl rfl) _), hn, hc⟩, hok⟩
  · have := blk_setCell h.blk 2 (.slice A' X'.L.length c')
    rw [hx]
    exact this
  · have := blk_setCell_other h.bk (p := ⟨b, 2, none⟩) (show b ≠ m from h.ne) (.slice A' X'.L.length c')
    unfold IsBk
    rw [hB]
    exact this
theorem sall2p_calls (a b : Prop) [Decidable a] [Decidable b] (v : Bool) (h : decide (a ∧ b) = v) (n : Nat) (w : World) (hn : w.heap.size = n) (t : TypeId) : Calls Try.prog 26 #[.slice (some ⟨n, 0, none⟩) 2 2] (w.alloc (.cells #[.bool (decide a), .bool (decide b)] t)) fun e w' => e = .returned (.bool v) ∧ Fr0 (w.alloc (.cells #[.bool (decide a), .bool (decide b)] t)) w' := by
  subst hn
  have h2 := sall2_calls (decide a) (decide b) w t
  rw [bool_and v h] at h2
  exact h2
theorem Sh.Ok.put {X : Sh} (h : X.Ok) {id z : Int} (hz : X.s.least ≤ z ∧ z ≤ X.s.most) (hr : ¬ X.room - bytesW X.L < z) : ({ X with L := X.L ++ [(id, z)] } : Sh).Ok := by
  refine ⟨h.of, fun p hp => ?_, h.room, ?_⟩
  · simp only [List.mem_append, List.mem_singleton] at hp
    rcases hp with hp | rfl
    · exact h.size p hp
    · exact hz
  · show bytesW (X.L ++ [(id, z)]) ≤ X.room
    rw [bytesW_app, bytesW_one]
    show bytesW X.L + z ≤ X.room
    omega
theorem rd_wt1 (S : Nat → Prop) (w : World) (p : Int × Int) (t : TypeId) (hS : ¬ S w.heap.size) : Rd S (w.alloc (.cells #[.int .i64 p.1, .int .i64 p.2] t)) (some ⟨w.heap.size, 0, none⟩) (sends [p]) := by
  refine .inr ⟨_, 0, rfl, hS, fun i hi => ?_⟩
  have := cell_of_blk (heap_alloc_new w (.cells #[.int .i64 p.1, .int .i64 p.2] t)) (0 + i)
  rw [this, Nat.zero_add]
  simp [sends] at hi ⊢
set_option maxHeartbeats 2000000 in
theorem sput_id (b m : Nat) (X : Sh) (id z : Int) (w : World) (h : IsSh w b m X) (h1 : ¬ (0 ≤ id ∧ id ≤ 4611686018427387904)) :
    Calls Try.prog 11 #[.pointer (some ⟨b, 0, none⟩), .agg #[.int .i64 id, .int .i64 z]] w fun e w' => e = .returned (.int .i64 2) ∧ Fr0 w w' := by
  have hf0 := (Fr.refl (fun _ => False) w).alloc (.cells #[.int .i64 id, .int .i64 z] 33)
  have HX0 := Lib.hid (h.kept0 hf0)
  have HBLT := Lib.hid h.lt
  have HP0 := Lib.hid (heap_alloc_new w (.cells #[.int .i64 id, .int .i64 z] 33))
  have HF0 := Lib.hid hf0
  have HN := Lib.hid (snone_calls b m X _ HX0.out)
  have HOK := Lib.hid h.ok
  obtain ⟨A, c, h⟩ := HX0.out
  have c0 := h.cells.c0
  have hs := spec_calls m X.B _ h.bk h.ok.of.rate
  rw [h.ok.of.spec] at hs
  have HS := Lib.hid hs
  have HA := Lib.hid h
  have hmx : Try.prog.follows .mixedOrders = true := by kernel_rfl
  clear h hs hf0
  have h1d := decide_eq_false h1
  have HB1 := Lib.hid (fun n W hn t => sall2p_calls (0 ≤ id) (id ≤ 4611686018427387904) false h1d n W hn t)
  clear h1d h1
  go_enter Try.func11, Try.ntmps11
  go_wp2_with (first
    | (go_at_call 27; refine HN.out.mono ?_; rintro e w5 ⟨rfl, rfl⟩)
    | (go_at_call 28; refine HS.out.mono ?_; rintro e w5 ⟨rfl, hf5⟩
       have hfa := hf5.alloc (.cells (spc X.s) 23)
       have HK := Lib.hid (fun U (hf : Fr0 (w5.alloc (.cells (spc X.s) 23)) U) => (show (U.cell? ⟨w.heap.size, 0, none⟩ = some (.int .i64 id) ∧ U.cell? ⟨w.heap.size, 1, none⟩ = some (.int .i64 z)) ∧ (U.cell? ⟨w5.heap.size, 3, none⟩ = some (.int .i64 X.s.most) ∧ U.cell? ⟨w5.heap.size, 4, none⟩ = some (.int .i64 X.s.least)) ∧ IsShAt U b m A c X ∧ Fr0 w U from
         ⟨⟨(hfa.trans hf).cell (cell_of_blk HP0.out 0) (fun h => h), (hfa.trans hf).cell (cell_of_blk HP0.out 1) (fun h => h)⟩, ⟨hf.cell (cell_of_blk (heap_alloc_new w5 (.cells (spc X.s) 23)) 3) (fun h => h), hf.cell (cell_of_blk (heap_alloc_new w5 (.cells (spc X.s) 23)) 4) (fun h => h)⟩, HA.out.kept (hfa.trans hf), HF0.out.trans (hfa.trans hf)⟩))
       obtain ⟨⟨p0, p1⟩, ⟨q3, q4⟩, _⟩ := HK.out _ (Fr.refl _ _)
       clear c0 hfa hf5)
    | (go_at_call 26; (with_reducible refine (HB1.out _ _ (by simp) _).mono ?_); rintro e w6 ⟨rfl, hf6⟩; have hf6b := ((Fr.refl (fun _ => False) _).alloc _).trans hf6; obtain ⟨⟨p0, p1⟩, ⟨q3, q4⟩, _⟩ := HK.out _ hf6b)
    )
  go_ret
  exact ⟨rfl, (HK.out _ hf6b).2.2.2⟩
set_option maxHeartbeats 2000000 in
theorem sput_size (b m : Nat) (X : Sh) (id z : Int) (w : World) (h : IsSh w b m X) (h1 : 0 ≤ id ∧ id ≤ 4611686018427387904) (h2 : ¬ (X.s.least ≤ z ∧ z ≤ X.s.most)) :
    Calls Try.prog 11 #[.pointer (some ⟨b, 0, none⟩), .agg #[.int .i64 id, .int .i64 z]] w fun e w' => e = .returned (.int .i64 220) ∧ Fr0 w w' := by
  have hf0 := (Fr.refl (fun _ => False) w).alloc (.cells #[.int .i64 id, .int .i64 z] 33)
  have HX0 := Lib.hid (h.kept0 hf0)
  have HBLT := Lib.hid h.lt
  have HP0 := Lib.hid (heap_alloc_new w (.cells #[.int .i64 id, .int .i64 z] 33))
  have HF0 := Lib.hid hf0
  have HN := Lib.hid (snone_calls b m X _ HX0.out)
  have HOK := Lib.hid h.ok
  obtain ⟨A, c, h⟩ := HX0.out
  have c0 := h.cells.c0
  have hs := spec_calls m X.B _ h.bk h.ok.of.rate
  rw [h.ok.of.spec] at hs
  have HS := Lib.hid hs
  have HA := Lib.hid h
  have hmx : Try.prog.follows .mixedOrders = true := by kernel_rfl
  clear h hs hf0
  have h1d := decide_eq_true h1
  have h2d := decide_eq_false h2
  have HB1 := Lib.hid (fun n W hn t => sall2p_calls (0 ≤ id) (id ≤ 4611686018427387904) true h1d n W hn t)
  clear h1d h1
  have HB2 := Lib.hid (fun n W hn t => sall2p_calls (X.s.least ≤ z) (z ≤ X.s.most) false h2d n W hn t)
  clear h2d
  clear h2
  go_enter Try.func11, Try.ntmps11
  go_wp2_with (first
    | (go_at_call 27; refine HN.out.mono ?_; rintro e w5 ⟨rfl, rfl⟩)
    | (go_at_call 28; refine HS.out.mono ?_; rintro e w5 ⟨rfl, hf5⟩
       have hfa := hf5.alloc (.cells (spc X.s) 23)
       have HK := Lib.hid (fun U (hf : Fr0 (w5.alloc (.cells (spc X.s) 23)) U) => (show (U.cell? ⟨w.heap.size, 0, none⟩ = some (.int .i64 id) ∧ U.cell? ⟨w.heap.size, 1, none⟩ = some (.int .i64 z)) ∧ (U.cell? ⟨w5.heap.size, 3, none⟩ = some (.int .i64 X.s.most) ∧ U.cell? ⟨w5.heap.size, 4, none⟩ = some (.int .i64 X.s.least)) ∧ IsShAt U b m A c X ∧ Fr0 w U from
         ⟨⟨(hfa.trans hf).cell (cell_of_blk HP0.out 0) (fun h => h), (hfa.trans hf).cell (cell_of_blk HP0.out 1) (fun h => h)⟩, ⟨hf.cell (cell_of_blk (heap_alloc_new w5 (.cells (spc X.s) 23)) 3) (fun h => h), hf.cell (cell_of_blk (heap_alloc_new w5 (.cells (spc X.s) 23)) 4) (fun h => h)⟩, HA.out.kept (hfa.trans hf), HF0.out.trans (hfa.trans hf)⟩))
       obtain ⟨⟨p0, p1⟩, ⟨q3, q4⟩, _⟩ := HK.out _ (Fr.refl _ _)
       clear c0 hfa hf5)
    | (go_at_call 26; (with_reducible refine (HB1.out _ _ (by simp) _).mono ?_); rintro e w6 ⟨rfl, hf6⟩; have hf6b := ((Fr.refl (fun _ => False) _).alloc _).trans hf6; obtain ⟨⟨p0, p1⟩, ⟨q3, q4⟩, _⟩ := HK.out _ hf6b)
    | (go_at_call 26; (with_reducible refine (HB2.out _ _ (by simp) _).mono ?_); rintro e w7 ⟨rfl, hf7⟩; have hf7b := hf6b.trans (((Fr.refl (fun _ => False) _).alloc _).trans hf7); obtain ⟨⟨p0, p1⟩, ⟨q3, q4⟩, HW7, HF7⟩ := HK.out _ hf7b)
    )
  go_ret
  exact ⟨rfl, HF7⟩
set_option maxHeartbeats 2000000 in
theorem sput_room (b m : Nat) (X : Sh) (id z : Int) (w : World) (h : IsSh w b m X) (h1 : 0 ≤ id ∧ id ≤ 4611686018427387904) (h2 : X.s.least ≤ z ∧ z ≤ X.s.most) (h3 : X.room - bytesW X.L < z) :
    Calls Try.prog 11 #[.pointer (some ⟨b, 0, none⟩), .agg #[.int .i64 id, .int .i64 z]] w fun e w' => e = .returned (.int .i64 230) ∧ Fr0 w w' := by
  have hf0 := (Fr.refl (fun _ => False) w).alloc (.cells #[.int .i64 id, .int .i64 z] 33)
  have HX0 := Lib.hid (h.kept0 hf0)
  have HBLT := Lib.hid h.lt
  have HP0 := Lib.hid (heap_alloc_new w (.cells #[.int .i64 id, .int .i64 z] 33))
  have HF0 := Lib.hid hf0
  have HN := Lib.hid (snone_calls b m X _ HX0.out)
  have HOK := Lib.hid h.ok
  obtain ⟨A, c, h⟩ := HX0.out
  have c0 := h.cells.c0
  have hs := spec_calls m X.B _ h.bk h.ok.of.rate
  rw [h.ok.of.spec] at hs
  have HS := Lib.hid hs
  have HA := Lib.hid h
  have hmx : Try.prog.follows .mixedOrders = true := by kernel_rfl
  clear h hs hf0
  have h1d := decide_eq_true h1
  have h2d := decide_eq_true h2
  have HB1 := Lib.hid (fun n W hn t => sall2p_calls (0 ≤ id) (id ≤ 4611686018427387904) true h1d n W hn t)
  clear h1d h1
  have HB2 := Lib.hid (fun n W hn t => sall2p_calls (X.s.least ≤ z) (z ≤ X.s.most) true h2d n W hn t)
  clear h2d
  clear h2
  have hd3 : decide (X.room - bytesW X.L < z) = true := decide_eq_true h3
  have HW := Lib.hid (show IntKind.i64.wrap (X.room - bytesW X.L) = X.room - bytesW X.L from by
    have h1 := HOK.out.pos.range
    have h2 := HOK.out.room
    have h3 := HOK.out.fits
    rw [IntKind.wrap_i64]; omega)
  have hw := HW.out
  go_enter Try.func11, Try.ntmps11
  go_wp2_with (first
    | (go_at_call 27; refine HN.out.mono ?_; rintro e w5 ⟨rfl, rfl⟩)
    | (go_at_call 28; refine HS.out.mono ?_; rintro e w5 ⟨rfl, hf5⟩
       have hfa := hf5.alloc (.cells (spc X.s) 23)
       have HK := Lib.hid (fun U (hf : Fr0 (w5.alloc (.cells (spc X.s) 23)) U) => (show (U.cell? ⟨w.heap.size, 0, none⟩ = some (.int .i64 id) ∧ U.cell? ⟨w.heap.size, 1, none⟩ = some (.int .i64 z)) ∧ (U.cell? ⟨w5.heap.size, 3, none⟩ = some (.int .i64 X.s.most) ∧ U.cell? ⟨w5.heap.size, 4, none⟩ = some (.int .i64 X.s.least)) ∧ IsShAt U b m A c X ∧ Fr0 w U from
         ⟨⟨(hfa.trans hf).cell (cell_of_blk HP0.out 0) (fun h => h), (hfa.trans hf).cell (cell_of_blk HP0.out 1) (fun h => h)⟩, ⟨hf.cell (cell_of_blk (heap_alloc_new w5 (.cells (spc X.s) 23)) 3) (fun h => h), hf.cell (cell_of_blk (heap_alloc_new w5 (.cells (spc X.s) 23)) 4) (fun h => h)⟩, HA.out.kept (hfa.trans hf), HF0.out.trans (hfa.trans hf)⟩))
       obtain ⟨⟨p0, p1⟩, ⟨q3, q4⟩, _⟩ := HK.out _ (Fr.refl _ _)
       clear c0 hfa hf5)
    | (go_at_call 26; (with_reducible refine (HB1.out _ _ (by simp) _).mono ?_); rintro e w6 ⟨rfl, hf6⟩; have hf6b := ((Fr.refl (fun _ => False) _).alloc _).trans hf6; obtain ⟨⟨p0, p1⟩, ⟨q3, q4⟩, _⟩ := HK.out _ hf6b)
    | (go_at_call 26; (with_reducible refine (HB2.out _ _ (by simp) _).mono ?_); rintro e w7 ⟨rfl, hf7⟩; have hf7b := hf6b.trans (((Fr.refl (fun _ => False) _).alloc _).trans hf7); obtain ⟨⟨p0, p1⟩, ⟨q3, q4⟩, HW7, HF7⟩ := HK.out _ hf7b)
    )
  have HB := Lib.hid (fun U (hf : Fr0 w7 U) => sbytes_calls b m X U ⟨A, c, HW7.kept hf⟩)
  have ra := cg_cell (W := w7) p1
  have rb := cg_cell (W := w7) HW7.cells.c1
  refine wp_region_cg hmx (by kernel_rfl) ?_
  repeat (first
    | go_big_quiet_step (fail)
    | go_big_quiet_step (first | (go_at_call 15; exact quiet_cg (HB.out _ (Wx.fr _)))))
  refine wpQuiet_nil ?_
  intro w8 hf8
  clear ra rb HB
  go_wp2_with fail
  go_ret
  exact ⟨rfl, HF7.trans hf8⟩
set_option maxHeartbeats 2000000 in
theorem sput_ok (b m : Nat) (X : Sh) (id z : Int) (w : World) (h : IsSh w b m X) (h1 : 0 ≤ id ∧ id ≤ 4611686018427387904) (h2 : X.s.least ≤ z ∧ z ≤ X.s.most) (h3 : ¬ X.room - bytesW X.L < z) :
    Calls Try.prog 11 #[.pointer (some ⟨b, 0, none⟩), .agg #[.int .i64 id, .int .i64 z]] w fun e w' => e = .returned (.int .i64 0) ∧ IsShT (fun k => k < w.heap.size) w' b m { X with L := X.L ++ [(id, z)] } ∧ Fr (· = b) w w' := by
  have hf0 := (Fr.refl (fun _ => False) w).alloc (.cells #[.int .i64 id, .int .i64 z] 33)
  have HX0 := Lib.hid (h.kept0 hf0)
  have HBLT := Lib.hid h.lt
  have HP0 := Lib.hid (heap_alloc_new w (.cells #[.int .i64 id, .int .i64 z] 33))
  have HF0 := Lib.hid hf0
  have HN := Lib.hid (snone_calls b m X _ HX0.out)
  have HOK := Lib.hid h.ok
  obtain ⟨A, c, h⟩ := HX0.out
  have c0 := h.cells.c0
  have hs := spec_calls m X.B _ h.bk h.ok.of.rate
  rw [h.ok.of.spec] at hs
  have HS := Lib.hid hs
  have HA := Lib.hid h
  have hmx : Try.prog.follows .mixedOrders = true := by kernel_rfl
  clear h hs hf0
  have HOK2 := Lib.hid (HOK.out.put (id := id) h2 h3)
  have h1d := decide_eq_true h1
  have h2d := decide_eq_true h2
  have HB1 := Lib.hid (fun n W hn t => sall2p_calls (0 ≤ id) (id ≤ 4611686018427387904) true h1d n W hn t)
  clear h1d h1
  have HB2 := Lib.hid (fun n W hn t => sall2p_calls (X.s.least ≤ z) (z ≤ X.s.most) true h2d n W hn t)
  clear h2d
  clear h2
  have hd3 : decide (X.room - bytesW X.L < z) = false := decide_eq_false h3
  have HW := Lib.hid (show IntKind.i64.wrap (X.room - bytesW X.L) = X.room - bytesW X.L from by
    have h1 := HOK.out.pos.range
    have h2 := HOK.out.room
    have h3 := HOK.out.fits
    rw [IntKind.wrap_i64]; omega)
  have hw := HW.out
  go_enter Try.func11, Try.ntmps11
  go_wp2_with (first
    | (go_at_call 27; refine HN.out.mono ?_; rintro e w5 ⟨rfl, rfl⟩)
    | (go_at_call 28; refine HS.out.mono ?_; rintro e w5 ⟨rfl, hf5⟩
       have hfa := hf5.alloc (.cells (spc X.s) 23)
       have HK := Lib.hid (fun U (hf : Fr0 (w5.alloc (.cells (spc X.s) 23)) U) => (show (U.cell? ⟨w.heap.size, 0, none⟩ = some (.int .i64 id) ∧ U.cell? ⟨w.heap.size, 1, none⟩ = some (.int .i64 z)) ∧ (U.cell? ⟨w5.heap.size, 3, none⟩ = some (.int .i64 X.s.most) ∧ U.cell? ⟨w5.heap.size, 4, none⟩ = some (.int .i64 X.s.least)) ∧ IsShAt U b m A c X ∧ Fr0 w U from
         ⟨⟨(hfa.trans hf).cell (cell_of_blk HP0.out 0) (fun h => h), (hfa.trans hf).cell (cell_of_blk HP0.out 1) (fun h => h)⟩, ⟨hf.cell (cell_of_blk (heap_alloc_new w5 (.cells (spc X.s) 23)) 3) (fun h => h), hf.cell (cell_of_blk (heap_alloc_new w5 (.cells (spc X.s) 23)) 4) (fun h => h)⟩, HA.out.kept (hfa.trans hf), HF0.out.trans (hfa.trans hf)⟩))
       obtain ⟨⟨p0, p1⟩, ⟨q3, q4⟩, _⟩ := HK.out _ (Fr.refl _ _)
       clear c0 hfa hf5)
    | (go_at_call 26; (with_reducible refine (HB1.out _ _ (by simp) _).mono ?_); rintro e w6 ⟨rfl, hf6⟩; have hf6b := ((Fr.refl (fun _ => False) _).alloc _).trans hf6; obtain ⟨⟨p0, p1⟩, ⟨q3, q4⟩, _⟩ := HK.out _ hf6b)
    | (go_at_call 26; (with_reducible refine (HB2.out _ _ (by simp) _).mono ?_); rintro e w7 ⟨rfl, hf7⟩; have hf7b := hf6b.trans (((Fr.refl (fun _ => False) _).alloc _).trans hf7); obtain ⟨⟨p0, p1⟩, ⟨q3, q4⟩, HW7, HF7⟩ := HK.out _ hf7b)
    )
  have HB := Lib.hid (fun U (hf : Fr0 w7 U) => sbytes_calls b m X U ⟨A, c, HW7.kept hf⟩)
  have ra := cg_cell (W := w7) p1
  have rb := cg_cell (W := w7) HW7.cells.c1
  refine wp_region_cg hmx (by kernel_rfl) ?_
  repeat (first
    | go_big_quiet_step (fail)
    | go_big_quiet_step (first | (go_at_call 15; exact quiet_cg (HB.out _ (Wx.fr _)))))
  refine wpQuiet_nil ?_
  intro w8 hf8
  clear ra rb HB
  have HW8 := Lib.hid (HW7.kept hf8)
  have HF8 := Lib.hid (HF7.trans hf8)
  have HKK := Lib.hid (fun U (hf : Fr0 w8 U) => (show (U.cell? ⟨w.heap.size, 0, none⟩ = some (.int .i64 id) ∧ U.cell? ⟨w.heap.size, 1, none⟩ = some (.int .i64 z)) ∧ U.cell? ⟨b, 2, none⟩ = some (.slice A X.L.length c) ∧ U.frozen? ⟨b, 2, none⟩ = false from ⟨(HK.out _ (hf7b.trans (hf8.trans hf))).1, (HW8.out.kept hf).cells.c2, free_of_blk (HW8.out.kept hf).blk 2⟩))
  obtain ⟨⟨p0, p1⟩, k2, kf⟩ := HKK.out _ (Fr.refl _ w8).drew
  have k2a := fun o => (HKK.out _ ((Fr.refl _ w8).alloc o)).2.1
  have k2b := fun o => (HKK.out _ ((Fr.refl _ w8).alloc o).drew).2.1
  have HC := Lib.hid (fun U (hf : Fr0 w8 U) => sclone_calls A c X.L U ⟨(HW8.out.kept hf).ls.rd.mono (fun _ _ h => h.elim), HW8.out.ls.nil, HW8.out.ls.cap⟩ HOK.out.len)
  have hln := HOK.out.len
  clear HK HW7 hf8 hf7b hf7 hf6b hf6 q3 q4 HB1 HB2 HN HS
  go_wp2_with fail
  go_region_law ((first
    | (go_simp; go_at_call 29; (with_reducible refine (HC.out _ (by first | exact (Fr.refl _ w8).drew | exact ((Fr.refl _ w8).alloc _).drew | exact (Fr.refl _ w8).drew.alloc _)).mono ?_); rintro e w5 ⟨⟨A5, c5, rfl, hown5', hnil5⟩, hf5⟩; have hown5 := own_mono (base' := w8.heap.size) hown5' (by first | exact Nat.le_refl _ | exact ((Fr.refl (fun _ => False) w8).alloc _).drew.size); have hfB : Fr0 w8 w5 := (by first | exact (Fr.refl _ w8).drew.trans hf5 | exact ((Fr.refl _ w8).alloc _).drew.trans hf5 | exact ((Fr.refl _ w8).drew.alloc _).trans hf5); obtain ⟨⟨p0, p1⟩, k2, kf⟩ := HKK.out _ hfB)
    | (refine step_app rfl (.tmp 53) (.tmp 55) _ rfl Try.underlying30 wt_elem (base := w8.heap.size) (.slice A5 X.L.length c5) X.L.length (sends X.L) rfl (own_kept0 hown5 ((Fr.refl _ w5).alloc _)) (fun _ => False) _ 1 1 (sends [(id, z)]) rfl (rd_wt1 _ _ (id, z) _ (fun h => h)) rfl (sends_one' _) (by simp only [maxLen]; omega) (by omega) (by have := hfB.size; simp; omega) (by simp) ?_; intro v6 w6 hown hg hat; obtain ⟨g6, c6, hv6, hg6, hgl6⟩ := hown.form (by omega); subst hv6; have hf6 : Fr0 w8 w6 := (hfB.alloc _).grown hg (fun k hk e => by have := (own_blk hown5 e.symm.symm).1; have hdz : w8.drew.heap.size = w8.heap.size := rfl; omega); obtain ⟨⟨p0, p1⟩, k2, kf⟩ := HKK.out _ hf6)
    | (refine step_app rfl (.tmp 53) (.tmp 55) _ rfl Try.underlying30 wt_elem (base := w8.heap.size) (.slice A5 X.L.length c5) X.L.length (sends X.L) rfl hown5 (fun _ => False) _ 1 1 (sends [(id, z)]) rfl (((rd_wt1 (fun _ => False) w8 (id, z) _ (fun h => h)).kept (Fr.refl _ _).drew).kept hf5) rfl (sends_one' _) (by simp only [maxLen]; omega) (by omega) (by have := hfB.size; simp; omega) (by simp) ?_; intro v6 w6 hown hg hat; obtain ⟨g6, c6, hv6, hg6, hgl6⟩ := hown.form (by omega); subst hv6; have hf6 : Fr0 w8 w6 := hfB.grown hg (fun k hk e => by have := (own_blk hown5 e.symm.symm).1; have hdz : w8.drew.heap.size = w8.heap.size := rfl; omega); obtain ⟨⟨p0, p1⟩, k2, kf⟩ := HKK.out _ hf6)))
  all_goals
    go_wp2_with fail
    go_ret
    obtain ⟨A7, c7, e7, hc7, hm7⟩ := own_form hown
    injection e7 with e8 e9 e10
    subst e10
    have hW6 := HW8.out.kept hf6
    have hlt8 : b < w8.heap.size ∧ m < w8.heap.size := ⟨lt_of_block HW8.out.blk, HW8.out.bk.lt⟩
    have hdz : w8.drew.heap.size = w8.heap.size := rfl
    have hs : sends (X.L ++ [(id, z)]) = sends X.L ++ sends [(id, z)] := by simp [sends]
    refine ⟨rfl, ⟨some ⟨g6, 0, none⟩, c6, hW6.put (X' := { X with L := X.L ++ [(id, z)] }) ?_ (fun h => by cases h) (by simp) ⟨hc7, hm7⟩ rfl rfl HOK2.out, ?_⟩, (Fr.setCell (S := fun k => k = b) (Fr0.any (Fr.trans HF8.out hf6)) (p := ⟨b, 2, none⟩) (fun _ => rfl) _)⟩
    · rw [hs]
      exact own_rd (ShS b m) hown (fun k hk _ hS => by rcases hS with e | e <;> omega)
    · show Rd _ _ _ (sends (X.L ++ [(id, z)]))
      rw [hs]
      have h8 := HF8.out.size
      exact (own_rd (fun k => k < w.heap.size) hown (fun k hk _ hS => by omega)).kept ((Fr.refl (fun k => k < w.heap.size) w6).setCell (p := ⟨b, 2, none⟩) (fun _ => HBLT.out.1) _)
/-- Put, whatever it is asked. -/
theorem sput_calls (b m : Nat) (X : Sh) (id z : Int) (w : World) (h : IsSh w b m X) :
    Calls Try.prog 11 #[.pointer (some ⟨b, 0, none⟩), .agg #[.int .i64 id, .int .i64 z]] w fun e w' => e = .returned (.int .i64 (putE X id z)) ∧ IsSh w' b m (putX X id z) ∧ Fr (ShS b m) w w' := by
  by_cases h1 : 0 ≤ id ∧ id ≤ 4611686018427387904
  · by_cases h2 : X.s.least ≤ z ∧ z ≤ X.s.most
    · by_cases h3 : X.room - bytesW X.L < z
      · have he : putE X id z = 230 := by unfold putE; rw [if_neg (by simpa using h1), if_neg (by simpa using h2), if_pos h3]
        refine (sput_room b m X id z w h h1 h2 h3).mono fun e w' q => ⟨by rw [he]; exact q.1, ?_, q.2.any⟩
        rw [putX, if_neg (by rw [he]; decide)]
        exact h.kept0 q.2
      · have he : putE X id z = 0 := by unfold putE; rw [if_neg (by simpa using h1), if_neg (by simpa using h2), if_neg h3]
        refine (sput_ok b m X id z w h h1 h2 h3).mono fun e w' q => ⟨by rw [he]; exact q.1, ?_, q.2.2.mono (fun k _ e => .inl e)⟩
        rw [putX, if_pos he]
        exact q.2.1.sh
    · have he : putE X id z = 220 := by unfold putE; rw [if_neg (by simpa using h1), if_pos h2]
      refine (sput_size b m X id z w h h1 h2).mono fun e w' q => ⟨by rw [he]; exact q.1, ?_, q.2.any⟩
      rw [putX, if_neg (by rw [he]; decide)]
      exact h.kept0 q.2
  · have he : putE X id z = 2 := by unfold putE; rw [if_pos h1]
    refine (sput_id b m X id z w h h1).mono fun e w' q => ⟨by rw [he]; exact q.1, ?_, q.2.any⟩
    rw [putX, if_neg (by rw [he]; decide)]
    exact h.kept0 q.2
theorem sput_callsT (T : Nat → Prop) (b m : Nat) (X : Sh) (id z : Int) (w : World) (hT : ∀ k, w.heap.size ≤ k → ¬ T k) (h : IsShT T w b m X) :
    Calls Try.prog 11 #[.pointer (some ⟨b, 0, none⟩), .agg #[.int .i64 id, .int .i64 z]] w fun e w' => e = .returned (.int .i64 (putE X id z)) ∧ IsShT T w' b m (putX X id z) ∧ Fr (ShS b m) w w' := by
  by_cases h1 : 0 ≤ id ∧ id ≤ 4611686018427387904
  · by_cases h2 : X.s.least ≤ z ∧ z ≤ X.s.most
    · by_cases h3 : X.room - bytesW X.L < z
      · have he : putE X id z = 230 := by unfold putE; rw [if_neg (by simpa using h1), if_neg (by simpa using h2), if_pos h3]
        refine (sput_room b m X id z w h.sh h1 h2 h3).mono fun e w' q => ⟨by rw [he]; exact q.1, ?_, q.2.any⟩
        rw [putX, if_neg (by rw [he]; decide)]
        exact h.kept0 q.2
      · have he : putE X id z = 0 := by unfold putE; rw [if_neg (by simpa using h1), if_neg (by simpa using h2), if_neg h3]
        refine (sput_ok b m X id z w h.sh h1 h2 h3).mono fun e w' q => ⟨by rw [he]; exact q.1, ?_, q.2.2.mono (fun k _ e => .inl e)⟩
        rw [putX, if_pos he]
        exact q.2.1.mono (fun k _ e => Nat.lt_of_not_le fun h => hT k h e)
    · have he : putE X id z = 220 := by unfold putE; rw [if_neg (by simpa using h1), if_pos h2]
      refine (sput_size b m X id z w h.sh h1 h2).mono fun e w' q => ⟨by rw [he]; exact q.1, ?_, q.2.any⟩
      rw [putX, if_neg (by rw [he]; decide)]
      exact h.kept0 q.2
  · have he : putE X id z = 2 := by unfold putE; rw [if_pos h1]
    refine (sput_id b m X id z w h.sh h1).mono fun e w' q => ⟨by rw [he]; exact q.1, ?_, q.2.any⟩
    rw [putX, if_neg (by rw [he]; decide)]
    exact h.kept0 q.2
theorem sput_no (v : Value) (id z : Int) (w : World) (h : NoSh w v) : Calls Try.prog 11 #[v, .agg #[.int .i64 id, .int .i64 z]] w fun e w' => e = .returned (.int .i64 1) ∧ Fr0 w w' := by
  have hf0 := (Fr.refl (fun _ => False) w).alloc (.cells #[.int .i64 id, .int .i64 z] 33)
  have HN := Lib.hid (snone_no v _ (h.kept hf0))
  have HF := Lib.hid hf0
  clear h hf0
  go_enter Try.func11, Try.ntmps11
  go_wp2_with (go_at_call 27; refine HN.out.mono ?_; rintro e w5 ⟨rfl, rfl⟩)
  go_ret
  exact ⟨rfl, HF.out⟩
end Go.Proofs.Ytmnadploikcljaa
