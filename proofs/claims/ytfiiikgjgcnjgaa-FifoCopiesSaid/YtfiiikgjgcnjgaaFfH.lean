/- Chapter 15: Put. -/
import Derived.Test.YtfiiikgjgcnjgaaFfG
set_option linter.unusedVariables false
set_option linter.unusedSimpArgs false
namespace Go.Proofs.Ytfiiikgjgcnjgaa
open Go.RowKit

def wthB (n lo hi : Int) : Bool := decide (lo ≤ n ∧ n ≤ hi)
theorem wthB_iff {n lo hi : Int} : wthB n lo hi = true ↔ lo ≤ n ∧ n ≤ hi := by simp [wthB]
theorem fwith_calls (n lo hi : Int) (w : World) : Calls Try.prog 23 #[.int .i64 n, .int .i64 lo, .int .i64 hi] w fun e w' => e = .returned (.bool (wthB n lo hi)) ∧ w = w' := fwithin_calls n lo hi w
/-- A packet that may be. -/
def Pk.right (p : Pk) : Bool := wthB p.id 0 4611686018427387904 && (wthB p.flow 0 2147483647 && wthB p.size 1 2000)
theorem laid_all (X : Ln) (L : List Pk) (n : Nat) (h : L.length ≤ n) : (X.laid L n).all = L := by
  have hl : (X.laid L n).ring.length = n := by simp [Ln.laid]; omega
  refine List.ext_getElem (by rw [Ln.all_length]; rfl) fun i h1 h2 => ?_
  have hlt : i < n := by omega
  simp only [Ln.all, List.getElem_map, List.getElem_range, Ln.pk, hl]
  show (L ++ List.replicate (n - L.length) pk0).getD ((0 + i) % n) pk0 = L[i]
  rw [Nat.zero_add, Nat.mod_eq_of_lt hlt]
  simp only [List.getD]
  rw [List.getElem?_append_left h2]
  simp [h2]
/-- A packet put behind, where there is a place. -/
def Ln.put (X : Ln) (p : Pk) : Ln := ⟨X.lp, X.lb, X.room, X.ring.set ((X.first + X.many) % X.ring.length) p, X.first, X.many + 1⟩
theorem mod_ne {a b n c : Nat} (h : (a + b) % n = (a + c) % n) (hb : b < n) (hc : c < n) : b = c := by
  have e1 := Nat.div_add_mod (a + b) n
  have e2 := Nat.div_add_mod (a + c) n
  rw [h] at e1
  generalize (a + b) / n = x at *
  generalize (a + c) / n = y at *
  generalize (a + c) % n = r at *
  rcases Nat.lt_trichotomy x y with hxy | rfl | hxy
  · obtain ⟨d, rfl⟩ : ∃ d, y = x + 1 + d := ⟨y - x - 1, by omega⟩
    have : n * (x + 1 + d) = n * x + n + n * d := by rw [Nat.mul_add, Nat.mul_add, Nat.mul_one]
    have := Nat.zero_le (n * d)
    omega
  · omega
  · obtain ⟨d, rfl⟩ : ∃ d, x = y + 1 + d := ⟨x - y - 1, by omega⟩
    have : n * (y + 1 + d) = n * y + n + n * d := by rw [Nat.mul_add, Nat.mul_add, Nat.mul_one]
    have := Nat.zero_le (n * d)
    omega
theorem put_all (X : Ln) (p : Pk) (h : X.Ok) (hm : X.many < X.ring.length) : (X.put p).all = X.all ++ [p] := by
  have hl : (X.put p).ring.length = X.ring.length := by simp [Ln.put]
  refine List.ext_getElem (by simp [Ln.all_length, Ln.put]) fun i h1 h2 => ?_
  rw [Ln.all_length] at h1
  have h1' : i < X.many + 1 := h1
  simp only [Ln.all, List.getElem_map, List.getElem_range, Ln.pk, hl]
  show (X.ring.set ((X.first + X.many) % X.ring.length) p).getD ((X.first + i) % X.ring.length) pk0 = _
  by_cases hi : i = X.many
  · subst hi
    have hlt : (X.first + X.many) % X.ring.length < X.ring.length := Nat.mod_lt _ (by omega)
    simp [List.getD, hlt]
  · have hne : (X.first + X.many) % X.ring.length ≠ (X.first + i) % X.ring.length := fun e => hi (mod_ne e hm (by omega)).symm
    rw [List.getElem_append_left (by simp; omega)]
    simp only [List.getElem_map, List.getElem_range, Ln.pk]
    simp [List.getD, List.getElem?_set_ne hne]
theorem put_ok {X : Ln} (p : Pk) (h : X.Ok) (hm : X.many < X.ring.length) : (X.put p).Ok :=
  ⟨by simpa [Ln.put] using h.len, by simp [Ln.put]; omega, by simpa [Ln.put] using h.first⟩

set_option maxRecDepth 100000 in
set_option maxHeartbeats 1000000 in
theorem fput_arg (b g : Nat) (X : Ln) (p : Pk) (w : World) (h : IsLn w b g X) (hr : p.right = false) : Calls Try.prog 12 #[.pointer (some ⟨b, 0, none⟩), pkv p] w fun e w' => e = .returned (.int .i64 2) ∧ Fr0 w w' := by
  have hf := (Fr.refl (fun _ => False) w).alloc (.cells (pkc p).toArray 34)
  have HN := Lib.hid (fnone_calls b g X _ (h.kept0 hf))
  obtain ⟨⟨z0, z1, z2⟩, _⟩ := pk_cells (heap_alloc_new w (.cells (pkc p).toArray 34))
  have HF := Lib.hid hf
  unfold Pk.right at hr
  clear h hf
  cases e1 : wthB p.id 0 4611686018427387904
  · clear hr
    go_enter Try.func12, Try.ntmps12
    go_wp2_with (first
      | (go_at_call 28; refine HN.out.mono ?_; rintro e w' ⟨rfl, rfl⟩)
      | (go_at_call 23; refine (fwith_calls _ _ _ _).mono ?_; rintro e w' ⟨rfl, rfl⟩))
    go_ret
    exact ⟨rfl, HF.out⟩
  · cases e2 : wthB p.flow 0 2147483647
    · clear hr
      go_enter Try.func12, Try.ntmps12
      go_wp2_with (first
        | (go_at_call 28; refine HN.out.mono ?_; rintro e w' ⟨rfl, rfl⟩)
        | (go_at_call 23; refine (fwith_calls _ _ _ _).mono ?_; rintro e w' ⟨rfl, rfl⟩))
      go_ret
      exact ⟨rfl, HF.out⟩
    · have e3 : wthB p.size 1 2000 = false := by rw [e1, e2] at hr; simpa using hr
      clear hr
      go_enter Try.func12, Try.ntmps12
      go_wp2_with (first
        | (go_at_call 28; refine HN.out.mono ?_; rintro e w' ⟨rfl, rfl⟩)
        | (go_at_call 23; refine (fwith_calls _ _ _ _).mono ?_; rintro e w' ⟨rfl, rfl⟩))
      go_ret
      exact ⟨rfl, HF.out⟩
theorem fput_no (v : Value) (p : Pk) (w : World) (h : NoLn w v) : Calls Try.prog 12 #[v, pkv p] w fun e w' => e = .returned (.int .i64 1) ∧ Fr0 w w' := by
  have hf := (Fr.refl (fun _ => False) w).alloc (.cells (pkc p).toArray 34)
  have HN := Lib.hid (fnone_no v _ (h.kept hf))
  have HF := Lib.hid hf
  clear h hf
  go_enter Try.func12, Try.ntmps12
  go_wp2_with (first
    | (go_at_call 28; refine HN.out.mono ?_; rintro e w' ⟨rfl, rfl⟩))
  go_ret
  exact ⟨rfl, HF.out⟩
theorem fset {a w : World} {b : Nat} (h : Fr (· = b) a w) (i : Nat) (u : Value) : Fr (· = b) a (w.setCell ⟨b, i, none⟩ u) := h.setCell (fun _ => rfl) u
theorem fset2 {a w : World} {b g : Nat} (h : Fr (fun k => k = b ∨ k = g) a w) (i : Nat) (u : Value) : Fr (fun k => k = b ∨ k = g) a (w.setCell ⟨b, i, none⟩ u) := h.setCell (fun _ => .inl rfl) u
theorem fset2' {a w : World} {b g : Nat} (h : Fr (fun k => k = b ∨ k = g) a w) (i : Nat) (u : Value) : Fr (fun k => k = b ∨ k = g) a (w.setCell ⟨g, i, none⟩ u) := h.setCell (fun _ => .inr rfl) u
theorem fset3 {a w : World} {b g g1 : Nat} (hg : g1 = g ∨ a.heap.size ≤ g1) (h : Fr (fun k => k = b ∨ k = g) a w) (i : Nat) (u : Value) : Fr (fun k => k = b ∨ k = g) a (w.setCell ⟨g1, i, none⟩ u) :=
  h.setCell (fun (hl : g1 < a.heap.size) => .inr (by rcases hg with e | e <;> omega)) u
theorem IsLn.lost {w : World} {b g : Nat} {X : Ln} (h : IsLn w b g X) (x y : Int) : IsLn ((w.setCell ⟨b, 0, none⟩ (.int .i64 x)).setCell ⟨b, 1, none⟩ (.int .i64 y)) b g { X with lp := x, lb := y } := by
  obtain ⟨⟨c, h1, h2, h3⟩, ⟨t, sp, h4⟩, h5, ⟨h6, h7, h8⟩, h9⟩ := h
  exact ⟨⟨c, h1, h2, blk_setCell (blk_setCell h3 0 _) 1 _⟩, ⟨t, sp, blk_setCell_other (blk_setCell_other h4 h5.symm _) h5.symm _⟩, h5, ⟨h6, h7, h8⟩, h9⟩

set_option maxRecDepth 100000 in
set_option maxHeartbeats 1000000 in
theorem fput_room (b g : Nat) (X : Ln) (p : Pk) (w : World) (h : IsLn w b g X) (hr : p.right = true) (hs : Small X.all) (hx : X.room - bytesOf X.all < p.size) (hro : 0 ≤ X.room ∧ X.room ≤ 1000000000) (hlp : 0 ≤ X.lp ∧ X.lp ≤ 1000000000) (hlb : 0 ≤ X.lb ∧ X.lb ≤ 1000000000000) :
    Calls Try.prog 12 #[.pointer (some ⟨b, 0, none⟩), pkv p] w fun e w' => e = .returned (.int .i64 230) ∧ IsLn w' b g { X with lp := X.lp + 1, lb := X.lb + p.size } ∧ Fr (· = b) w w' := by
  have hmx : Try.prog.follows .mixedOrders = true := by kernel_rfl
  have hf := (Fr.refl (fun _ => False) w).alloc (.cells (pkc p).toArray 34)
  have hk := h.kept0 hf
  have HK := Lib.hid hk
  have HN := Lib.hid (fnone_calls b g X _ (h.kept0 hf))
  have hbx := heap_alloc_new w (.cells (pkc p).toArray 34)
  have HBX := Lib.hid hbx
  obtain ⟨⟨z0, z1, z2⟩, _⟩ := pk_cells hbx
  have HF := Lib.hid hf
  simp only [Pk.right, Bool.and_eq_true] at hr
  obtain ⟨e1, e2, e3⟩ := hr
  obtain ⟨s1, s2⟩ := wthB_iff.1 e3
  obtain ⟨c, hc1, hc2, hb⟩ := hk.blk
  obtain ⟨c0, c1, c2, c3, c4, c5, c6⟩ := ln_cells hb
  have HB := Lib.hid hb
  have HL := Lib.hid (lt_of_block (show w.heap[b]? = _ from h.blk.choose_spec.2.2))
  have hbr := hs.range
  have hal : (X.all.length : Int) ≤ 1000000 := by rw [X.all_length]; have := h.ok.many; have := h.max; omega
  have HY := Lib.hid (fun w' h => fbytes_calls b g X w' h hs)
  obtain ⟨r1, r2⟩ := hro
  obtain ⟨l1, l2⟩ := hlp
  obtain ⟨m1, m2⟩ := hlb
  clear hk hb hbx h hf hs
  generalize hby : bytesOf X.all = by_ at *
  go_enter Try.func12, Try.ntmps12
  go_wp2_with (first
    | (go_at_call 28; refine HN.out.mono ?_; rintro e w' ⟨rfl, rfl⟩)
    | (go_at_call 23; refine (fwith_calls _ _ _ _).mono ?_; rintro e w' ⟨rfl, rfl⟩))
  generalize w.alloc (.cells (pkc p).toArray 34) = W at *
  have r2' := cg_cell (W := W) c2
  have rz2 := cg_cell (W := W) z2
  refine wp_region_cg hmx (by kernel_rfl) ?_
  repeat (first
    | go_big_quiet_step (fail)
    | go_big_quiet_step (first | (go_at_call 13; exact quiet_cg (HY.out _ (HK.out.kept0 (Wx.fr _))))))
  refine wpQuiet_nil ?_
  intro w5 hf5
  clear c0 c1 c2 c3 c4 c5 c6 z0 z1 z2 r2' rz2
  have hne : w.heap.size ≠ b := by have := HL.out; omega
  have hb5 := hf5.blk HB.out (fun h => h)
  obtain ⟨⟨z0, z1, z2⟩, _⟩ := pk_cells (hf5.blk HBX.out (fun h => h))
  obtain ⟨c0, c1, c2, c3, c4, c5, c6⟩ := ln_cells hb5
  have f0 : w5.frozen? ⟨b, 0, none⟩ = false := free_of_blk hb5 0
  have f1 : w5.frozen? ⟨b, 1, none⟩ = false := free_of_blk hb5 1
  have HB5 := Lib.hid hb5
  have HF5 := Lib.hid (HF.out.trans hf5)
  have HK5 := Lib.hid (HK.out.kept0 hf5)
  clear hb5 hf5
  go_wp2_with fail
  go_region
  all_goals
    go_wp2_with fail
    go_ret
    refine ⟨rfl, ?_, ?_⟩
    · exact (HK5.out.lost _ _).kept0 (Fr.refl _ _).drew
    · exact (fset (fset (Fr0.any HF5.out) 0 _) 1 _).drew

/-- What is behind a packet that was put. -/
structure PutOk (X X' : Ln) (p : Pk) : Prop where
  all : X'.all = X.all ++ [p]
  lp : X'.lp = X.lp
  lb : X'.lb = X.lb
  room : X'.room = X.room
  len : X'.ring.length ≤ max X.ring.length (2 * X.many)
theorem put_putok (X : Ln) (p : Pk) (h : X.Ok) (hm : X.many < X.ring.length) : PutOk X (X.put p) p :=
  ⟨put_all X p h hm, rfl, rfl, rfl, by simp [Ln.put]; omega⟩
theorem IsLn.put {w : World} {b g : Nat} {X : Ln} (h : IsLn w b g X) (p : Pk) (hm : X.many < X.ring.length) :
    IsLn ((((w.setCell ⟨g, (X.first + X.many) % X.ring.length * 3, none⟩ (.int .i64 p.id)).setCell ⟨g, (X.first + X.many) % X.ring.length * 3 + 1, none⟩ (.int .i64 p.flow)).setCell ⟨g, (X.first + X.many) % X.ring.length * 3 + 2, none⟩ (.int .i64 p.size)).setCell ⟨b, 5, none⟩ (.int .i64 ((X.many : Int) + 1))) b g (X.put p) := by
  obtain ⟨⟨c, h1, h2, h3⟩, ⟨t, sp, h4⟩, h5, h6, h9⟩ := h
  have hlt : (X.first + X.many) % X.ring.length < X.ring.length := Nat.mod_lt _ (by omega)
  have hl : (X.put p).ring.length = X.ring.length := by simp [Ln.put]
  generalize hi : (X.first + X.many) % X.ring.length = i at *
  refine ⟨⟨c, by omega, h2, ?_⟩, ⟨t, sp, ?_⟩, h5, put_ok p h6 hm, by omega⟩
  · have := blk_setCell (blk_setCell_other (blk_setCell_other (blk_setCell_other h3 (p := ⟨g, i * 3, none⟩) h5 (.int .i64 p.id)) (p := ⟨g, i * 3 + 1, none⟩) h5 (.int .i64 p.flow)) (p := ⟨g, i * 3 + 2, none⟩) h5 (.int .i64 p.size)) 5 (.int .i64 ((X.many : Int) + 1))
    rw [this]
    have e : lnc (X.put p) g c = #[.int .i64 X.lp, .int .i64 X.lb, .int .i64 X.room, .slice (some ⟨g, 0, none⟩) (X.put p).ring.length c, .int .i64 X.first, .int .i64 (X.many + 1 : Nat), .bool true] := rfl
    rw [e, hl]
    rfl
  · refine blk_setCell_other ?_ h5.symm _
    have := blk_setCell (blk_setCell (blk_setCell h4 (i * 3) (.int .i64 p.id)) (i * 3 + 1) (.int .i64 p.flow)) (i * 3 + 2) (.int .i64 p.size)
    rw [this]
    have hp := pks_set X.ring i p hlt
    have hlen := pks_length X.ring
    have e : (X.put p).ring = X.ring.set i p := by simp [Ln.put, hi]
    rw [e, ← hp]
    congr 2
    apply Array.ext'
    simp only [Array.toList_setIfInBounds]
    rw [List.set_append_left _ _ (by omega), List.set_append_left _ _ (by simp; omega), List.set_append_left _ _ (by simp; omega)]

set_option maxRecDepth 100000 in
set_option maxHeartbeats 2000000 in
theorem fput_yes (b g : Nat) (X : Ln) (p : Pk) (w : World) (h : IsLn w b g X) (hr : p.right = true) (hs : Small X.all) (hx : p.size ≤ X.room - bytesOf X.all) (hro : 0 ≤ X.room ∧ X.room ≤ 1000000000) (hml : 2 * X.many ≤ 1000000) :
    Calls Try.prog 12 #[.pointer (some ⟨b, 0, none⟩), pkv p] w fun e w' => e = .returned (.int .i64 0) ∧ (∃ g' X', IsLn w' b g' X' ∧ PutOk X X' p ∧ (g' = g ∨ w.heap.size ≤ g')) ∧ Fr (fun k => k = b ∨ k = g) w w' := by
  have hmx : Try.prog.follows .mixedOrders = true := by kernel_rfl
  have hf := (Fr.refl (fun _ => False) w).alloc (.cells (pkc p).toArray 34)
  have hk := h.kept0 hf
  have HK := Lib.hid hk
  have HN := Lib.hid (fnone_calls b g X _ (h.kept0 hf))
  have hbx := heap_alloc_new w (.cells (pkc p).toArray 34)
  have HBX := Lib.hid hbx
  obtain ⟨⟨z0, z1, z2⟩, _⟩ := pk_cells hbx
  have HF := Lib.hid hf
  simp only [Pk.right, Bool.and_eq_true] at hr
  obtain ⟨e1, e2, e3⟩ := hr
  obtain ⟨s1, s2⟩ := wthB_iff.1 e3
  obtain ⟨c, hc1, hc2, hb⟩ := hk.blk
  obtain ⟨t, sp, hrow⟩ := h.row
  obtain ⟨c0, c1, c2, c3, c4, c5, c6⟩ := ln_cells hb
  have HB := Lib.hid hb
  have HL := Lib.hid (show b < w.heap.size ∧ g < w.heap.size from ⟨lt_of_block (show w.heap[b]? = _ from h.blk.choose_spec.2.2), lt_of_block hrow⟩)
  have hbr := hs.range
  have hal : (X.all.length : Int) ≤ 1000000 := by rw [X.all_length]; have := h.ok.many; have := h.max; omega
  have HY := Lib.hid (fun w' h => fbytes_calls b g X w' h hs)
  obtain ⟨r1, r2⟩ := hro
  have hmax := h.max
  have hmany := h.ok.many
  clear hk hb hbx h hf hs hrow
  generalize hby : bytesOf X.all = by_ at *
  go_enter Try.func12, Try.ntmps12
  go_wp2_with (first
    | (go_at_call 28; refine HN.out.mono ?_; rintro e w' ⟨rfl, rfl⟩)
    | (go_at_call 23; refine (fwith_calls _ _ _ _).mono ?_; rintro e w' ⟨rfl, rfl⟩))
  generalize w.alloc (.cells (pkc p).toArray 34) = W at *
  have r2' := cg_cell (W := W) c2
  have rz2 := cg_cell (W := W) z2
  refine wp_region_cg hmx (by kernel_rfl) ?_
  repeat (first
    | go_big_quiet_step (fail)
    | go_big_quiet_step (first | (go_at_call 13; exact quiet_cg (HY.out _ (HK.out.kept0 (Wx.fr _))))))
  refine wpQuiet_nil ?_
  intro w5 hf5
  clear c0 c1 c2 c3 c4 c5 c6 z0 z1 z2 r2' rz2
  have hb5 := hf5.blk HB.out (fun h => h)
  obtain ⟨⟨z0, z1, z2⟩, _⟩ := pk_cells (hf5.blk HBX.out (fun h => h))
  obtain ⟨c0, c1, c2, c3, c4, c5, c6⟩ := ln_cells hb5
  have HBX5 := Lib.hid (hf5.blk HBX.out (fun h => h))
  have HF5 := Lib.hid (HF.out.trans hf5)
  have HK5 := Lib.hid (HK.out.kept0 hf5)
  clear hb5 hf5 HBX HF HK HB
  go_wp2_with fail
  have q3 := cg_cell (W := w5) c3
  have q5 := cg_cell (W := w5) c5
  by_cases hfull : X.many = X.ring.length
  case' pos =>
    have hq1 : ((X.many : Int) == (X.ring.length : Int)) = true := by rw [hfull]; simp
    have HFU := Lib.hid hfull
    clear hfull
    refine wp_region_cg hmx (by kernel_rfl) ?_
    repeat (go_big_quiet_step (fail))
    refine wpQuiet_nil ?_
    intro w6 hf6
    have HK6 := Lib.hid (HK5.out.kept0 hf6)
    have HF6 := Lib.hid (HF5.out.trans hf6)
    have HBX6 := Lib.hid (hf6.blk HBX5.out (fun h => h))
    have HALL := Lib.hid (fun w' (h : Fr0 w6 w') => fall_calls b g X w' (HK6.out.kept0 h))
    have HLEN := Lib.hid (show X.all.length ≤ 1000000 by rw [X.all_length]; omega)
    have HAL := Lib.hid X.all_length
    have HP1 := Lib.hid HK6.out.ok.len
    have HC5 := Lib.hid (fun U (h : Fr0 w6 U) => h.cell (show w6.cell? ⟨b, 5, none⟩ = some (.int .i64 X.many) from (ln_cells HK6.out.blk.choose_spec.2.2).c5) (fun h => h))
    obtain ⟨cc, _, _, hb6⟩ := HK6.out.blk
    have HB6 := Lib.hid hb6
    clear HK5 HF5 HBX5 hf6 hq1 q3 q5 c0 c1 c2 c3 c4 c5 c6 z0 z1 z2 hb6
    have hw2 : IntKind.i64.wrap (2 * (X.many : Int)) = 2 * (X.many : Int) := by rw [IntKind.wrap_i64]; omega
    go_wp2_with fail
    go_region_held3 (fun U => U.cell? ⟨b, 5, none⟩ = some (.int .i64 X.many)) (first | exact hlayc | exact HC5.out _ (by first | exact hfn2 | exact hfn1 | exact (Fr.refl _ w6).drew))
      ((first
        | (go_at_call 19; (with_reducible refine (HALL.out _ (Fr.refl _ w6).drew).mono ?_); rintro e wA ⟨⟨f, rfl, hq⟩, hfA⟩; have hfn1 : Fr0 w6 wA := (Fr.refl _ w6).drew.trans hfA)
        | (go_at_call 30; (with_reducible refine (fcollect_calls _ _ X.all wA hq HLEN.out).mono ?_); rintro e wC ⟨⟨v, rfl, hown⟩, hfC⟩; obtain ⟨AL, cL, rfl, hlc, hcm⟩ := own_form hown; have hfn2 : Fr0 w6 wC := hfn1.trans hfC)
        | (go_at_call 29; (with_reducible refine (flay_calls' b g cc X AL cL X.all (2 * X.many) (2 * (X.many : Int)) (by simp) wC (hfn2.blk HB6.out (fun h => h)) (own_rd _ hown (fun q h1 h2 h3 => by have h3' : q = b := h3; have := HL.out; have := HF6.out.size; have := hfn1.size; omega)) (by have := HP1.out; have := HFU.out; omega) (by have := HAL.out; omega) hml).mono ?_); rintro e wL ⟨rfl, hlay, hfL⟩; have hlayc : wL.cell? ⟨b, 5, none⟩ = some (.int .i64 X.many) := by (have := (ln_cells hlay.blk.choose_spec.2.2).c5; rw [this]; simp [Ln.laid, X.all_length]))))
    have PK : ∃ X1 g1, IsLn wL b g1 X1 ∧ X1.many < X1.ring.length ∧ Fr (fun k => k = b ∨ k = g) w wL ∧ (g1 = g ∨ w.heap.size ≤ g1) ∧ PutOk X (X1.put p) p ∧ wL.heap[w.heap.size]? = some (.cells (pkc p).toArray 34 (0, 0)) := by
      have h1 := HP1.out
      have h2 := HFU.out
      have h3 := HAL.out
      have hl : (X.laid X.all (2 * X.many)).ring.length = 2 * X.many := by simp [Ln.laid]; omega
      have hm : (X.laid X.all (2 * X.many)).many = X.many := h3
      have hs := HF6.out.size
      have hs2 := hfn2.size
      have hL := HL.out
      have hlt : (X.laid X.all (2 * X.many)).many < (X.laid X.all (2 * X.many)).ring.length := by rw [hl, hm]; omega
      refine ⟨_, _, hlay, hlt, (Fr0.any (HF6.out.trans hfn2)).trans (hfL.mono (fun _ _ e => .inl e)), .inr (by omega), ⟨?_, rfl, rfl, rfl, ?_⟩, hfL.blk (hfn2.blk HBX6.out (fun h => h)) (fun e : w.heap.size = b => by omega)⟩
      · rw [put_all _ _ hlay.ok hlt, laid_all X X.all _ (by omega)]
      · have : ((X.laid X.all (2 * X.many)).put p).ring.length = (X.laid X.all (2 * X.many)).ring.length := by simp [Ln.put]
        rw [this, hl]; omega
    have HPK := Lib.hid PK
    clear PK hlay hfL hlayc hfn2 hfn1 hown hq hfA hfC HK6 HF6 HBX6 HALL HLEN HAL HP1 HC5 HB6 hw2 HFU hlc hcm
    rename_i hHeld
    clear hHeld
    go_wp2_with fail
  case' neg =>
    have hq1 : ((X.many : Int) == (X.ring.length : Int)) = false := by simp; omega
    refine wp_region_cg hmx (by kernel_rfl) ?_
    repeat (go_big_quiet_step (fail))
    refine wpQuiet_nil ?_
    intro wL hf6
    have hlt : X.many < X.ring.length := by omega
    have PK : ∃ X1 g1, IsLn wL b g1 X1 ∧ X1.many < X1.ring.length ∧ Fr (fun k => k = b ∨ k = g) w wL ∧ (g1 = g ∨ w.heap.size ≤ g1) ∧ PutOk X (X1.put p) p ∧ wL.heap[w.heap.size]? = some (.cells (pkc p).toArray 34 (0, 0)) :=
      ⟨X, g, HK5.out.kept0 hf6, hlt, Fr0.any (HF5.out.trans hf6), .inl rfl, put_putok X p HK5.out.ok hlt, hf6.blk HBX5.out (fun h => h)⟩
    have HPK := Lib.hid PK
    clear PK hlt hq1 hfull hf6 HK5 HF5 HBX5 q3 q5 c0 c1 c2 c3 c4 c5 c6 z0 z1 z2
    go_wp2_with fail
  all_goals
    obtain ⟨X1, g1, hk1, hlt, hf1, hg1, hpo, hbx1⟩ := HPK.out
    obtain ⟨c', hc1', hc2', hb6⟩ := hk1.blk
    obtain ⟨t', sp', hr6⟩ := hk1.row
    obtain ⟨_, _, _, c3, _, c5, _⟩ := ln_cells hb6
    obtain ⟨⟨z0, z1, z2⟩, _⟩ := pk_cells hbx1
    have hat := ring_pk hk1.ok X1.many
    have hmx1 := hk1.max
    obtain ⟨d0, d1, d2⟩ := row_cells hr6 _ hat
    have hi1 : (0 : Int) ≤ (((X1.first + X1.many) % X1.ring.length : Nat) : Int) := by omega
    have hi2 : (((X1.first + X1.many) % X1.ring.length : Nat) : Int) < (X1.ring.length : Int) := by omega
    have HAT := Lib.hid (fun w' h => fat_calls b g1 X1 X1.many w' h (by omega))
    have HPUT := Lib.hid (fun w' (h : Fr0 wL w') => (hk1.kept0 h).put p hlt)
    have hne : b ≠ g1 := hk1.ne.symm
    have HK1 := Lib.hid hk1
    have HPO := Lib.hid hpo
    have HG1 := Lib.hid hg1
    have HF1 := Lib.hid hf1
    have HR6 := Lib.hid hr6
    have HB6 := Lib.hid hb6
    clear hb6 hr6 hat hk1 hpo hg1 hf1 hbx1 HPK
    generalize (X1.first + X1.many) % X1.ring.length = i at *
    have q3 := cg_cell (W := wL) c3
    have q5 := cg_cell (W := wL) c5
    have y0 := cg_cell (W := wL) z0
    have y1 := cg_cell (W := wL) z1
    have y2 := cg_cell (W := wL) z2
    clear c3 c5 z0 z1 z2
    refine wp_region_class (fun U => ∃ x : Wx wL, U = x.u) 12 hmx (by kernel_rfl) ⟨⟨wL.drew, (Fr.refl _ wL).drew⟩, rfl⟩ ?_
    simp only [List.take_succ_cons, List.take_zero, List.drop_succ_cons, List.drop_zero]
    repeat (first
      | go_big_quiet_step (fail)
      | go_big_quiet_step (first | (go_at_call 31; exact quiet_cg (HAT.out _ (HK1.out.kept0 (Wx.fr _))))))
    refine wpQuiet_nil ?_
    rintro w7 ⟨y, hy⟩
    have hf7 : Fr0 wL w7 := hy ▸ y.fr
    clear hy y q3 q5 y0 y1 y2
    have hb7 := hf7.blk HB6.out (fun h => h)
    have hr7 := hf7.blk HR6.out (fun h => h)
    obtain ⟨_, _, _, c3, _, c5, _⟩ := ln_cells hb7
    have f5 : w7.frozen? ⟨b, 5, none⟩ = false := free_of_blk hb7 5
    have k0 := hf7.cell d0 (fun h => h)
    have k1 := hf7.cell d1 (fun h => h)
    have k2 := hf7.cell d2 (fun h => h)
    have g0 : w7.frozen? ⟨g1, i * 3, none⟩ = false := free_of_blk hr7 _
    have g2 : w7.frozen? ⟨g1, i * 3 + 1, none⟩ = false := free_of_blk hr7 _
    have g3 : w7.frozen? ⟨g1, i * 3 + 2, none⟩ = false := free_of_blk hr7 _
    have HPT := Lib.hid (HPUT.out w7 hf7)
    have HF7 := Lib.hid (HF1.out.trans (Fr0.any hf7))
    clear hb7 hr7 hf7 HPUT HR6 HB6 d0 d1 d2
    go_wp2_with fail
    go_ret
    refine ⟨rfl, ⟨g1, _, HPT.out, HPO.out, HG1.out⟩, ?_⟩
    exact fset2 (fset3 HG1.out (fset3 HG1.out (fset3 HG1.out HF7.out _ _) _ _) _ _) _ _
end Go.Proofs.Ytfiiikgjgcnjgaa
