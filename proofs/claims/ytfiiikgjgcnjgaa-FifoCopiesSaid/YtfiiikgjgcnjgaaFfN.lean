/- Chapter 15: the document's line. -/
import Derived.Test.YtfiiikgjgcnjgaaFfM
set_option linter.unusedVariables false
set_option linter.unusedSimpArgs false
namespace Go.Proofs.Ytfiiikgjgcnjgaa
open Go.RowKit

abbrev rlc (room : Int) (A : Option Addr) (n c : Nat) (p b : Int) : Array Value := #[.int .i64 room, .slice A n c, .int .i64 p, .int .i64 b]
abbrev rlv (room : Int) (A : Option Addr) (n c : Nat) (p b : Int) : Value := .agg #[.int .i64 room, .slice A n c, .int .i64 p, .int .i64 b]
theorem rl_cells {w : World} {k : Nat} {room : Int} {A : Option Addr} {n c : Nat} {p b : Int} (h : w.heap[k]? = some (.cells (rlc room A n c p b) 30 (0, 0))) :
    (w.cell? ⟨k, 0, none⟩ = some (.int .i64 room) ∧ w.cell? ⟨k, 1, none⟩ = some (.slice A n c) ∧ w.cell? ⟨k, 2, none⟩ = some (.int .i64 p) ∧ w.cell? ⟨k, 3, none⟩ = some (.int .i64 b)) ∧
    w.frozen? ⟨k, 0, none⟩ = false ∧ w.frozen? ⟨k, 1, none⟩ = false ∧ w.frozen? ⟨k, 2, none⟩ = false ∧ w.frozen? ⟨k, 3, none⟩ = false :=
  ⟨⟨cell_of_blk h 0, cell_of_blk h 1, cell_of_blk h 2, cell_of_blk h 3⟩, free_of_blk h 0, free_of_blk h 1, free_of_blk h 2, free_of_blk h 3⟩
theorem rright_calls (p : Pk) (w : World) : Calls Try.prog 39 #[pkv p] w fun e w' => e = .returned (.bool p.right) ∧ Fr0 w w' := by
  have HF := Lib.hid ((Fr.refl (fun _ => False) w).alloc (.cells (pkc p).toArray 34))
  obtain ⟨id, fl, sz⟩ := p
  have hr : (Pk.mk id fl sz).right = decide (0 ≤ id ∧ id ≤ 4611686018427387904 ∧ 0 ≤ fl ∧ fl ≤ 2147483647 ∧ 1 ≤ sz ∧ sz ≤ 2000) := by
    rw [Bool.eq_iff_iff]; simp [Pk.right, wthB]; omega
  rw [hr]
  clear hr
  go_enter Try.func39, Try.ntmps39
  go_wp2_with fail
  all_goals
    go_ret
    refine ⟨rtb ?_, HF.out⟩
    rw [Bool.eq_iff_iff]
    simp
    omega
theorem take_bytes (l : List Pk) (k : Nat) (h : k < l.length) : bytesOf (l.take (k + 1)) = bytesOf (l.take k) + l[k].size := by
  rw [List.take_succ_eq_append_getElem h, bytesOf_app, bytesOf_one]
theorem Small.take {l : List Pk} (h : Small l) (k : Nat) : Small (l.take k) := fun p hp => h p (List.mem_of_mem_take hp)
theorem rhere_calls (room : Int) (A : Option Addr) (c : Nat) (l : List Pk) (p b : Int) (w : World) (hR : Rd (fun _ => False) w A (pks l)) (hs : Small l) (hl : l.length ≤ 1000000) :
    Calls Try.prog 27 #[rlv room A l.length c p b] w fun e w' => e = .returned (.int .i64 (bytesOf l)) ∧ Fr0 w w' := by
  have hf := (Fr.refl (fun _ => False) w).alloc (.cells (rlc room A l.length c p b) 30)
  have HF := Lib.hid hf
  have HR := Lib.hid (hR.kept hf)
  have HS := Lib.hid hs
  obtain ⟨⟨c0, c1, c2, c3⟩, _⟩ := rl_cells (heap_alloc_new w (.cells (rlc room A l.length c p b) 30))
  clear hR hs hf
  go_enter Try.func27, Try.ntmps27
  go_wp2_with fail
  generalize w.alloc (.cells (rlc room A l.length c p b) 30) = W at *
  go_loop [3, 4] (fun n i => ∃ k : Nat, k ≤ l.length ∧ i = .int .i64 (k : Int) ∧ n = .int .i64 (bytesOf (l.take k))) (fun _ i => l.length - (intOf i).toNat)
  case atStart => exact ⟨0, Nat.zero_le _, rfl, by simp [bytesOf]⟩
  case round =>
    obtain ⟨k, hk, rfl, rfl⟩ := hrel
    have hb := (HS.out.take k).range
    have hlt' : ((l.take k).length : Int) ≤ 1000000 := by rw [List.length_take]; omega
    by_cases hlt : k < l.length
    · have hr := HR.out
      obtain ⟨g, off, rfl⟩ := hr.some_ (by rw [pks_length]; omega)
      obtain ⟨d0, d1, d2⟩ := rd_pk hr k hlt
      have hi1 : (0 : Int) ≤ (k : Int) := by omega
      have hi2 : (k : Int) < (l.length : Int) := by omega
      have hz := HS.out l[k] (List.getElem_mem hlt)
      have HTB := Lib.hid (take_bytes l k hlt)
      generalize bytesOf (l.take k) = s at *
      generalize l[k] = x at *
      obtain ⟨z1, z2⟩ := hz
      clear hr
      go_wp2_with fail
      go_round
      case rel => exact ⟨k + 1, by omega, by go_num, by rw [HTB.out]⟩
      case measure => simp [intOf]; omega
    · have hkm : k = l.length := by omega
      subst hkm
      clear hb
      go_wp2_with fail
      go_ret
      exact ⟨ret_int (by simp), HF.out⟩

/-- A document's line stored over another one. -/
def putRl (w : World) (k : Nat) (room : Int) (A : Option Addr) (n c : Nat) (p b : Int) : World := (((w.setCell ⟨k, 0, none⟩ (.int .i64 room)).setCell ⟨k, 1, none⟩ (.slice A n c)).setCell ⟨k, 2, none⟩ (.int .i64 p)).setCell ⟨k, 3, none⟩ (.int .i64 b)
theorem putRl_blk {w : World} {k : Nat} {room0 : Int} {A0 : Option Addr} {n0 c0 : Nat} {p0 b0 : Int} (h : w.heap[k]? = some (.cells (rlc room0 A0 n0 c0 p0 b0) 30 (0, 0))) (room : Int) (A : Option Addr) (n c : Nat) (p b : Int) :
    (putRl w k room A n c p b).heap[k]? = some (.cells (rlc room A n c p b) 30 (0, 0)) := by
  have := blk_setCell (blk_setCell (blk_setCell (blk_setCell h 0 (.int .i64 room)) 1 (.slice A n c)) 2 (.int .i64 p)) 3 (.int .i64 b)
  exact this
theorem putRl_fr {S : Nat → Prop} {a w : World} (h : Fr S a w) {k : Nat} (hb : k < a.heap.size → S k) (room : Int) (A : Option Addr) (n c : Nat) (p b : Int) : Fr S a (putRl w k room A n c p b) :=
  (((h.setCell (p := ⟨k, 0, none⟩) hb _).setCell (p := ⟨k, 1, none⟩) hb _).setCell (p := ⟨k, 2, none⟩) hb _).setCell (p := ⟨k, 3, none⟩) hb _
/-- The three blocks that Put lays first. -/
def rputW (w : World) (room : Int) (A : Option Addr) (n c : Nat) (p b : Int) (q : Pk) : World := ((w.alloc (.cells (rlc room A n c p b) 30)).alloc (.cells (pkc q).toArray 34)).alloc (.cells (rlc 0 none 0 0 0 0) 30)
structure RputB (w W : World) (room : Int) (A : Option Addr) (n c : Nat) (p b : Int) (q : Pk) : Prop where
  b0 : W.heap[w.heap.size]? = some (.cells (rlc room A n c p b) 30 (0, 0))
  b1 : W.heap[w.heap.size + 1]? = some (.cells (pkc q).toArray 34 (0, 0))
  b2 : W.heap[w.heap.size + 2]? = some (.cells (rlc 0 none 0 0 0 0) 30 (0, 0))
  sz : W.heap.size = w.heap.size + 3
  fr : Fr0 w W
theorem rputW_b (w : World) (room : Int) (A : Option Addr) (n c : Nat) (p b : Int) (q : Pk) : RputB w (rputW w room A n c p b q) room A n c p b q :=
  ⟨blk_alloc (blk_alloc (heap_alloc_new _ _) _) _, blk_alloc (heap_alloc_nn (by simp)) _, heap_alloc_nn (by simp), by simp [rputW], (((Fr.refl _ w).alloc _).alloc _).alloc _⟩
theorem rput_arg (room : Int) (A : Option Addr) (n c : Nat) (p b : Int) (q : Pk) (w : World) (hq : q.right = false) :
    Calls Try.prog 24 #[rlv room A n c p b, pkv q] w fun e w' => e = .returned (.tuple #[rlv room A n c p b, .int .i64 2]) ∧ Fr0 w w' := by
  have HB := Lib.hid (rputW_b w room A n c p b q)
  have hu : rputW w room A n c p b q = ((w.alloc (.cells (rlc room A n c p b) 30)).alloc (.cells (pkc q).toArray 34)).alloc (.cells (rlc 0 none 0 0 0 0) 30) := rfl
  have HRC := Lib.hid (fun w' => rright_calls q w')
  rw [hq] at HRC
  clear hq
  obtain ⟨⟨z0, z1, z2⟩, _⟩ := pk_cells HB.out.b1
  obtain ⟨⟨c0, c1, c2, c3⟩, _⟩ := rl_cells HB.out.b0
  rw [hu] at HB z0 z1 z2 c0 c1 c2 c3
  clear hu
  go_enter Try.func24, Try.ntmps24
  go_wp2_with fail
  refine (HRC.out _).mono ?_
  rintro e w5 ⟨rfl, hf5⟩
  have HF5 := Lib.hid (HB.out.fr.trans hf5)
  have HX := Lib.hid (hf5.blk HB.out.b2 (fun h => h))
  obtain ⟨⟨x0, x1, x2, x3⟩, y0, y1, y2, y3⟩ := rl_cells HX.out
  obtain ⟨⟨c0', c1', c2', c3'⟩, _⟩ := rl_cells (hf5.blk HB.out.b0 (fun h => h))
  clear hf5 HB z0 z1 z2 c0 c1 c2 c3
  go_wp2_with fail
  exact bodyPost_ret (results_row_tmp rfl _ _ (w.heap.size + 2) _ _ _ _ rfl (putRl_blk HX.out room A n c p b) Try.underlying30 rfl (by kernel_rfl)) rfl ⟨rfl, putRl_fr HF5.out (fun h => by omega) room A n c p b⟩
end Go.Proofs.Ytfiiikgjgcnjgaa
