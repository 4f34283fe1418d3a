/- Chapter 15: Take, Drop. -/
import Derived.Test.YtfiiikgjgcnjgaaFfH
set_option linter.unusedVariables false
set_option linter.unusedSimpArgs false
namespace Go.Proofs.Ytfiiikgjgcnjgaa
open Go.RowKit

/-- A line without its first packet. -/
def Ln.take (X : Ln) : Ln := ⟨X.lp, X.lb, X.room, X.ring, (X.first + 1) % X.ring.length, X.many - 1⟩
theorem take_all (X : Ln) (h : X.Ok) (hm : 0 < X.many) : X.all = X.pk 0 :: X.take.all := by
  refine List.ext_getElem (by simp [Ln.all_length, Ln.take]; omega) fun i h1 h2 => ?_
  rw [Ln.all_length] at h1
  cases i with
  | zero => simp [Ln.all]
  | succ i =>
    simp only [List.getElem_cons_succ, Ln.all, List.getElem_map, List.getElem_range, Ln.pk, Ln.take]
    congr 1
    rw [Nat.mod_add_mod]
    congr 1
    omega
theorem take_ok {X : Ln} (h : X.Ok) : X.take.Ok := ⟨h.len, by have := h.many; simp [Ln.take]; omega, Nat.mod_lt _ (by have := h.len; omega)⟩
theorem IsLn.take {w : World} {b g : Nat} {X : Ln} (h : IsLn w b g X) (hm : 0 < X.many) : IsLn ((w.setCell ⟨b, 4, none⟩ (.int .i64 ((X.first + 1) % X.ring.length : Nat))).setCell ⟨b, 5, none⟩ (.int .i64 ((X.many : Int) - 1))) b g X.take := by
  obtain ⟨⟨c, h1, h2, h3⟩, ⟨t, sp, h4⟩, h5, h6, h9⟩ := h
  refine ⟨⟨c, h1, h2, ?_⟩, ⟨t, sp, blk_setCell_other (blk_setCell_other h4 h5.symm _) h5.symm _⟩, h5, take_ok h6, h9⟩
  rw [blk_setCell (blk_setCell h3 4 _) 5 _]
  have e : ((X.many : Int) - 1) = ((X.many - 1 : Nat) : Int) := by omega
  rw [e]
  rfl

set_option maxHeartbeats 1000000 in
theorem ftake_calls (b g : Nat) (X : Ln) (w : World) (h : IsLn w b g X) (hm : 0 < X.many) : Calls Try.prog 14 #[.pointer (some ⟨b, 0, none⟩)] w fun e w' => e = .returned (.tuple #[pkv (X.pk 0), .bool true]) ∧ IsLn w' b g X.take ∧ Fr (· = b) w w' := by
  have hmx : Try.prog.follows .mixedOrders = true := by kernel_rfl
  have hf := (Fr.refl (fun _ => False) w).alloc (.cells (pkc pk0).toArray 34)
  have HK := Lib.hid (h.kept0 hf)
  have HF := Lib.hid hf
  have HFI := Lib.hid (fun w' (h : IsLn w' b g X) => ffirst_calls b g X w' h hm)
  have HL := Lib.hid (lt_of_block (show w.heap[b]? = _ from h.blk.choose_spec.2.2))
  have HBX := Lib.hid (heap_alloc_new w (.cells (pkc pk0).toArray 34))
  have HLG := Lib.hid (show g < w.heap.size from by obtain ⟨t, sp, hr⟩ := h.row; exact lt_of_block hr)
  have hmax := h.max
  have hmany := h.ok.many
  clear h hf
  go_enter Try.func14, Try.ntmps14
  go_wp2_with (first
    | (go_at_call 21; refine (HFI.out _ HK.out).mono ?_; rintro e w3 ⟨rfl, hf3⟩; have HF3 := Lib.hid hf3; clear hf3))
  have hW : Fr0 (w.alloc (.cells (pkc pk0).toArray 34)) (w3.alloc (.cells (pkc (X.pk 0)).toArray 34)) := HF3.out.alloc _
  have HPX := Lib.hid (heap_alloc_new w3 (.cells (pkc (X.pk 0)).toArray 34))
  generalize hq : w3.heap.size = q at *
  generalize w3.alloc (.cells (pkc (X.pk 0)).toArray 34) = W at *
  have hk := HK.out.kept0 hW
  obtain ⟨c', hc1', hc2', hb6⟩ := hk.blk
  obtain ⟨_, _, _, _, c4, c5, _⟩ := ln_cells hb6
  have HK6 := Lib.hid hk
  have HAT := Lib.hid (fun w' h => show Calls Try.prog 31 #[.pointer (some ⟨b, 0, none⟩), .int .i64 1] w' fun e w'' => e = .returned (.int .i64 ((X.first + 1) % X.ring.length : Nat)) ∧ Fr0 w' w'' from fat_calls b g X 1 w' h (by omega))
  have HTK := Lib.hid (fun w' (h : Fr0 W w') => (hk.kept0 h).take hm)
  have HB6 := Lib.hid hb6
  have HBX6 := Lib.hid (hW.blk HBX.out (fun h => h))
  have HFW := Lib.hid (HF.out.trans hW)
  have hq2 : w.heap.size < q := by rw [← hq]; have := HF3.out.size; simp at this; omega
  have hq3 : b < w.heap.size := HL.out
  have hn1 : b ≠ q := by omega
  have hn2 : b ≠ w.heap.size := by omega
  have hn3 : w.heap.size ≠ q := by omega
  generalize (X.first + 1) % X.ring.length = at1 at *
  clear hk hW hq
  have hwm : IntKind.i64.wrap ((X.many : Int) - 1) = (X.many : Int) - 1 := by rw [IntKind.wrap_i64]; omega
  have HXD := Lib.hid (show IsLn W.drew b g X from HK6.out.kept0 (Fr.refl _ W).drew)
  go_region_law ((go_simp; go_at_call 31; refine (HAT.out _ HXD.out).mono ?_; rintro e w7 ⟨rfl, hf7'⟩; have hf7 : Fr0 W w7 := (Fr.refl _ W).drew.trans hf7'; have hb7 := hf7.blk HB6.out (fun h => h); obtain ⟨_, _, _, _, c4', c5', _⟩ := ln_cells hb7; have f4 : w7.frozen? ⟨b, 4, none⟩ = false := free_of_blk hb7 4; have f5 : w7.frozen? ⟨b, 5, none⟩ = false := free_of_blk hb7 5))
  all_goals
    have HT8 := Lib.hid (HTK.out w7 hf7)
    have HF8 := Lib.hid (fset (b := b) (fset (b := b) (Fr0.any (HFW.out.trans hf7)) 4 (.int .i64 at1)) 5 (.int .i64 ((X.many : Int) - 1)))
    have HX8 := Lib.hid (blk_setCell_other (blk_setCell_other (hf7.blk HBX6.out (fun h => h)) (p := ⟨b, 4, none⟩) hn2 (.int .i64 at1)) (p := ⟨b, 5, none⟩) hn2 (.int .i64 ((X.many : Int) - 1)))
    have HP8 := Lib.hid (blk_setCell_other (blk_setCell_other (hf7.blk HPX.out (fun h => h)) (p := ⟨b, 4, none⟩) hn1 (.int .i64 at1)) (p := ⟨b, 5, none⟩) hn1 (.int .i64 ((X.many : Int) - 1)))
    generalize (w7.setCell ⟨b, 4, none⟩ (.int .i64 at1)).setCell ⟨b, 5, none⟩ (.int .i64 ((X.many : Int) - 1)) = w8 at *
    obtain ⟨⟨x0, x1, x2⟩, y0, y1, y2⟩ := pk_cells HX8.out
    obtain ⟨⟨z0, z1, z2⟩, _⟩ := pk_cells HP8.out
    clear hb7 hf7 hf7' c4' c5' f4 f5
    go_wp2_with fail

    refine bodyPost_ret (results_row_tmp rfl _ _ w.heap.size _ _ _ _ rfl (putP_blk HX8.out (X.pk 0)) Try.underlying34 rfl (by kernel_rfl)) rfl ⟨rfl, HT8.out.kept (S := fun k => k = w.heap.size) (putP_fr (S := fun k => k = w.heap.size) (b := w.heap.size) (Fr.refl _ w8) (fun _ => rfl) (X.pk 0)) hn2 ?_, putP_fr HF8.out (fun h => absurd h (Nat.lt_irrefl _)) _⟩
    intro e
    have h1 := HLG.out
    omega
theorem ftake_none (v : Value) (w : World) (HFI : ∀ w', Fr0 w w' → Calls Try.prog 21 #[v] w' fun e w'' => e = .returned (.tuple #[pkv pk0, .bool false]) ∧ Fr0 w' w'') :
    Calls Try.prog 14 #[v] w fun e w' => e = .returned (.tuple #[pkv pk0, .bool false]) ∧ Fr0 w w' := by
  have hf := (Fr.refl (fun _ => False) w).alloc (.cells (pkc pk0).toArray 34)
  have HF := Lib.hid hf
  have HFI' := Lib.hid HFI
  have HBX := Lib.hid (heap_alloc_new w (.cells (pkc pk0).toArray 34))
  clear hf HFI
  go_enter Try.func14, Try.ntmps14
  go_wp2_with fail
  refine (HFI'.out _ HF.out).mono ?_
  rintro e w3 ⟨rfl, hf3⟩
  have HX8 := Lib.hid (blk_alloc (hf3.blk HBX.out (fun h => h)) (.cells (pkc pk0).toArray 34))
  have HP8 := Lib.hid (heap_alloc_new w3 (.cells (pkc pk0).toArray 34))
  have HF8 := Lib.hid ((HF.out.trans hf3).alloc (.cells (pkc pk0).toArray 34))
  have hsz : w.heap.size ≠ w3.heap.size := by have := hf3.size; simp at this; omega
  clear hf3
  obtain ⟨⟨x0, x1, x2⟩, y0, y1, y2⟩ := pk_cells HX8.out
  obtain ⟨⟨z0, z1, z2⟩, _⟩ := pk_cells HP8.out
  go_wp2_with fail
  have HB := putP_blk HX8.out pk0
  have HE := putP_fr (b := w.heap.size) HF8.out (fun h => absurd h (Nat.lt_irrefl _)) pk0
  unfold putP pk0 at HB HE
  dsimp only at HB HE
  exact bodyPost_ret (results_row_tmp rfl _ _ w.heap.size _ _ _ _ rfl HB Try.underlying34 rfl (by kernel_rfl)) rfl ⟨rfl, HE⟩
theorem ftake_empty (b g : Nat) (X : Ln) (w : World) (h : IsLn w b g X) (hm : X.many = 0) : Calls Try.prog 14 #[.pointer (some ⟨b, 0, none⟩)] w fun e w' => e = .returned (.tuple #[pkv pk0, .bool false]) ∧ Fr0 w w' :=
  ftake_none _ w fun w' hf => ffirst_no b g X w' (h.kept0 hf) hm
theorem ftake_no (v : Value) (w : World) (h : NoLn w v) : Calls Try.prog 14 #[v] w fun e w' => e = .returned (.tuple #[pkv pk0, .bool false]) ∧ Fr0 w w' :=
  ftake_none v w fun w' hf => ffirst_nil v w' (h.kept hf)
end Go.Proofs.Ytfiiikgjgcnjgaa
