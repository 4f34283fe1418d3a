/- Chapter 24: Bend. -/
import Derived.Test.YtbhdkpcakjookaaPoG
import Derived.Laws.BitsAllLaws
set_option linter.unusedVariables false
set_option linter.unusedSimpArgs false
namespace Go.Proofs.Ytbhdkpcakjookaa
open Go.RowKit
attribute [local go_sem] Oper.semAt_some

theorem own_row' {w : World} {base : Nat} {e : TypeId} {size g n c : Nat} {xs : List Value} (h : w.ownsRow base e size (.slice (some ⟨g, 0, none⟩) n c) n xs) : base ≤ g ∧ ∃ sp, w.heap[g]? = some (.cells (xs ++ sp).toArray e (0, 0)) := by
  rcases h.2 with ⟨h1, _⟩ | ⟨g', cap, cur, hv, hb, hh, _, _, _, ht⟩
  · cases h1
  · obtain rfl : g = g' := by simp at hv; exact hv.1
    exact ⟨hb, cur.toList.drop (n * size), by rw [← ht, List.take_append_drop]; simpa using hh⟩
/-- Bytes, one bit of them turned. -/
def bendB (bs : List UInt8) (q : Int) : List UInt8 := bs.set (rnd q (8 * bs.length) / 8) (bs.getD (rnd q (8 * bs.length) / 8) 0 ^^^ ((128 : UInt8) >>> UInt8.ofNat (rnd q (8 * bs.length) % 8)))
theorem bendB_length (bs : List UInt8) (q : Int) : (bendB bs q).length = bs.length := by simp [bendB]
theorem bendB_nil (q : Int) : bendB [] q = [] := by simp [bendB]
theorem bit_u8 (j : Nat) (hj : j < 8) : (128 / 2 ^ j : Nat) = ((128 : UInt8) >>> UInt8.ofNat j).toNat := by
  have : j = 0 ∨ j = 1 ∨ j = 2 ∨ j = 3 ∨ j = 4 ∨ j = 5 ∨ j = 6 ∨ j = 7 := by omega
  rcases this with rfl | rfl | rfl | rfl | rfl | rfl | rfl | rfl <;> decide
theorem bend_u8 (x : UInt8) (j : Nat) (hj : j < 8) : bits .xor .u8 (x.toNat : Int) (128 / 2 ^ j) = ((x ^^^ ((128 : UInt8) >>> UInt8.ofNat j)).toNat : Int) := by
  have h1 : ((128 : Int) / 2 ^ j) = ((128 / 2 ^ j : Nat) : Int) := by simp
  rw [h1, u8_xor_nat _ _ x.toNat_lt (by rw [bit_u8 j hj]; exact UInt8.toNat_lt _), bit_u8 j hj, UInt8.toNat_xor]
def Msg.bend (m : Msg) (q : Int) : Msg := { m with bytes := bendB m.bytes q }
theorem rms_set : ∀ (L : List Rm) (n : Nat) (r : Rm), n < L.length → ((((rms L).set (n * 4) (.int .i64 r.m.num)).set (n * 4 + 1) (.int .i64 r.m.link)).set (n * 4 + 2) (.int .i64 r.m.since)).set (n * 4 + 3) (.slice r.A r.m.bytes.length r.c) = rms (L.set n r)
  | x :: L, 0, r, _ => rfl
  | x :: L, n + 1, r, h => by
    have := rms_set L n r (by simpa using h)
    rw [rms_cons, List.set_cons_succ, rms_cons, ← this, show (n + 1) * 4 = n * 4 + 1 + 1 + 1 + 1 by omega]
    simp [List.set_cons_succ]
/-- Stores of a message into a row of them. -/
def putMat (w : World) (g j : Nat) (r : Rm) : World := (((w.setCell ⟨g, j, none⟩ (.int .i64 r.m.num)).setCell ⟨g, j + 1, none⟩ (.int .i64 r.m.link)).setCell ⟨g, j + 2, none⟩ (.int .i64 r.m.since)).setCell ⟨g, j + 3, none⟩ (.slice r.A r.m.bytes.length r.c)
theorem putMat_fr (w : World) (g j : Nat) (r : Rm) : Fr (fun k => k = g) w (putMat w g j r) :=
  ((((Fr.refl (fun k => k = g) w).setCell (p := ⟨g, j, none⟩) (fun _ => rfl) _).setCell (p := ⟨g, j + 1, none⟩) (fun _ => rfl) _).setCell (p := ⟨g, j + 2, none⟩) (fun _ => rfl) _).setCell (p := ⟨g, j + 3, none⟩) (fun _ => rfl) _
theorem putMat_own {w : World} {base g c : Nat} {L : List Rm} (h : w.ownsRow base 31 4 (.slice (some ⟨g, 0, none⟩) L.length c) L.length (rms L)) (n : Nat) (hn : n < L.length) (r : Rm) : (putMat w g (n * 4) r).ownsRow base 31 4 (.slice (some ⟨g, 0, none⟩) L.length c) L.length (rms (L.set n r)) := by
  rw [← rms_set L n r hn]
  exact own_set (own_set (own_set (own_set h _ _) _ _) _ _) _ _
/-- A row of bytes of the call's own, one of them stored over. -/
theorem own_setB {w : World} {base g n c : Nat} {bs : List UInt8} (h : w.ownsRow base 5 1 (.slice (some ⟨g, 0, none⟩) n c) n (u8s bs)) (j : Nat) (x : UInt8) : (w.setCell ⟨g, j, none⟩ (.int .u8 (x.toNat : Int))).ownsRow base 5 1 (.slice (some ⟨g, 0, none⟩) n c) n (u8s (bs.set j x)) := by
  have := own_set h j (.int .u8 (x.toNat : Int))
  rwa [show (u8s bs).set j (.int .u8 (x.toNat : Int)) = u8s (bs.set j x) by simp [u8s, List.map_set]] at this
theorem bend_no (v : Value) (p q : Int) (w : World) (h : NoPo w v) : Calls Try.prog 12 #[v, .int .i64 p, .int .i64 q] w (TakeNo 1 w) := by
  have hf := (Fr.refl (fun _ => False) w).alloc (.cells rmz 31)
  have HP := Lib.hid (picks_no v p _ (h.kept hf))
  have HF := Lib.hid hf
  have HB := Lib.hid (heap_alloc_new w (.cells rmz 31))
  clear h hf
  go_enter Try.func12, Try.ntmps12
  go_wp2_with (go_at_call 30; refine HP.out.mono ?_; rintro e w5 ⟨rfl, hf5⟩; obtain ⟨⟨z0, z1, z2, z3⟩, f0, f1, f2, f3⟩ := m_cells (hf5.blk HB.out (fun h => h)))
  exact bodyPost_ret (results_row_tmp rfl _ _ w.heap.size _ _ _ _ rfl (putZ_blk (hf5.blk HB.out (fun h => h))) Try.underlying31 rfl (by kernel_rfl)) rfl ⟨rfl, putZ_fr (HF.out.trans hf5) (k := w.heap.size) (fun h => absurd h (Nat.lt_irrefl _))⟩
theorem bend_empty (b : Nat) (most last : Int) (p q : Int) (w : World) (h : IsPool w b most last []) : Calls Try.prog 12 #[.pointer (some ⟨b, 0, none⟩), .int .i64 p, .int .i64 q] w (TakeNo 5 w) := by
  have hf := (Fr.refl (fun _ => False) w).alloc (.cells rmz 31)
  have HP := Lib.hid (picks_empty b most last p _ (h.kept hf))
  have HF := Lib.hid hf
  have HB := Lib.hid (heap_alloc_new w (.cells rmz 31))
  clear h hf
  go_enter Try.func12, Try.ntmps12
  go_wp2_with (go_at_call 30; refine HP.out.mono ?_; rintro e w5 ⟨rfl, hf5⟩; obtain ⟨⟨z0, z1, z2, z3⟩, f0, f1, f2, f3⟩ := m_cells (hf5.blk HB.out (fun h => h)))
  exact bodyPost_ret (results_row_tmp rfl _ _ w.heap.size _ _ _ _ rfl (putZ_blk (hf5.blk HB.out (fun h => h))) Try.underlying31 rfl (by kernel_rfl)) rfl ⟨rfl, putZ_fr (HF.out.trans hf5) (k := w.heap.size) (fun h => absurd h (Nat.lt_irrefl _))⟩
set_option maxHeartbeats 2000000 in
theorem bend_ok (b : Nat) (most last : Int) (L : List Rm) (p q : Int) (w : World) (h : IsPool w b most last L) (hl : 0 < L.length) (hp : -9223372036854775808 ≤ p ∧ p ≤ 9223372036854775807) (hq : -9223372036854775808 ≤ q ∧ q ≤ 9223372036854775807) (hs : ∀ r ∈ L, r.m.bytes.length ≤ 4096) :
    Calls Try.prog 12 #[.pointer (some ⟨b, 0, none⟩), .int .i64 p, .int .i64 q] w (TakePost b most last ((msgs L).set (rnd p L.length) ((L[rnd p L.length]'(rnd_lt p _ hl)).m.bend q)) ((L[rnd p L.length]'(rnd_lt p _ hl)).m.bend q) 0 w) := by
  have hf := (Fr.refl (fun _ => False) w).alloc (.cells rmz 31)
  have HP := Lib.hid (picks_calls b most last L p _ (h.kept hf) hl hp)
  have HF := Lib.hid hf
  have HB := Lib.hid (heap_alloc_new w (.cells rmz 31))
  have HM := Lib.hid h.most
  have hr := rnd_lt p _ hl
  have h4096 := hs _ (List.getElem_mem hr)
  obtain ⟨A0, c0, hb, hls⟩ := h.ex
  have hmL := hls.most
  obtain ⟨g, off, rfl⟩ := hls.rd.some_ (by rw [rms_length]; omega)
  have HK := Lib.hid (fun U (hf : Fr0 w U) => And.intro (po_cells (hf.blk hb (fun h => h))) (rd_rm (hls.rd.kept hf) _ hr))
  have HBB := Lib.hid hb
  have HLS := Lib.hid hls
  have HO := Lib.hid (fun U (hf : Fr0 w U) => own_calls (L[rnd p L.length]'hr) U ((hls.at_ _ hr).kept hf))
  have HC := Lib.hid (fun U (hf : Fr0 w U) => lclone_calls (some ⟨g, off, none⟩) c0 L U (hls.kept hf))
  have hi1 : (0 : Int) ≤ (rnd p L.length : Int) := by omega
  have hi2 : (rnd p L.length : Int) < (L.length : Int) := by omega
  have HRL := Lib.hid hr
  clear h hf hb hls hs
  generalize L[rnd p L.length] = r at *
  generalize rnd p L.length = n at *
  clear hr
  by_cases hbz : r.m.bytes.length = 0
  · have hb0 : r.m.bytes = [] := List.length_eq_zero_iff.1 hbz
    have hbn : r.m.bend q = r.m := (Msg.ext_iff' _ _).2 ⟨rfl, rfl, rfl, by show bendB r.m.bytes q = r.m.bytes; rw [hb0]; exact bendB_nil q⟩
    rw [hbn]
    have HB0 := Lib.hid hb0
    have hw0 : IntKind.i64.wrap (8 * (r.m.bytes.length : Int)) = 8 * (r.m.bytes.length : Int) := by rw [IntKind.wrap_i64]; omega
    have hgt : ¬ (0 : Int) < 8 * (r.m.bytes.length : Int) := by omega
    have HBZ := Lib.hid hbz
    clear hb0 hbn hbz
    go_enter Try.func12, Try.ntmps12
    go_wp2_with (first
      | (go_at_call 30; refine HP.out.mono ?_; rintro e w5 ⟨rfl, hf5⟩; have hfa := HF.out.trans hf5; obtain ⟨⟨⟨_, _, k2⟩, _⟩, d0, d1, d2, d3⟩ := HK.out _ hfa)
      | (go_at_call 31; refine (HO.out _ hfa).mono ?_; rintro e w6 ⟨⟨A6, c6, rfl, hown6⟩, hf6⟩; obtain ⟨⟨⟨_, _, kk2⟩, _⟩, _⟩ := HK.out _ ((hfa.trans hf6).alloc (.cells (rmc ⟨r.m, A6, c6⟩).toArray 31))))
    have HFW := Lib.hid ((hfa.trans hf6).alloc (.cells (rmc ⟨r.m, A6, c6⟩).toArray 31))
    have hlw5 := lt_of_block (hf5.blk HB.out (fun h => h))
    have HT6 := Lib.hid (blk_alloc (hf6.blk (hf5.blk HB.out (fun h => h)) (fun h => h)) (.cells (rmc ⟨r.m, A6, c6⟩).toArray 31))
    have HT10 := Lib.hid (heap_alloc_new w6 (.cells (rmc ⟨r.m, A6, c6⟩).toArray 31))
    have HTN := Lib.hid (show w.heap.size < w6.heap.size ∧ w6.heap.size < (w6.alloc (.cells (rmc ⟨r.m, A6, c6⟩).toArray 31)).heap.size from ⟨by have := hf6.size; omega, by simp⟩)
    clear hown6 hf6 hf5 hfa k2 kk2 d0 d1 d2 d3
    generalize w6.alloc (.cells (rmc ⟨r.m, A6, c6⟩).toArray 31) = W8 at *
    generalize w6.heap.size = k10 at *
    obtain ⟨⟨⟨_, _, k2⟩, _⟩, _⟩ := HK.out _ HFW.out
    refine (HC.out _ HFW.out).mono ?_
    rintro e w9 ⟨⟨A9, c9, rfl, hown9, hls9⟩, hf9⟩
    have hfw9 := HFW.out.trans hf9
    obtain ⟨⟨⟨_, _, k4⟩, _, _, k5⟩, _⟩ := HK.out _ hfw9
    go_wp2_with fail
    obtain ⟨g9, rfl⟩ : ∃ g9, A9 = some ⟨g9, 0, none⟩ := by
      rcases hown9.2 with ⟨_, h0⟩ | ⟨g9, _, _, e, _⟩
      · omega
      · cases e; exact ⟨g9, rfl⟩
    obtain ⟨hg9, sp9, hrow9⟩ := own_row' hown9
    have hlb := lt_of_block HBB.out
    have hsW := HFW.out.size
    have hlt9 := HTN.out
    have hb9 := hfw9.blk HBB.out (fun h => h)
    have HB10 := Lib.hid (blk_setCell hb9 2 (.slice (some ⟨g9, 0, none⟩) L.length c9))
    have HT10b := Lib.hid (blk_setCell_other (hf9.blk HT10.out (fun h => h)) (p := ⟨b, 2, none⟩) (by show b ≠ k10; omega) (.slice (some ⟨g9, 0, none⟩) L.length c9))
    have HT6b := Lib.hid (blk_setCell_other (hf9.blk HT6.out (fun h => h)) (p := ⟨b, 2, none⟩) (by show b ≠ w.heap.size; omega) (.slice (some ⟨g9, 0, none⟩) L.length c9))
    have hrow10 := blk_setCell_other hrow9 (p := ⟨b, 2, none⟩) (by show b ≠ g9; omega) (.slice (some ⟨g9, 0, none⟩) L.length c9)
    have HO10 := Lib.hid (own_kept hown9 ((Fr.refl (fun j => j = b) w9).setCell (p := ⟨b, 2, none⟩) (fun _ => rfl) (.slice (some ⟨g9, 0, none⟩) L.length c9)) (fun j hj e => by simp [Value.ownBlock] at hj; omega))
    have HF10 := Lib.hid ((Fr0.any (S := fun j => j = b) hfw9).setCell (p := ⟨b, 2, none⟩) (fun _ => rfl) (.slice (some ⟨g9, 0, none⟩) L.length c9))
    have HF8 := Lib.hid ((Fr0.any (S := fun j => j = b) hf9).setCell (p := ⟨b, 2, none⟩) (fun _ => rfl) (.slice (some ⟨g9, 0, none⟩) L.length c9))
    have HC9 := Lib.hid hls9.len
    have HG9 := Lib.hid hg9
    clear hrow9 hown9 hls9 hfw9 hf9 hb9 k2 k4 k5
    generalize w9.setCell ⟨b, 2, none⟩ (.slice (some ⟨g9, 0, none⟩) L.length c9) = W10 at *
    have hrowD := (Fr.refl (fun _ => False) W10).drew.blk hrow10 (fun h => h)
    obtain ⟨⟨_, _, k2⟩, _⟩ := po_cells ((Fr.refl (fun _ => False) W10).drew.blk HB10.out (fun h => h))
    obtain ⟨⟨x0, x1, x2, x3⟩, _⟩ := m_cells ((Fr.refl (fun _ => False) W10).drew.blk HT10b.out (fun h => h))
    have hnl := HRL.out
    obtain ⟨e0, e1, e2, e3⟩ := rms_at L n hnl
    have hcell : ∀ j v, (rms L)[j]? = some v → W10.drew.cell? ⟨g9, j, none⟩ = some v ∧ W10.drew.frozen? ⟨g9, j, none⟩ = false := fun j v hj => ⟨by
      obtain ⟨hj1, rfl⟩ := List.getElem?_eq_some_iff.1 hj
      rw [cell_of_blk hrowD]
      simp only [List.getElem?_toArray]
      rw [List.getElem?_append_left hj1]
      exact hj, free_of_blk hrowD _⟩
    obtain ⟨y0, z0⟩ := hcell _ _ e0
    obtain ⟨y1, z1⟩ := hcell _ _ e1
    obtain ⟨y2, z2⟩ := hcell _ _ e2
    obtain ⟨y3, z3⟩ := hcell _ _ e3
    have y0' : W10.cell? ⟨g9, n * 4, none⟩ = _ := y0
    have y1' : W10.cell? ⟨g9, n * 4 + 1, none⟩ = _ := y1
    have y2' : W10.cell? ⟨g9, n * 4 + 2, none⟩ = _ := y2
    have y3' : W10.cell? ⟨g9, n * 4 + 3, none⟩ = _ := y3
    have z0' : W10.frozen? ⟨g9, n * 4, none⟩ = false := z0
    have z1' : W10.frozen? ⟨g9, n * 4 + 1, none⟩ = false := z1
    have z2' : W10.frozen? ⟨g9, n * 4 + 2, none⟩ = false := z2
    have z3' : W10.frozen? ⟨g9, n * 4 + 3, none⟩ = false := z3
    clear hcell e0 e1 e2 e3 hrowD hrow10
    go_region
    have hx3 := HT10b.out
    have hml : r.m.bytes.length ≤ 1000000 := by omega
    have HO11 := Lib.hid (own_kept0 (putMat_own HO10.out n hnl ⟨r.m, A6, c6⟩) (Fr.refl (fun _ => False) _).drew)
    have hfm := (putMat_fr W10 g9 (n * 4) ⟨r.m, A6, c6⟩).drew
    have HFM := Lib.hid hfm
    have HT10c := Lib.hid (hfm.blk hx3 (fun e => by have := HG9.out; have := HTN.out; omega))
    have HT6c := Lib.hid (hfm.blk HT6b.out (fun e => by have := HG9.out; have := HTN.out; omega))
    have HB11 := Lib.hid (hfm.blk HB10.out (fun e => by have := HG9.out; omega))
    have HBA11 := Lib.hid (show BArg (putMat W10 g9 (n * 4) ⟨r.m, A6, c6⟩).drew A6 r.m.bytes from .of_rd (.inl (by rw [HB0.out]; rfl)) hml)
    have HF11 := Lib.hid (HF10.out.then hfm (fun i hi e => by have := HG9.out; omega))
    have HE : putMat W10 g9 (n * 4) ⟨r.m, A6, c6⟩ = ((((W10.setCell ⟨g9, n * 4, none⟩ (.int .i64 r.m.num)).setCell ⟨g9, n * 4 + 1, none⟩ (.int .i64 r.m.link)).setCell ⟨g9, n * 4 + 2, none⟩ (.int .i64 r.m.since)).setCell ⟨g9, n * 4 + 3, none⟩ (.slice A6 r.m.bytes.length c6)) := rfl
    rw [← HE]
    clear HE hx3 hfm y0 y1 y2 y3 z0 z1 z2 z3 y0' y1' y2' y3' z0' z1' z2' z3' x0 x1 x2 x3 k2
    generalize (putMat W10 g9 (n * 4) ⟨r.m, A6, c6⟩).drew = W11 at *
    obtain ⟨⟨x0, x1, x2, x3⟩, _⟩ := m_cells HT10c.out
    have HOW := Lib.hid (own_calls ⟨r.m, A6, c6⟩ W11 HBA11.out)
    go_wp2_with (go_at_call 31; refine HOW.out.mono ?_; rintro e w12 ⟨⟨A12, c12, rfl, hown12⟩, hf12⟩; have hbz12 := hf12.blk HT6c.out (fun h => h); obtain ⟨⟨z0, z1, z2, z3⟩, f0, f1, f2, f3⟩ := m_cells hbz12)
    have hsF := HF11.out.size
    have hsN := HTN.out
    have hfE := putM_fr (S := fun j => j = b) (HF11.out.trans (Fr0.any hf12)) (k := w.heap.size) (fun h => absurd h (Nat.lt_irrefl _)) ⟨r.m, A12, c12⟩
    have hfz := putM_fr ((Fr0.any (S := fun j => j = w.heap.size) hf12)) (k := w.heap.size) (fun _ => rfl) ⟨r.m, A12, c12⟩
    have hrdE : Rd (fun j => j = w.heap.size) W11 (some ⟨g9, 0, none⟩) (rms (L.set n ⟨r.m, A6, c6⟩)) := own_rd _ HO11.out (fun k h1 _ e => by omega)
    have hpE : IsPool (putM w12 w.heap.size ⟨r.m, A12, c12⟩) b most last (L.set n ⟨r.m, A6, c6⟩) :=
      ⟨⟨some ⟨g9, 0, none⟩, c9, by simpa using hfz.blk HB11.out (fun e => by omega),
        ⟨(hrdE.kept hfz).mono (fun _ _ h => h.elim), fun r' hr' => by
          rcases List.mem_or_eq_of_mem_set hr' with h | h
          · exact BArg.keptB (HLS.out.ok r' h) HBB.out hfE
          · subst h
            exact .of_rd (.inl (by show u8s r.m.bytes = []; rw [HB0.out]; rfl)) hml, by simpa using HC9.out, (fun e => by cases e), by simpa using hmL⟩⟩, HM.out⟩
    refine bodyPost_ret (results_row_tmp rfl _ _ w.heap.size _ _ _ _ rfl (putM_blk hbz12 ⟨r.m, A12, c12⟩) Try.underlying31 rfl (by kernel_rfl)) rfl ⟨⟨A12, c12, rfl, ?_⟩, ⟨_, hpE, by simp [msgs, List.map_set]⟩, hfE⟩
    refine own_mono (own_kept hown12 (putM_fr (Fr.refl (fun k => k = w.heap.size) w12) (k := w.heap.size) (fun _ => rfl) ⟨r.m, A12, c12⟩) (fun k hk e => ?_)) hsF
    have h1 := (own_blk hown12 hk).1
    have h2 := lt_of_block HT6c.out
    omega
  · have h2 := Int.lt_tmod_of_pos q (b := (8 * (r.m.bytes.length : Int))) (by omega)
    have h3 := Int.tmod_lt_of_pos q (b := (8 * (r.m.bytes.length : Int))) (by omega)
    have hz : ((8 * (r.m.bytes.length : Int)) == 0) = false := beq_false_of_ne (by omega)
    have hw0 : IntKind.i64.wrap (8 * (r.m.bytes.length : Int)) = 8 * (r.m.bytes.length : Int) := by rw [IntKind.wrap_i64]; omega
    have hw1 : IntKind.i64.wrap (q.tmod (8 * (r.m.bytes.length : Int))) = q.tmod (8 * (r.m.bytes.length : Int)) := by rw [IntKind.wrap_i64]; omega
    have hw2 : IntKind.i64.wrap (q.tmod (8 * (r.m.bytes.length : Int)) + 8 * (r.m.bytes.length : Int)) = q.tmod (8 * (r.m.bytes.length : Int)) + 8 * (r.m.bytes.length : Int) := by rw [IntKind.wrap_i64]; omega
    have hgt : (0 : Int) < 8 * (r.m.bytes.length : Int) := by omega
    have hrq := rnd_lt q (8 * r.m.bytes.length) (by omega)
    have hkq : (q.tmod (8 * (r.m.bytes.length : Int)) + 8 * (r.m.bytes.length : Int)) % (8 * (r.m.bytes.length : Int)) = ((rnd q (8 * r.m.bytes.length) : Nat) : Int) := by
      rw [rnd_int q (8 * r.m.bytes.length) (by omega), ← Int.tmod_eq_emod_of_nonneg (a := q.tmod (8 * (r.m.bytes.length : Int)) + 8 * (r.m.bytes.length : Int)) (by omega), rnd_tmod q _ hgt]
      simp
    have HBD := Lib.hid (show r.m.bend q = { r.m with bytes := r.m.bytes.set (rnd q (8 * r.m.bytes.length) / 8) (r.m.bytes.getD (rnd q (8 * r.m.bytes.length) / 8) 0 ^^^ ((128 : UInt8) >>> UInt8.ofNat (rnd q (8 * r.m.bytes.length) % 8))) } from rfl)
    generalize rnd q (8 * r.m.bytes.length) = K at *
    have hj : K / 8 < r.m.bytes.length := by omega
    have hj1 : (0 : Int) ≤ (K : Int) / 8 := by omega
    have hj2 : (K : Int) / 8 < (r.m.bytes.length : Int) := by omega
    have hj3 : ((K : Int) / 8).toNat = K / 8 := by omega
    have hj4 : (0 : Int) ≤ (K : Int) % 8 := by omega
    go_enter Try.func12, Try.ntmps12
    go_wp2_with (first
      | (go_at_call 30; refine HP.out.mono ?_; rintro e w5 ⟨rfl, hf5⟩; have hfa := HF.out.trans hf5; obtain ⟨⟨⟨_, _, k2⟩, _⟩, d0, d1, d2, d3⟩ := HK.out _ hfa)
      | (go_at_call 31; refine (HO.out _ hfa).mono ?_; rintro e w6 ⟨⟨A6, c6, rfl, hown6⟩, hf6⟩))
    obtain ⟨g6, rfl⟩ : ∃ g6, A6 = some ⟨g6, 0, none⟩ := by
      rcases hown6.2 with ⟨_, h0⟩ | ⟨g6, _, _, e, _⟩
      · omega
      · cases e; exact ⟨g6, rfl⟩
    obtain ⟨hg6, sp6, hrow6⟩ := own_row' hown6
    have hlt6 := lt_of_block hrow6
    have HX7 := Lib.hid (heap_alloc_new w6 (.cells (rmc ⟨r.m, some ⟨g6, 0, none⟩, c6⟩).toArray 31))
    have HR7 := Lib.hid (blk_alloc hrow6 (.cells (rmc ⟨r.m, some ⟨g6, 0, none⟩, c6⟩).toArray 31))
    have HF7 := Lib.hid ((Fr.refl (fun _ => False) w6).alloc (.cells (rmc ⟨r.m, some ⟨g6, 0, none⟩, c6⟩).toArray 31))
    have HN6 := Lib.hid (show g6 ≠ w6.heap.size ∧ w6.heap.size < (w6.alloc (.cells (rmc ⟨r.m, some ⟨g6, 0, none⟩, c6⟩).toArray 31)).heap.size from ⟨by omega, by simp⟩)
    have HO6 := Lib.hid hown6
    have HF6 := Lib.hid hf6
    have HFA := Lib.hid hfa
    have HF5 := Lib.hid hf5
    have hgm := HN6.out.1
    clear hown6 hrow6 hf6 hf5 hfa hlt6 k2 d0 d1 d2 d3 h2 h3 hz hw0 hw1 hw2 hgt
    generalize hW7 : w6.alloc (.cells (rmc ⟨r.m, some ⟨g6, 0, none⟩, c6⟩).toArray 31) = W7 at *
    have HW7 := Lib.hid hW7
    clear hW7
    have cK : W7.drew.cell? ⟨g6, K / 8, none⟩ = some (.int .u8 ((r.m.bytes[K / 8]'hj).toNat : Int)) := by
      rw [cell_of_blk ((Fr.refl (fun _ => False) W7).drew.blk HR7.out (fun h => h))]
      simp only [List.getElem?_toArray]
      rw [List.getElem?_append_left (by rw [u8s_length]; exact hj)]
      simp [u8s, hj]
    have fK : W7.drew.frozen? ⟨g6, K / 8, none⟩ = false := free_of_blk ((Fr.refl (fun _ => False) W7).drew.blk HR7.out (fun h => h)) _
    obtain ⟨⟨x0, x1, x2, x3⟩, _⟩ := m_cells ((Fr.refl (fun _ => False) W7).drew.blk HX7.out (fun h => h))
    have hbv := bend_u8 (r.m.bytes[K / 8]'hj) (K % 8) (by omega)
    have HBV := Lib.hid hbv
    clear hbv
    go_region
    rw [HBV.out]
    have hgd : r.m.bytes.getD (K / 8) 0 = r.m.bytes[K / 8]'hj := by simp [hj]
    rw [hgd] at HBD
    generalize (r.m.bytes[K / 8]'hj ^^^ ((128 : UInt8) >>> UInt8.ofNat (K % 8))) = x at *
    have HFW := Lib.hid ((((HFA.out.trans HF6.out).trans HF7.out).setCell (p := ⟨g6, K / 8, none⟩) (fun h => by have h1 := HFA.out.size; have : g6 < w.heap.size := h; omega) (.int .u8 (x.toNat : Int))).drew)
    have hlw5 := lt_of_block (HF5.out.blk HB.out (fun h => h))
    have HT6 := Lib.hid ((Fr.refl (fun _ => False) _).drew.blk (blk_setCell_other (HF7.out.blk (HF6.out.blk (HF5.out.blk HB.out (fun h => h)) (fun h => h)) (fun h => h)) (p := ⟨g6, K / 8, none⟩) (by show g6 ≠ w.heap.size; omega) (.int .u8 (x.toNat : Int))) (fun h => h))
    have HT10 := Lib.hid ((Fr.refl (fun _ => False) _).drew.blk (blk_setCell_other HX7.out (p := ⟨g6, K / 8, none⟩) hgm (.int .u8 (x.toNat : Int))) (fun h => h))
    have hso := own_kept0 (own_setB (own_kept0 HO6.out HF7.out) (K / 8) x) (Fr.refl (fun _ => False) _).drew
    have HBA := Lib.hid (own_rd (fun j => j = b ∨ j = w.heap.size ∨ (W7.setCell ⟨g6, K / 8, none⟩ (.int .u8 (x.toNat : Int))).drew.heap.size ≤ j) hso (fun j h1 h2 e => by
      have := lt_of_block HBB.out
      have := HFA.out.size
      omega))
    have hblen : (r.m.bytes.set (K / 8) x).length = r.m.bytes.length := by simp
    have HTN := Lib.hid (show w.heap.size < w6.heap.size ∧ w6.heap.size < (W7.setCell ⟨g6, K / 8, none⟩ (.int .u8 (x.toNat : Int))).drew.heap.size from ⟨by have := HF6.out.size; omega, lt_of_block HT10.out⟩)
    clear hso x0 x1 x2 x3 cK fK hgd
    generalize (W7.setCell ⟨g6, K / 8, none⟩ (.int .u8 (x.toNat : Int))).drew = W8 at *
    generalize w6.heap.size = k10 at *
    generalize r.m.bytes.set (K / 8) x = bs' at *
    rw [HBD.out]
    obtain ⟨⟨⟨_, _, k2⟩, _⟩, _⟩ := HK.out _ HFW.out
    go_wp2_with (go_at_call 28; refine (HC.out _ HFW.out).mono ?_; rintro e w9 ⟨⟨A9, c9, rfl, hown9, hls9⟩, hf9⟩; have hfw9 := HFW.out.trans hf9; obtain ⟨⟨⟨_, _, k4⟩, _, _, k5⟩, _⟩ := HK.out _ hfw9)
    obtain ⟨g9, rfl⟩ : ∃ g9, A9 = some ⟨g9, 0, none⟩ := by
      rcases hown9.2 with ⟨_, h0⟩ | ⟨g9, _, _, e, _⟩
      · omega
      · cases e; exact ⟨g9, rfl⟩
    obtain ⟨hg9, sp9, hrow9⟩ := own_row' hown9
    have hlb := lt_of_block HBB.out
    have hsW := HFW.out.size
    have hlt9 := HTN.out
    have hb9 := hfw9.blk HBB.out (fun h => h)
    have HB10 := Lib.hid (blk_setCell hb9 2 (.slice (some ⟨g9, 0, none⟩) L.length c9))
    have HT10b := Lib.hid (blk_setCell_other (hf9.blk HT10.out (fun h => h)) (p := ⟨b, 2, none⟩) (by show b ≠ k10; omega) (.slice (some ⟨g9, 0, none⟩) L.length c9))
    have HT6b := Lib.hid (blk_setCell_other (hf9.blk HT6.out (fun h => h)) (p := ⟨b, 2, none⟩) (by show b ≠ w.heap.size; omega) (.slice (some ⟨g9, 0, none⟩) L.length c9))
    have hrow10 := blk_setCell_other hrow9 (p := ⟨b, 2, none⟩) (by show b ≠ g9; omega) (.slice (some ⟨g9, 0, none⟩) L.length c9)
    have HO10 := Lib.hid (own_kept hown9 ((Fr.refl (fun j => j = b) w9).setCell (p := ⟨b, 2, none⟩) (fun _ => rfl) (.slice (some ⟨g9, 0, none⟩) L.length c9)) (fun j hj e => by simp [Value.ownBlock] at hj; omega))
    have HF10 := Lib.hid ((Fr0.any (S := fun j => j = b) hfw9).setCell (p := ⟨b, 2, none⟩) (fun _ => rfl) (.slice (some ⟨g9, 0, none⟩) L.length c9))
    have HF8 := Lib.hid ((Fr0.any (S := fun j => j = b) hf9).setCell (p := ⟨b, 2, none⟩) (fun _ => rfl) (.slice (some ⟨g9, 0, none⟩) L.length c9))
    have HC9 := Lib.hid hls9.len
    have HG9 := Lib.hid hg9
    clear hrow9 hown9 hls9 hfw9 hf9 hb9 k2 k4 k5
    generalize w9.setCell ⟨b, 2, none⟩ (.slice (some ⟨g9, 0, none⟩) L.length c9) = W10 at *
    have hrowD := (Fr.refl (fun _ => False) W10).drew.blk hrow10 (fun h => h)
    obtain ⟨⟨_, _, k2⟩, _⟩ := po_cells ((Fr.refl (fun _ => False) W10).drew.blk HB10.out (fun h => h))
    obtain ⟨⟨x0, x1, x2, x3⟩, _⟩ := m_cells ((Fr.refl (fun _ => False) W10).drew.blk HT10b.out (fun h => h))
    have hnl := HRL.out
    obtain ⟨e0, e1, e2, e3⟩ := rms_at L n hnl
    have hcell : ∀ j v, (rms L)[j]? = some v → W10.drew.cell? ⟨g9, j, none⟩ = some v ∧ W10.drew.frozen? ⟨g9, j, none⟩ = false := fun j v hj => ⟨by
      obtain ⟨hj1, rfl⟩ := List.getElem?_eq_some_iff.1 hj
      rw [cell_of_blk hrowD]
      simp only [List.getElem?_toArray]
      rw [List.getElem?_append_left hj1]
      exact hj, free_of_blk hrowD _⟩
    obtain ⟨y0, z0⟩ := hcell _ _ e0
    obtain ⟨y1, z1⟩ := hcell _ _ e1
    obtain ⟨y2, z2⟩ := hcell _ _ e2
    obtain ⟨y3, z3⟩ := hcell _ _ e3
    have y0' : W10.cell? ⟨g9, n * 4, none⟩ = _ := y0
    have y1' : W10.cell? ⟨g9, n * 4 + 1, none⟩ = _ := y1
    have y2' : W10.cell? ⟨g9, n * 4 + 2, none⟩ = _ := y2
    have y3' : W10.cell? ⟨g9, n * 4 + 3, none⟩ = _ := y3
    have z0' : W10.frozen? ⟨g9, n * 4, none⟩ = false := z0
    have z1' : W10.frozen? ⟨g9, n * 4 + 1, none⟩ = false := z1
    have z2' : W10.frozen? ⟨g9, n * 4 + 2, none⟩ = false := z2
    have z3' : W10.frozen? ⟨g9, n * 4 + 3, none⟩ = false := z3
    clear hcell e0 e1 e2 e3 hrowD hrow10
    go_region
    have hbl := hblen
    rw [← hblen]
    have HMS := Lib.hid (show r.m.bend q = ⟨r.m.num, r.m.link, r.m.since, bs'⟩ from HBD.out)
    obtain ⟨m', hm'⟩ : ∃ m' : Msg, m' = ⟨r.m.num, r.m.link, r.m.since, bs'⟩ := ⟨_, rfl⟩
    have HR' := Lib.hid (show r.m.num = m'.num ∧ r.m.link = m'.link ∧ r.m.since = m'.since ∧ bs' = m'.bytes ∧ r.m.bend q = m' from by subst hm'; exact ⟨rfl, rfl, rfl, rfl, HBD.out⟩)
    have hx3 : W10.heap[k10]? = some (.cells (rmc ⟨m', some ⟨g6, 0, none⟩, c6⟩).toArray 31 (0, 0)) := by
      subst hm'
      have := HT10b.out
      show W10.heap[k10]? = some (.cells #[.int .i64 r.m.num, .int .i64 r.m.link, .int .i64 r.m.since, .slice (some ⟨g6, 0, none⟩) bs'.length c6] 31 (0, 0))
      rw [hbl]
      exact this
    have hba : Rd (fun j => j = b ∨ j = w.heap.size ∨ W8.heap.size ≤ j) W8 (some ⟨g6, 0, none⟩) (u8s m'.bytes) := by subst hm'; exact HBA.out
    have hml : m'.bytes.length ≤ 1000000 := by subst hm'; show bs'.length ≤ _; have := h4096; omega
    rw [HR'.out.1, HR'.out.2.1, HR'.out.2.2.1, HR'.out.2.2.2.1, HR'.out.2.2.2.2]
    clear hm' HMS
    have HO11 := Lib.hid (own_kept0 (putMat_own HO10.out n hnl ⟨m', some ⟨g6, 0, none⟩, c6⟩) (Fr.refl (fun _ => False) _).drew)
    have hfm := (putMat_fr W10 g9 (n * 4) ⟨m', some ⟨g6, 0, none⟩, c6⟩).drew
    have HFM := Lib.hid hfm
    have HT10c := Lib.hid (hfm.blk hx3 (fun e => by have := HG9.out; have := HTN.out; omega))
    have HT6c := Lib.hid (hfm.blk HT6b.out (fun e => by have := HG9.out; have := HTN.out; omega))
    have HB11 := Lib.hid (hfm.blk HB10.out (fun e => by have := HG9.out; omega))
    have hf8' : Fr (fun j => j = b ∨ j = w.heap.size ∨ W8.heap.size ≤ j) W8 (putMat W10 g9 (n * 4) ⟨m', some ⟨g6, 0, none⟩, c6⟩).drew := (HF8.out.mono (fun j _ e => .inl e)).then hfm (fun i hi e => .inr (.inr (by have := HG9.out; omega)))
    have HBA11 := Lib.hid (show BArg (putMat W10 g9 (n * 4) ⟨m', some ⟨g6, 0, none⟩, c6⟩).drew (some ⟨g6, 0, none⟩) m'.bytes from .of_rd ((hba.kept hf8').mono (fun _ _ h => h.elim)) hml)
    have HF11 := Lib.hid (HF10.out.then hfm (fun i hi e => by have := HG9.out; omega))
    have HE : putMat W10 g9 (n * 4) ⟨m', some ⟨g6, 0, none⟩, c6⟩ = ((((W10.setCell ⟨g9, n * 4, none⟩ (.int .i64 m'.num)).setCell ⟨g9, n * 4 + 1, none⟩ (.int .i64 m'.link)).setCell ⟨g9, n * 4 + 2, none⟩ (.int .i64 m'.since)).setCell ⟨g9, n * 4 + 3, none⟩ (.slice (some ⟨g6, 0, none⟩) m'.bytes.length c6)) := rfl
    rw [← HE]
    clear HE hf8' hba hx3 hfm y0 y1 y2 y3 z0 z1 z2 z3 y0' y1' y2' y3' z0' z1' z2' z3' x0 x1 x2 x3 k2
    generalize (putMat W10 g9 (n * 4) ⟨m', some ⟨g6, 0, none⟩, c6⟩).drew = W11 at *
    obtain ⟨⟨x0, x1, x2, x3⟩, _⟩ := m_cells HT10c.out
    have HOW := Lib.hid (own_calls ⟨m', some ⟨g6, 0, none⟩, c6⟩ W11 HBA11.out)
    go_wp2_with (go_at_call 31; refine HOW.out.mono ?_; rintro e w12 ⟨⟨A12, c12, rfl, hown12⟩, hf12⟩; have hbz12 := hf12.blk HT6c.out (fun h => h); obtain ⟨⟨z0, z1, z2, z3⟩, f0, f1, f2, f3⟩ := m_cells hbz12)
    rw [HR'.out.2.2.2.2]
    have hsF := HF11.out.size
    have hsN := HTN.out
    have hfE := putM_fr (S := fun j => j = b) (HF11.out.trans (Fr0.any hf12)) (k := w.heap.size) (fun h => absurd h (Nat.lt_irrefl _)) ⟨m', A12, c12⟩
    have hfz := putM_fr ((Fr0.any (S := fun j => j = w.heap.size) hf12)) (k := w.heap.size) (fun _ => rfl) ⟨m', A12, c12⟩
    have hrdE : Rd (fun j => j = w.heap.size) W11 (some ⟨g9, 0, none⟩) (rms (L.set n ⟨m', some ⟨g6, 0, none⟩, c6⟩)) := own_rd _ HO11.out (fun k h1 _ e => by omega)
    have hgr : Rd (fun j => j = w.heap.size) W11 (some ⟨g6, 0, none⟩) (u8s m'.bytes) := by
      rcases HBA11.out.rd with h0 | ⟨g0, o0, e0, _, h0⟩
      · exact .inl h0
      · cases e0
        exact .inr ⟨g6, 0, rfl, by have h1 := HFA.out.size; have h2 : w5.heap.size ≤ g6 := hg6; intro e; omega, h0⟩
    have hpE : IsPool (putM w12 w.heap.size ⟨m', A12, c12⟩) b most last (L.set n ⟨m', some ⟨g6, 0, none⟩, c6⟩) :=
      ⟨⟨some ⟨g9, 0, none⟩, c9, by simpa using hfz.blk HB11.out (fun e => by omega),
        ⟨(hrdE.kept hfz).mono (fun _ _ h => h.elim), fun r' hr' => by
          rcases List.mem_or_eq_of_mem_set hr' with h | h
          · exact BArg.keptB (HLS.out.ok r' h) HBB.out hfE
          · subst h
            exact .of_rd ((hgr.kept hfz).mono (fun _ _ h => h.elim)) hml, by simpa using HC9.out, (fun e => by cases e), by simpa using hmL⟩⟩, HM.out⟩
    refine bodyPost_ret (results_row_tmp rfl _ _ w.heap.size _ _ _ _ rfl (putM_blk hbz12 ⟨m', A12, c12⟩) Try.underlying31 rfl (by kernel_rfl)) rfl ⟨⟨A12, c12, rfl, ?_⟩, ⟨_, hpE, by simp [msgs, List.map_set]⟩, hfE⟩
    refine own_mono (own_kept hown12 (putM_fr (Fr.refl (fun k => k = w.heap.size) w12) (k := w.heap.size) (fun _ => rfl) ⟨m', A12, c12⟩) (fun k hk e => ?_)) hsF
    have h1 := (own_blk hown12 hk).1
    have h2 := lt_of_block HT6c.out
    omega
end Go.Proofs.Ytbhdkpcakjookaa
