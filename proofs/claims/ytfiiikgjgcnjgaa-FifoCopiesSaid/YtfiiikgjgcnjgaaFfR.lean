/- Chapter 15: the law's same. -/
import Derived.Test.YtfiiikgjgcnjgaaFfQ
set_option linter.unusedVariables false
set_option linter.unusedSimpArgs false
namespace Go.Proofs.Ytfiiikgjgcnjgaa
open Go.RowKit

theorem all_zero (X : Ln) (h : 0 < X.many) : ∃ h' : 0 < X.all.length, X.all[0] = X.pk 0 := ⟨by rw [X.all_length]; exact h, by simp [Ln.all]⟩
/-- What lies still in a world that grew out of another one: the document's line in its box, the packet in its box, the first cells of the row. -/
structure SameK (U : World) (k q : Nat) (room : Int) (A : Option Addr) (n c : Nat) (p bb : Int) (x : Pk) : Prop where
  c0 : U.cell? ⟨k, 0, none⟩ = some (.int .i64 room)
  c1 : U.cell? ⟨k, 1, none⟩ = some (.slice A n c)
  c2 : U.cell? ⟨k, 2, none⟩ = some (.int .i64 p)
  c3 : U.cell? ⟨k, 3, none⟩ = some (.int .i64 bb)
  x0 : U.cell? ⟨q, 0, none⟩ = some (.int .i64 x.id)
  x1 : U.cell? ⟨q, 1, none⟩ = some (.int .i64 x.flow)
  x2 : U.cell? ⟨q, 2, none⟩ = some (.int .i64 x.size)
set_option maxRecDepth 100000 in
set_option maxHeartbeats 2000000 in
theorem lsame_calls (b g : Nat) (X : Ln) (A : Option Addr) (c : Nat) (w : World) (h : IsLn w b g X) (hR : Rd (fun _ => False) w A (pks X.all)) (hs : Small X.all) :
    Calls Try.prog 11 #[.pointer (some ⟨b, 0, none⟩), rlv X.room A X.all.length c X.lp X.lb] w fun e w' => e = .returned (.bool true) ∧ Fr0 w w' := by
  have hf := (Fr.refl (fun _ => False) w).alloc (.cells (rlc X.room A X.all.length c X.lp X.lb) 30)
  have HBX := Lib.hid (heap_alloc_new w (.cells (rlc X.room A X.all.length c X.lp X.lb) 30))
  have HF := Lib.hid hf
  have HLO := Lib.hid (fun w' (hf : Fr0 w w') => flost_calls b g X w' (h.kept0 hf))
  have HLI := Lib.hid (fun w' (hf : Fr0 w w') => flist_calls b g X w' (h.kept0 hf))
  have HBY := Lib.hid (fun w' (hf : Fr0 w w') => fbytes_calls b g X w' (h.kept0 hf) hs)
  have hlen : X.all.length ≤ 1000000 := by rw [X.all_length]; have := h.ok.many; have := h.max; omega
  have HLN := Lib.hid hlen
  have HHE := Lib.hid (fun w' (hf : Fr0 w w') => rhere_calls X.room A c X.all X.lp X.lb w' (hR.kept hf) hs hlen)
  have HSP := Lib.hid (fun (A1 : Option Addr) (c1 : Nat) w' (hf : Fr0 w w') (hr : Rd (fun _ => False) w' A1 (pks X.all)) => fsamepk_calls A1 A c1 c X.all X.all w' hr (hR.kept hf) hlen hlen)
  have hdd : decide (X.all = X.all) = true := decide_eq_true rfl
  rw [hdd] at HSP
  clear hdd
  by_cases hm : 0 < X.many
  · have HFI := Lib.hid (fun w' (hf : Fr0 w w') => ffirst_calls b g X w' (h.kept0 hf) hm)
    obtain ⟨h0, he0⟩ := all_zero X hm
    obtain ⟨ga, off, rfl⟩ := hR.some_ (by rw [pks_length]; omega)
    obtain ⟨d0, d1, d2⟩ := rd_pk hR 0 h0
    rw [he0] at d0 d1 d2
    simp only [Nat.zero_mul, Nat.add_zero] at d0 d1 d2
    have HD := Lib.hid (fun U (h : Fr0 w U) => (show U.cell? ⟨ga, off, none⟩ = some (.int .i64 (X.pk 0).id) ∧ U.cell? ⟨ga, off + 1, none⟩ = some (.int .i64 (X.pk 0).flow) ∧ U.cell? ⟨ga, off + 2, none⟩ = some (.int .i64 (X.pk 0).size) from ⟨h.cell d0 (fun h => h), h.cell d1 (fun h => h), h.cell d2 (fun h => h)⟩))
    clear d0 d1 d2 he0 h hR hs hf hlen hm
    have hi1 : (0 : Int) < (X.all.length : Int) := by omega
    have hi2 : decide ((0 : Int) < (X.all.length : Int)) = true := decide_eq_true hi1
    have hi3 : decide (0 < X.all.length) = true := decide_eq_true h0
    generalize X.pk 0 = x0 at *
    generalize bytesOf X.all = by_ at *
    go_enter Try.func11, Try.ntmps11
    go_wp2_with (first
      | (go_at_call 17; (with_reducible refine (HLO.out _ HF.out).mono ?_); rintro e w3 ⟨rfl, hf3⟩; have HF3 := Lib.hid (HF.out.trans hf3); have HB3 := Lib.hid (hf3.blk HBX.out (fun h => h)); clear hf3)
      | (go_at_call 21; (with_reducible refine (HFI.out _ HF3.out).mono ?_); rintro e w4 ⟨rfl, hf4⟩; have HF4 := Lib.hid (HF3.out.trans hf4); have HB4 := Lib.hid (hf4.blk HB3.out (fun h => h)); clear hf4))
    have HWF := Lib.hid (HF4.out.alloc (.cells (pkc x0).toArray 34))
    have HWB := Lib.hid (blk_alloc HB4.out (.cells (pkc x0).toArray 34))
    have HWX := Lib.hid (heap_alloc_new w4 (.cells (pkc x0).toArray 34))
    generalize w4.heap.size = q at *
    generalize w4.alloc (.cells (pkc x0).toArray 34) = W at *
    have HKC := Lib.hid (fun U (h : Fr0 W U) => (show (U.cell? ⟨w.heap.size, 0, none⟩ = some (.int .i64 X.room) ∧ U.cell? ⟨w.heap.size, 1, none⟩ = some (.slice (some ⟨ga, off, none⟩) X.all.length c) ∧ U.cell? ⟨w.heap.size, 2, none⟩ = some (.int .i64 X.lp) ∧ U.cell? ⟨w.heap.size, 3, none⟩ = some (.int .i64 X.lb)) ∧ (U.cell? ⟨q, 0, none⟩ = some (.int .i64 (x0).id) ∧ U.cell? ⟨q, 1, none⟩ = some (.int .i64 (x0).flow) ∧ U.cell? ⟨q, 2, none⟩ = some (.int .i64 (x0).size)) ∧ (U.cell? ⟨ga, off, none⟩ = some (.int .i64 x0.id) ∧ U.cell? ⟨ga, off + 1, none⟩ = some (.int .i64 x0.flow) ∧ U.cell? ⟨ga, off + 2, none⟩ = some (.int .i64 x0.size)) from
      ⟨(rl_cells (h.blk HWB.out (fun h => h))).1, (pk_cells (h.blk HWX.out (fun h => h))).1, HD.out _ (HWF.out.trans h)⟩))
    go_region_held3 (fun U => (U.cell? ⟨w.heap.size, 0, none⟩ = some (.int .i64 X.room) ∧ U.cell? ⟨w.heap.size, 1, none⟩ = some (.slice (some ⟨ga, off, none⟩) X.all.length c) ∧ U.cell? ⟨w.heap.size, 2, none⟩ = some (.int .i64 X.lp) ∧ U.cell? ⟨w.heap.size, 3, none⟩ = some (.int .i64 X.lb)) ∧ (U.cell? ⟨q, 0, none⟩ = some (.int .i64 (x0).id) ∧ U.cell? ⟨q, 1, none⟩ = some (.int .i64 (x0).flow) ∧ U.cell? ⟨q, 2, none⟩ = some (.int .i64 (x0).size)) ∧ (U.cell? ⟨ga, off, none⟩ = some (.int .i64 x0.id) ∧ U.cell? ⟨ga, off + 1, none⟩ = some (.int .i64 x0.flow) ∧ U.cell? ⟨ga, off + 2, none⟩ = some (.int .i64 x0.size)))
      (exact HKC.out _ (by first | exact hfn4 | exact hfn3 | exact hfn2 | exact hfn1 | exact (Fr.refl _ W).drew))
      ((first
        | (go_at_call 15; (with_reducible refine (HLI.out _ (HWF.out.drew)).mono ?_); rintro e wA ⟨⟨u, rfl, hown, _⟩, hfA⟩; obtain ⟨A1, c1, rfl, hlc1, hcm1⟩ := own_form hown; have hfn1 : Fr0 W wA := (Fr.refl _ W).drew.trans hfA)
        | (go_at_call 16; (with_reducible refine (HSP.out A1 c1 wA (HWF.out.trans hfn1) (own_rd _ hown (fun _ _ _ h => h))).mono ?_); rintro e wB ⟨rfl, hfB⟩; have hfn2 : Fr0 W wB := hfn1.trans hfB)
        | (go_at_call 13; (with_reducible refine (HBY.out _ (HWF.out.trans hfn2)).mono ?_); rintro e wC ⟨rfl, hfC⟩; have hfn3 : Fr0 W wC := hfn2.trans hfC)
        | (go_at_call 27; (with_reducible refine (HHE.out _ (HWF.out.trans hfn3)).mono ?_); rintro e wD ⟨rfl, hfD⟩; have hfn4 : Fr0 W wD := hfn3.trans hfD)))
    all_goals
      go_wp2_with fail
      go_ret
      exact ⟨rfl, HWF.out.trans hfn4⟩
  · have hm0 : X.many = 0 := by omega
    have HFI := Lib.hid (fun w' (hf : Fr0 w w') => ffirst_no b g X w' (h.kept0 hf) hm0)
    have hi1 : ((X.all.length : Int)) = 0 := by rw [X.all_length, hm0]; rfl
    have hi2 : decide ((0 : Int) < (X.all.length : Int)) = false := by rw [hi1]; rfl
    have hi3 : decide (0 < X.all.length) = false := by rw [X.all_length, hm0]; rfl
    have hae : X.all = [] := List.length_eq_zero_iff.1 (by rw [X.all_length]; exact hm0)
    have HAE := Lib.hid hae
    have hsp0 := HSP.out none 0
    clear HSP
    have HSP := Lib.hid (fun w' (hf : Fr0 w w') => (show Calls Try.prog 16 #[.slice none 0 0, .slice A X.all.length c] w' _ from (by rw [hae] at hsp0 ⊢; exact hsp0 w' hf (Rd.nil _ _ _))))
    clear h hR hs hf hlen hm hm0 hi1 hae hsp0
    generalize bytesOf X.all = by_ at *
    go_enter Try.func11, Try.ntmps11
    go_wp2_with (first
      | (go_at_call 17; (with_reducible refine (HLO.out _ HF.out).mono ?_); rintro e w3 ⟨rfl, hf3⟩; have HF3 := Lib.hid (HF.out.trans hf3); have HB3 := Lib.hid (hf3.blk HBX.out (fun h => h)); clear hf3)
      | (go_at_call 21; (with_reducible refine (HFI.out _ HF3.out).mono ?_); rintro e w4 ⟨rfl, hf4⟩; have HF4 := Lib.hid (HF3.out.trans hf4); have HB4 := Lib.hid (hf4.blk HB3.out (fun h => h)); clear hf4))
    have HWF := Lib.hid (HF4.out.alloc (.cells (pkc pk0).toArray 34))
    have HWB := Lib.hid (blk_alloc HB4.out (.cells (pkc pk0).toArray 34))
    have HWX := Lib.hid (heap_alloc_new w4 (.cells (pkc pk0).toArray 34))
    generalize w4.heap.size = q at *
    generalize w4.alloc (.cells (pkc pk0).toArray 34) = W at *
    obtain ⟨⟨c0, c1, c2, c3⟩, _⟩ := rl_cells HWB.out
    obtain ⟨⟨x0, x1, x2⟩, _⟩ := pk_cells HWX.out
    have hmx : Try.prog.follows .mixedOrders = true := by kernel_rfl
    have r0 := cg_cell (W := W) c0
    have r1 := cg_cell (W := W) c1
    have r2 := cg_cell (W := W) c2
    have r3 := cg_cell (W := W) c3
    have y0 := cg_cell (W := W) x0
    have y1 := cg_cell (W := W) x1
    have y2 := cg_cell (W := W) x2
    clear c0 c1 c2 c3 x0 x1 x2
    refine wp_region_cg hmx (by kernel_rfl) ?_
    repeat (first
      | go_big_quiet_step (fail)
      | go_big_quiet_step (first
        | (go_at_call 15; exact quiet_cg ((HLI.out _ (HWF.out.trans (Wx.fr _))).mono (by rintro e w' ⟨⟨u, rfl, _, hu⟩, hf⟩; rw [hu HAE.out]; exact ⟨rfl, hf⟩)))
        | (go_at_call 16; exact quiet_cg (HSP.out _ (HWF.out.trans (Wx.fr _))))
        | (go_at_call 13; exact quiet_cg (HBY.out _ (HWF.out.trans (Wx.fr _))))
        | (go_at_call 27; exact quiet_cg (HHE.out _ (HWF.out.trans (Wx.fr _))))))
    refine wpQuiet_nil ?_
    intro w5 hf5
    go_wp2_with fail
    go_ret
    exact ⟨rfl, HWF.out.trans hf5⟩
end Go.Proofs.Ytfiiikgjgcnjgaa
