/- Chapter 24: the statement PoolNil walked. -/
import Derived.Test.YtbhdkpcakjookaaPoQ
import Derived.Test.YtbhdkpcakjookaaPoO
set_option linter.unusedVariables false
set_option linter.unusedSimpArgs false
namespace Go.Proofs.Ytbhdkpcakjookaa
open Go.RowKit
attribute [local go_sem] Oper.semAt_some

theorem list_nil (v : Value) (w : World) (h : NoPo w v) : Calls Try.prog 15 #[v] w fun e w' => e = .returned (.slice none 0 0) ∧ Fr0 w w' :=
  (list_no v w h).mono fun e w' ⟨⟨u, M, he, _, _, _, hu⟩, hf⟩ => ⟨by rw [he, hu rfl], hf⟩
theorem over_nil (v : Value) (link : Int) (w : World) (h : NoPo w v) : Calls Try.prog 16 #[v, .int .i64 link] w fun e w' => e = .returned (.slice none 0 0) ∧ Fr0 w w' :=
  (over_no v link w h).mono fun e w' ⟨⟨u, M, he, _, _, _, hu⟩, hf⟩ => ⟨by rw [he, hu rfl], hf⟩
set_option maxRecDepth 100000 in
set_option maxHeartbeats 2000000 in
theorem pnil_walk (q : Int) (w : World) : Calls Try.prog 8 #[.int .i64 q] w (Yes w) := by
  have HKN := Lib.hid known24_calls
  have HN1 := Lib.hid (fun w' => show NoPo w' (.pointer none) from .inl rfl)
  have HNZ := Lib.hid (fun w' (h : Fr0 (w.alloc (.cells (poc 0 0 none 0 0) 63)) w') => show NoPo w' (.pointer (some ⟨w.heap.size, 0, none⟩)) from .inr ⟨_, rfl, h.cell (cell_of_blk (heap_alloc_new _ _) 0) (fun h => h)⟩)
  have HF := Lib.hid ((Fr.refl (fun _ => False) w).alloc (.cells (poc 0 0 none 0 0) 63))
  go_enter Try.func8, Try.ntmps8
  go_wp2_with fail
  refine (put_no _ _ _ _ _ _ _ (HN1.out _)).mono ?_
  rintro e w1 ⟨rfl, hf1⟩
  have H1 := Lib.hid hf1
  clear hf1
  go_wp2_with fail
  refine (peek_no _ _ _ (HNZ.out _ H1.out)).mono ?_
  rintro e w2 ⟨rfl, hf2⟩
  have H2 := Lib.hid ((H1.out.trans hf2).alloc (.cells rmz 31))
  clear hf2
  go_wp2_with fail
  refine (ptake_no _ _ _ (HN1.out _)).mono ?_
  rintro e w3 ⟨rfl, hf3⟩
  have H3 := Lib.hid ((H2.out.trans hf3).alloc (.cells rmz 31))
  clear hf3
  go_wp2_with fail
  refine (bend_no _ _ _ _ (HNZ.out _ H3.out)).mono ?_
  rintro e w4 ⟨rfl, hf4⟩
  have H4 := Lib.hid ((H3.out.trans hf4).alloc (.cells rmz 31))
  clear hf4
  go_wp2_with fail
  refine (oldest_no _ _ (HN1.out _)).mono ?_
  rintro e w5 ⟨rfl, hf5⟩
  have H5 := Lib.hid (H4.out.trans hf5)
  clear hf5
  go_upto_region 8 with fail
  go_wp2_with (first
    | (go_at_call 15; refine (list_nil _ _ (by first | exact HN1.out _ | exact HNZ.out _ H5.out)).mono ?_; rintro e w6 ⟨rfl, hf6⟩; replace H5 := Lib.hid (H5.out.trans hf6))
    | (go_at_call 16; refine (over_nil _ _ _ (HN1.out _)).mono ?_; rintro e w8 ⟨rfl, hf8⟩; replace H5 := Lib.hid (H5.out.trans hf8))
    | (go_at_call 17; refine (plen_no _ _ (by first | exact HN1.out _ | exact HNZ.out _ H5.out)).mono ?_; rintro e w9 ⟨rfl, rfl⟩)
    | (go_at_call 23; refine (pcopy_no _ _ (HNZ.out _ H5.out)).mono ?_; rintro e w9 ⟨rfl, rfl⟩)
    | (go_at_call 26; refine (psame_no _ _ _ (HN1.out _) (HNZ.out _ H5.out)).mono ?_; rintro e w9 ⟨rfl, rfl⟩)
    | (go_at_call 9; refine (HKN.out _).mono ?_; rintro e w9 ⟨rfl, hf9⟩))
  go_ret
  exact ⟨rfl, (HF.out.trans H5.out).trans hf9⟩
end Go.Proofs.Ytbhdkpcakjookaa
