/- Chapter 15: the statement FifoNil walked. -/
import Derived.Test.YtfiiikgjgcnjgaaFfV
set_option linter.unusedVariables false
set_option linter.unusedSimpArgs false
namespace Go.Proofs.Ytfiiikgjgcnjgaa
open Go.RowKit
attribute [local go_sem] Oper.semAt_some

theorem fall_no (v : Value) (w : World) (h : NoLn w v) : Calls Try.prog 19 #[v] w fun e w' => (∃ f, e = .returned f ∧ IsSeq w.heap.size w' f []) ∧ Fr0 w w' := by
  have hmf : ∀ (fn : Fn) (first cap : Array Value) (w : World), (Instr.makeFunc fn first cap).run Try.prog w = .ok (.func fn first cap) w := fun _ _ _ _ => rfl
  have hf := (Fr.refl (fun _ => False) w).alloc (.cells #[.slice none 0 0] 28)
  have HN := Lib.hid (fnone_no v _ (h.kept hf))
  have HF := Lib.hid hf
  clear h hf
  go_enter Try.func19, Try.ntmps19
  go_wp2_with fail
  refine wp_loop_rounds 1 ?_
  rw [rounds_succ]
  go_wp2_with (go_at_call 28; refine HN.out.mono ?_; rintro e w' ⟨rfl, rfl⟩)
  go_ret
  exact ⟨⟨_, rfl, _, none, 0, rfl, Nat.le_refl _, heap_alloc_new _ _, Rd.nil _ _ _⟩, HF.out⟩
theorem fbytes_no (v : Value) (w : World) (h : NoLn w v) : Calls Try.prog 13 #[v] w fun e w' => e = .returned (.int .i64 0) ∧ Fr0 w w' := by
  have HA := Lib.hid (fall_no v w h)
  clear h
  go_enter Try.func13, Try.ntmps13
  go_wp2_with (go_at_call 19; refine HA.out.mono ?_; rintro e w5 ⟨⟨f, rfl, hq⟩, hf5⟩)
  refine (fsum_calls _ f [] w5 hq (fun p hp => by simp at hp) (by simp)).mono ?_
  rintro e w6 ⟨rfl, hf6⟩
  go_wp2_with fail
  go_ret
  exact ⟨rfl, hf5.trans hf6⟩
theorem results_cell_bool {fn : Func} {p : Tmp} (h : fn.results = #[.cell p 4]) (tmps : Array Value) (w : World) (a : Addr) (v : Bool) (hp : tmps.getD p undef = .pointer (some a)) (hc : w.cell? a = some (.bool v)) : (results fn tmps).run Try.prog w = .ok (.bool v) w := by
  simp only [Array.getD_eq_getD_getElem?] at hp
  simp [results, h, hp, asAddr, Result.andThen, go_sem, hc]
abbrev lnz : Array Value := #[.int .i64 0, .int .i64 0, .int .i64 0, .slice none 0 0, .int .i64 0, .int .i64 0, .bool false]
set_option maxRecDepth 100000 in
set_option maxHeartbeats 4000000 in
theorem fnil_walk (y : Pk) (w : World) :
    Calls Try.prog 7 #[pkv y] w (Yes w) := by
  have HKN := Lib.hid known15_calls
  have HN1 := Lib.hid (fun w' => show NoLn w' (.pointer none) from .inl rfl)
  have hW : ∀ b', (((w.alloc (.cells (pkc y).toArray 34)).alloc (.cells #[b'] 4)).alloc (.cells lnz 58)).heap[w.heap.size + 1 + 1]? = some (.cells lnz 58 (0, 0)) := fun b' => heap_alloc_nn (by simp)
  have HNZ := Lib.hid (fun w' (h : Fr0 (((w.alloc (.cells (pkc y).toArray 34)).alloc (.cells #[.bool false] 4)).alloc (.cells lnz 58)) w') => show NoLn w' (.pointer (some ⟨w.heap.size + 1 + 1, 0, none⟩)) from .inr ⟨_, rfl, h.cell (cell_of_blk (hW _) 6) (fun h => h)⟩)
  have HF := Lib.hid ((((Fr.refl (fun _ => False) w).alloc (.cells (pkc y).toArray 34)).alloc (.cells #[.bool false] 4)).alloc (.cells lnz 58))
  have HY := Lib.hid (show (((w.alloc (.cells (pkc y).toArray 34)).alloc (.cells #[.bool false] 4)).alloc (.cells lnz 58)).heap[w.heap.size]? = some (.cells (pkc y).toArray 34 (0, 0)) from blk_alloc (blk_alloc (heap_alloc_new _ _) _) _)
  have HR := Lib.hid (show (((w.alloc (.cells (pkc y).toArray 34)).alloc (.cells #[.bool false] 4)).alloc (.cells lnz 58)).heap[w.heap.size + 1]? = some (.cells #[.bool false] 4 (0, 0)) from blk_alloc (heap_alloc_nn (by simp)) _)
  clear hW
  have hfn : ∀ (q : Nat) (w : World), (binOp .eql 51 (seqFn q) Value.nilFunc).run Try.prog w = .ok (.bool false) w := fun _ _ => rfl
  refine (callsIn_wide (n := 5)).1 ?_
  refine callsIn_of_wp_marks Try.func7 rfl trivial ?_ rfl
  simp only [Try.ntmps7, List.size_toArray, List.length_cons, List.length_nil, Nat.reduceAdd, Nat.reduceSub, Array.replicate_succ, Array.replicate_zero, List.push_toArray, List.append_toArray, List.nil_append, List.cons_append]
  gi_wp2_with (first
    | (refine ⟨trivial, ?_⟩; gi_at_call 14; refine (callsIn_wide.2 (ftake_no _ _ (HN1.out _))).mono ?_; rintro e w1 ⟨rfl, hf1⟩; have HF1 := Lib.hid (hf1.alloc (.cells (pkc pk0).toArray 34)); clear hf1)
    | (refine ⟨trivial, ?_⟩; gi_at_call 21; refine (callsIn_wide.2 (ffirst_nil _ _ (HNZ.out _ HF1.out))).mono ?_; rintro e w2 ⟨rfl, hf2⟩; have HF2 := Lib.hid ((HF1.out.trans hf2).alloc (.cells (pkc pk0).toArray 34)); clear hf2)
    | (refine ⟨trivial, ?_⟩; gi_at_call 17; refine (callsIn_wide.2 (flost_no _ _ (HN1.out _))).mono ?_; rintro e w3 ⟨rfl, rfl⟩)
    | (refine ⟨trivial, ?_⟩; gi_at_call 19; refine (callsIn_wide.2 (fall_no _ _ (HNZ.out _ HF2.out))).mono ?_; rintro e w4 ⟨⟨f, rfl, hq⟩, hf4⟩; obtain ⟨p, A, c, rfl, hp1, hp2, hp3⟩ := hq; have HF4 := Lib.hid (HF2.out.trans hf4); clear hf4))
  have HSZ := Lib.hid HF4.out.size
  generalize hWW : (((w.alloc (.cells (pkc y).toArray 34)).alloc (.cells #[.bool false] 4)).alloc (.cells lnz 58)) = W at *
  have HWS := Lib.hid (show W.heap.size = w.heap.size + 3 by rw [← hWW]; simp)
  clear hWW
  have hseq := fall1_stops Fence.wide (5 - 1) trivial rfl (by omega) p (fun _ => False) A c [] (by simp [maxLen]) w4 ((cell_of_blk hp2 0).trans (by simp)) (Rd.nil _ _ _)
  clear hp1 hp2 hp3
  refine' wpIn_rangeFunc_ownG rfl (by omega) (gf := 35) (lb := #[.pointer (some ⟨p, 0, none⟩)]) rfl trivial (enters_of Try.func35 (by kernel_rfl) rfl)
    hseq (fun h k => h.trans k) (fun W l o o' _ h ho _ => Ck.putObj W l o o' h ho) (Below.refl _ _) (fun _ => rfl)
    (fun pre U => Fr0 W U) (fun _ _ _ => False) ?own (fun _ _ _ _ _ hs _ _ => hs) HF4.out _ ?assign ?body ?done ?stop
  case own =>
    rintro pre A1 B1 row h hg hr
    exact h.grown hg (fun k hk e => by have := (hr k e).1; have := HSZ.out; omega)
  case assign =>
    intro l x W K hK
    gi_wp2
    exact hK
  case body => exact fun l pre x W _ h => absurd h (Nat.not_lt_zero _)
  case stop => exact fun _ _ _ _ _ _ h _ => h.elim
  case done =>
    rintro D xs U hD rfl hfU hK
    gi_wp2
    refine wpIn_wide.2 ?_
    have hmx : Try.prog.follows .mixedOrders = true := by kernel_rfl
    obtain ⟨⟨z0, z1, z2⟩, _⟩ := pk_cells (hfU.blk HY.out (fun h => h))
    have r0 := cg_cell (W := U) z0
    have r1 := cg_cell (W := U) z1
    have r2 := cg_cell (W := U) z2
    clear z0 z1 z2
    refine wp_region_class (fun V => ∃ x : Wx U, V = x.u) 57 hmx (by kernel_rfl) ⟨⟨U.drew, (Fr.refl _ U).drew⟩, rfl⟩ ?_
    simp only [List.take_succ_cons, List.take_zero, List.drop_succ_cons, List.drop_zero]
    repeat (first
      | go_big_quiet_step (fail)
      | go_big_quiet_step (first
        | (go_at_call 12; exact quiet_cg (fput_no _ _ _ (by first | exact HN1.out _ | exact HNZ.out _ (hfU.trans (Wx.fr _)))))
        | (go_at_call 22; exact quiet_cg (fdrop_no _ _ _ (by first | exact HN1.out _ | exact HNZ.out _ (hfU.trans (Wx.fr _)))))
        | (go_at_call 13; exact quiet_cg (fbytes_no _ _ (by first | exact HN1.out _ | exact HNZ.out _ (hfU.trans (Wx.fr _)))))
        | (go_at_call 18; exact quiet_cg ((fcopy_no _ _ (by first | exact HN1.out _ | exact HNZ.out _ (hfU.trans (Wx.fr _)))).mono fun e w' h => ⟨h.1, h.2 ▸ Fr.refl _ _⟩))
        | (go_at_call 20; exact quiet_cg ((fsame_no _ _ _ (HN1.out _) (HNZ.out _ (hfU.trans (Wx.fr _)))).mono fun e w' h => ⟨h.1, h.2 ▸ Fr.refl _ _⟩))
        | (go_at_call 8; exact quiet_cg (HKN.out _))))
    refine wpQuiet_nil ?_
    rintro V ⟨x, hx⟩
    have hfx : Fr0 W V := hx ▸ (hfU.trans x.fr)
    have hKx : V.heap[D]? = some (.deferred (some [])) := hx ▸ (x.fr.blk hK (fun h => h))
    clear hx x r0 r1 r2
    have hbl := hfx.blk HR.out (fun h => h)
    have cv : V.cell? ⟨w.heap.size + 1, 0, none⟩ = some (.bool false) := cell_of_blk hbl 0
    have fv : V.frozen? ⟨w.heap.size + 1, 0, none⟩ = false := free_of_blk hbl 0
    go_wp2_with fail
    gi_wp2
    have hb2 := blk_setCell hbl 0 (.bool true)
    have hK2 : (V.setCell ⟨w.heap.size + 1, 0, none⟩ (.bool true)).heap[D]? = some (.deferred (some [])) := blk_setCell_other hKx (p := ⟨w.heap.size + 1, 0, none⟩) (by have := HWS.out; have := HSZ.out; show w.heap.size + 1 ≠ D; omega) _
    have hDne : w.heap.size + 1 ≠ D := by have := HWS.out; have := HSZ.out; omega
    refine ⟨by simp, .inl ⟨_, _, rfl, run_takeDeferred hK2, ?_⟩⟩
    have hcl : ((V.setCell ⟨w.heap.size + 1, 0, none⟩ (.bool true)).putObj D (.deferred none)).cell? ⟨w.heap.size + 1, 0, none⟩ = some (.bool true) := (World.cell?_of_block (World.putObj_heap_other hDne)).trans (cell_of_blk hb2 0)
    refine ⟨_, results_cell_bool (p := 2) rfl _ _ _ _ rfl hcl, rfl, ?_⟩
    exact ((HF.out.trans hfx).setCell (p := ⟨w.heap.size + 1, 0, none⟩) (fun h => absurd h (by show ¬ w.heap.size + 1 < w.heap.size; omega)) _).grown (grownBy_putObj' _ D _) (fun k hk e => by cases e; have := HSZ.out; have := HWS.out; omega)
end Go.Proofs.Ytfiiikgjgcnjgaa
