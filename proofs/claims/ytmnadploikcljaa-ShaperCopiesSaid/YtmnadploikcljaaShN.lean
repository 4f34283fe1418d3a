/- Chapter 13: the statement ShaperNil walked. -/
import Derived.Test.YtmnadploikcljaaShM
import Derived.Test.YtmnadploikcljaaRegC
set_option linter.unusedVariables false
set_option linter.unusedSimpArgs false
namespace Go.Proofs.Ytmnadploikcljaa
open Go.RowKit
attribute [local go_sem] Oper.semAt_some

theorem results_cell_bool {fn : Func} {p : Tmp} (h : fn.results = #[.cell p 4]) (tmps : Array Value) (w : World) (a : Addr) (v : Bool) (hp : tmps.getD p undef = .pointer (some a)) (hc : w.cell? a = some (.bool v)) : (results fn tmps).run Try.prog w = .ok (.bool v) w := by
  simp only [Array.getD_eq_getD_getElem?] at hp
  simp [results, h, hp, asAddr, Result.andThen, go_sem, hc]
/-- The iterator of a shaper that is not there: it yields nothing. -/
theorem allz_stops (F : Fence) (n : Nat) (hF : F.fn 44) (hro : F.round = none) (hn : 1 ≤ n) (w : World) :
    SeqStopsK F n Try.prog 44 #[] wtEnc (Ck fun _ => False) (fun xs => xs = []) (fun pre => pre <+: []) 0 w := by
  intro lp J Jx W hW hJ hJx hY h0
  refine callsIn_of_wp Try.func44 rfl hF ?_ hro
  simp only [Try.ntmps44, List.size_toArray, List.length_cons, List.length_nil, Nat.reduceAdd, Nat.reduceSub, Array.replicate_succ, Array.replicate_zero, List.push_toArray, List.append_toArray, List.nil_append, List.cons_append]
  gi_wp2
  go_end0
  exact ⟨⟨_, rfl⟩, .inl ⟨_, rfl, h0⟩⟩
abbrev shz : Array Value := #[.pointer none, .int .i64 0, .slice none 0 0]
set_option maxRecDepth 100000 in
set_option maxHeartbeats 4000000 in
theorem shnil_walk (x1 x2 now : Int) (w : World) :
    Calls Try.prog 8 #[.agg #[.int .i64 x1, .int .i64 x2], .int .i64 now] w (Yes w) := by
  have HKN := Lib.hid known13_calls
  have HN1 := Lib.hid (fun w' => show NoSh w' (.pointer none) from .inl rfl)
  have hW : ∀ b', (((w.alloc (.cells #[.int .i64 x1, .int .i64 x2] 33)).alloc (.cells #[b'] 4)).alloc (.cells shz 65)).heap[w.heap.size + 1 + 1]? = some (.cells shz 65 (0, 0)) := fun b' => heap_alloc_nn (by simp)
  have HNZ := Lib.hid (fun w' (h : Fr0 (((w.alloc (.cells #[.int .i64 x1, .int .i64 x2] 33)).alloc (.cells #[.bool false] 4)).alloc (.cells shz 65)) w') => show NoSh w' (.pointer (some ⟨w.heap.size + 1 + 1, 0, none⟩)) from .inr ⟨_, rfl, h.cell (cell_of_blk (hW _) 0) (fun h => h)⟩)
  have HF := Lib.hid ((((Fr.refl (fun _ => False) w).alloc (.cells #[.int .i64 x1, .int .i64 x2] 33)).alloc (.cells #[.bool false] 4)).alloc (.cells shz 65))
  have HY := Lib.hid (show (((w.alloc (.cells #[.int .i64 x1, .int .i64 x2] 33)).alloc (.cells #[.bool false] 4)).alloc (.cells shz 65)).heap[w.heap.size]? = some (.cells #[.int .i64 x1, .int .i64 x2] 33 (0, 0)) from blk_alloc (blk_alloc (heap_alloc_new _ _) _) _)
  have HR := Lib.hid (show (((w.alloc (.cells #[.int .i64 x1, .int .i64 x2] 33)).alloc (.cells #[.bool false] 4)).alloc (.cells shz 65)).heap[w.heap.size + 1]? = some (.cells #[.bool false] 4 (0, 0)) from blk_alloc (heap_alloc_nn (by simp)) _)
  clear hW
  have hfn : ∀ (w : World), (binOp .eql 67 (.func (.func 44) #[] #[]) Value.nilFunc).run Try.prog w = .ok (.bool false) w := fun _ => rfl
  refine (callsIn_wide (n := 5)).1 ?_
  refine callsIn_of_wp_marks Try.func8 rfl trivial ?_ rfl
  simp only [Try.ntmps8, List.size_toArray, List.length_cons, List.length_nil, Nat.reduceAdd, Nat.reduceSub, Array.replicate_succ, Array.replicate_zero, List.push_toArray, List.append_toArray, List.nil_append, List.cons_append]
  gi_wp2_with (first
    | (refine ⟨trivial, ?_⟩; gi_at_call 12; refine (callsIn_wide.2 (sgo_no _ _ _ (HN1.out _))).mono ?_; rintro e w1 ⟨rfl, rfl⟩)
    | (refine ⟨trivial, ?_⟩; gi_at_call 16; refine (callsIn_wide.2 (snext_no _ _ (HNZ.out _ (Fr.refl _ _)))).mono ?_; rintro e w2 ⟨rfl, hf2⟩; have HF2 := Lib.hid hf2; clear hf2)
    | (refine ⟨trivial, ?_⟩; gi_at_call 23; refine (callsIn_wide.2 (sallw_no _ _ (HNZ.out _ HF2.out))).mono ?_; rintro e w4 ⟨rfl, rfl⟩))
  have HSZ := Lib.hid HF2.out.size
  generalize hWW : (((w.alloc (.cells #[.int .i64 x1, .int .i64 x2] 33)).alloc (.cells #[.bool false] 4)).alloc (.cells shz 65)) = W at *
  have HWS := Lib.hid (show W.heap.size = w.heap.size + 3 by rw [← hWW]; simp)
  clear hWW
  have hseq := allz_stops Fence.wide (5 - 1) trivial rfl (by omega) w2
  refine' wpIn_rangeFunc_ownG rfl (by omega) (gf := 44) (lb := #[]) rfl trivial (enters_of Try.func44 (by kernel_rfl) rfl)
    hseq (fun h k => h.trans k) (fun W l o o' _ h ho _ => Ck.putObj W l o o' h ho) (Below.refl _ _) (fun _ => rfl)
    (fun pre U => Fr0 W U) (fun _ _ _ => False) ?own (fun _ _ _ _ _ hs _ _ => hs) HF2.out _ ?assign ?body ?done ?stop
  case own =>
    rintro pre A1 B1 row h hg hr
    exact h.grown hg (fun k hk e => by have := (hr k e).1; have := HSZ.out; omega)
  case assign =>
    intro l x W K hK
    gi_wp2
    exact hK
  case body => exact fun l pre x W _ h => absurd h (Nat.not_lt_zero _)
  case stop => exact fun _ _ _ _ _ _ h _ => h.elim
  case done =>
    rintro D xs U hD rfl hfU hK
    have HU := Lib.hid hfU
    have HK := Lib.hid hK
    have HC := Lib.hid (fun V (h : Fr0 W V) => (show V.cell? ⟨w.heap.size, 0, none⟩ = some (.int .i64 x1) ∧ V.cell? ⟨w.heap.size, 1, none⟩ = some (.int .i64 x2) from ⟨cell_of_blk (h.blk HY.out (fun h => h)) 0, cell_of_blk (h.blk HY.out (fun h => h)) 1⟩))
    obtain ⟨z0, z1⟩ := HC.out _ hfU
    clear hfU hK
    gi_wp2_with (first
      | (refine ⟨trivial, ?_⟩; gi_at_call 11; refine (callsIn_wide.2 (sput_no _ _ _ _ (by first | exact HN1.out _ | exact HNZ.out _ HU.out))).mono ?_; rintro e w6 ⟨rfl, hf6⟩; replace HU := Lib.hid (HU.out.trans hf6); replace HK := Lib.hid (hf6.blk HK.out (fun h => h)); clear z0 z1 hf6; obtain ⟨z0, z1⟩ := HC.out _ HU.out)
      | (refine ⟨trivial, ?_⟩; gi_at_call 15; refine (callsIn_wide.2 (sbytes_no _ _ (by first | exact HN1.out _ | exact HNZ.out _ HU.out))).mono ?_; rintro e w7 ⟨rfl, rfl⟩)
      | (refine ⟨trivial, ?_⟩; gi_at_call 21; refine (callsIn_wide.2 (sspec_no _ _ (HNZ.out _ HU.out))).mono ?_; rintro e w6 ⟨rfl, hf6⟩; replace HU := Lib.hid (HU.out.trans hf6); replace HK := Lib.hid (hf6.blk HK.out (fun h => h)); clear z0 z1 hf6)
      | (refine ⟨trivial, ?_⟩; gi_at_call 18; refine (callsIn_wide.2 (scopy_no _ _ (HN1.out _))).mono ?_; rintro e w7 ⟨rfl, rfl⟩)
      | (refine ⟨trivial, ?_⟩; gi_at_call 22; refine (callsIn_wide.2 (ssame_no _ _ _ (HN1.out _) (HNZ.out _ HU.out))).mono ?_; rintro e w7 ⟨rfl, rfl⟩)
      | (refine ⟨trivial, ?_⟩; gi_at_call 9; refine (callsIn_wide.2 (HKN.out _)).mono ?_; rintro e w6 ⟨rfl, hf6⟩; replace HU := Lib.hid (HU.out.trans hf6); replace HK := Lib.hid (hf6.blk HK.out (fun h => h)); have HBL := Lib.hid (HU.out.blk HR.out (fun h => h)); have cv := cell_of_blk HBL.out 0; have fv := free_of_blk HBL.out 0))
    have hb2 := blk_setCell HBL.out 0 (.bool true)
    have hK2 : (w6.setCell ⟨w.heap.size + 1, 0, none⟩ (.bool true)).heap[D]? = some (.deferred (some [])) := blk_setCell_other HK.out (p := ⟨w.heap.size + 1, 0, none⟩) (by have := HWS.out; have := HSZ.out; show w.heap.size + 1 ≠ D; omega) _
    have hDne : w.heap.size + 1 ≠ D := by have := HWS.out; have := HSZ.out; omega
    refine ⟨by simp, .inl ⟨_, _, rfl, run_takeDeferred hK2, ?_⟩⟩
    have hcl : ((w6.setCell ⟨w.heap.size + 1, 0, none⟩ (.bool true)).putObj D (.deferred none)).cell? ⟨w.heap.size + 1, 0, none⟩ = some (.bool true) := (World.cell?_of_block (World.putObj_heap_other hDne)).trans (cell_of_blk hb2 0)
    refine ⟨_, results_cell_bool (p := 4) rfl _ _ _ _ rfl hcl, rfl, ?_⟩
    exact ((HF.out.trans HU.out).setCell (p := ⟨w.heap.size + 1, 0, none⟩) (fun h => absurd h (by show ¬ w.heap.size + 1 < w.heap.size; omega)) _).grown (grownBy_putObj' _ D _) (fun k hk e => by cases e; have := HSZ.out; have := HWS.out; omega)
end Go.Proofs.Ytmnadploikcljaa
