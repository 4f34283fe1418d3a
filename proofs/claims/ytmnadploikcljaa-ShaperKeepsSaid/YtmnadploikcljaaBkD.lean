/- Chapter 12: Has. -/
import Derived.Test.YtmnadploikcljaaBkC
set_option linter.unusedVariables false
set_option linter.unusedSimpArgs false
namespace Go.Proofs.Ytmnadploikcljaa
open Go.RowKit
attribute [local go_sem] Oper.semAt_some

/-- What Has has noted so far. -/
def hasArr (B : Bk) (t : Int) (pre : List Bool) : Array Value := #[.int .i64 (if false ∈ pre then (B.k0.adv t).has else 0), .int .i64 (if true ∈ pre then (B.k1.adv t).has else 0)]
theorem hasArr_step (B : Bk) (t : Int) (pre : List Bool) : ∀ x : Bool, hasArr B t (pre ++ [x]) = (hasArr B t pre).setIfInBounds (if x then 1 else 0) (.int .i64 (kOf B t x).has)
  | false => by simp [hasArr, kOf]
  | true => by simp [hasArr, kOf]

set_option maxHeartbeats 2000000 in
theorem has_calls (b : Nat) (B : Bk) (t : Int) (w : World) (hb : IsBk w b B) (hr : B.s.rate ≠ 0) (hm : B.may t) (hn : 0 ≤ B.now) (ok0 : B.k0.Ok (t - B.now)) (ok1 : B.k1.Ok (t - B.now)) :
    Calls Try.prog 30 #[.pointer (some ⟨b, 0, none⟩), .int .i64 t] w fun e w' => e = .returned (.tuple #[.int .i64 (B.k0.adv (t - B.now)).has, .int .i64 (B.k1.adv (t - B.now)).has, .int .i64 0]) ∧ Fr0 w w' := by
  have HA := Lib.hid (asked_calls b B t w hb hr)
  rw [show askA B t = 0 from if_pos hm] at HA
  have c11 := hb.cells.c11
  have hwt : IntKind.i64.wrap (t - B.now) = t - B.now := by have := hm.1; have := hm.2; rw [IntKind.wrap_i64]; omega
  obtain ⟨hm1, hm2⟩ := hm
  have HE := Lib.hid (fun (w : World) => beach_calls b (t - B.now) w)
  have c11a : ∀ o, (w.alloc o).cell? ⟨b, 11, none⟩ = some (.int .i64 B.now) := fun o => ((Fr.refl (fun _ => False) w).alloc o).cell c11 (fun h => h)
  refine (callsIn_wide (n := 5)).1 ?_
  refine callsIn_of_wp_marks Try.func30 rfl trivial ?_ rfl
  simp only [Try.ntmps30, List.size_toArray, List.length_cons, List.length_nil, Nat.reduceAdd, Nat.reduceSub, Array.replicate_succ, Array.replicate_zero, List.push_toArray, List.append_toArray, List.nil_append, List.cons_append]
  gi_wp2_with (first
    | (refine ⟨trivial, ?_⟩; gi_at_call 49; refine (callsIn_wide.2 HA.out).mono ?_; rintro e w' ⟨rfl, rfl⟩)
    | (refine ⟨trivial, ?_⟩; gi_at_call 50; refine (callsIn_wide.2 (HE.out _)).mono ?_; rintro e w' ⟨rfl, rfl⟩))
  have harr := blk_alloc (blk_alloc (heap_alloc_new w (.cells #[.int .i64 0, .int .i64 0] 101)) (.cells #[.pointer (some ⟨b, 0, none⟩)] 63)) (.cells #[.int .i64 (t - B.now)] 2)
  have hfr0 := ((((Fr.refl (fun _ => False) w).alloc (.cells #[.int .i64 0, .int .i64 0] 101)).alloc (.cells #[.pointer (some ⟨b, 0, none⟩)] 63)).alloc (.cells #[.int .i64 (t - B.now)] 2))
  have hc1 : (((w.alloc (.cells #[.int .i64 0, .int .i64 0] 101)).alloc (.cells #[.pointer (some ⟨b, 0, none⟩)] 63)).alloc (.cells #[.int .i64 (t - B.now)] 2)).cell? ⟨w.heap.size + 1, 0, none⟩ = some (.pointer (some ⟨b, 0, none⟩)) := cell_of_blk (blk_alloc (heap_alloc_nn (by simp)) _) 0
  have hc2 : (((w.alloc (.cells #[.int .i64 0, .int .i64 0] 101)).alloc (.cells #[.pointer (some ⟨b, 0, none⟩)] 63)).alloc (.cells #[.int .i64 (t - B.now)] 2)).cell? ⟨w.heap.size + 1 + 1, 0, none⟩ = some (.int .i64 (t - B.now)) := cell_of_blk (heap_alloc_nn (by simp)) 0
  have hsz : (((w.alloc (.cells #[.int .i64 0, .int .i64 0] 101)).alloc (.cells #[.pointer (some ⟨b, 0, none⟩)] 63)).alloc (.cells #[.int .i64 (t - B.now)] 2)).heap.size = w.heap.size + 3 := by simp
  generalize ((w.alloc (.cells #[.int .i64 0, .int .i64 0] 101)).alloc (.cells #[.pointer (some ⟨b, 0, none⟩)] 63)).alloc (.cells #[.int .i64 (t - B.now)] 2) = W0 at *
  have HSZ := Lib.hid hsz
  clear c11 c11a hwt HE HA hsz
  have hseq := beach1_stops Fence.wide (5 - 1) trivial rfl (by omega) (w.heap.size + 1) (w.heap.size + 1 + 1) b (· = w.heap.size) B (t - B.now) W0 hc1 hc2 (fun e : w.heap.size + 1 + 1 = w.heap.size => by omega) (hb.kept0 hfr0) ok0 ok1
  generalize hu : t - B.now = u at *
  refine wpIn_rangeFunc_ownH rfl (by omega) (gf := 61) (lb := #[.pointer (some ⟨w.heap.size + 1, 0, none⟩), .pointer (some ⟨w.heap.size + 1 + 1, 0, none⟩)]) rfl trivial (enters_of Try.func61 (by kernel_rfl) rfl)
    hseq (fun h k => h.trans k) (fun W l o o' _ h ho _ => Ck.putObj W l o o' h ho) (Below.refl _ _) (fun _ => rfl)
    (fun pre W => W.heap[w.heap.size]? = some (.cells (hasArr B u pre) 101 (0, 0)) ∧ Fr0 w W)
    (fun _ _ _ => False) ?own (fun _ _ _ _ _ hs _ _ => hs) ⟨harr, hfr0⟩
    (fun x a' W => ∃ q, w.heap.size < q ∧ W.heap[q]? = some (.cells (k3c (kOf B u x)) 94 (0, 0)) ∧ a' = { tmps := #[.pointer (some ⟨b, 0, none⟩), .int .i64 t, undef, undef, .int .i64 0, .int .i64 0, .int .i64 0, .pointer (some ⟨w.heap.size, 0, none⟩), .int .i64 (if x then 1 else 0), .pointer (some ⟨q, 0, none⟩), .pointer (some ⟨b, 0, none⟩), .int .i64 t, .int .i64 0, .int .i64 0, .bool false, undef, .pointer (some ⟨b, 0, none⟩), .int .i64 t, .pointer (some ⟨b, 0, none⟩), .pointer (some ⟨b, 0, none⟩), .pointer (some ⟨b, 11, none⟩), .int .i64 B.now, .int .i64 u, .func (.func 61) #[] #[.pointer (some ⟨w.heap.size + 1, 0, none⟩), .pointer (some ⟨w.heap.size + 1 + 1, 0, none⟩)], .int .i64 (if x then 1 else 0), k3v (kOf B u x), undef, undef, undef, undef, undef, undef, undef, undef], defers := [] })
    ?ax ?assign ?body ?done ?stop
  case own =>
    rintro pre A1 B1 row ⟨hA, hf⟩ hg hr
    have hn := ne_row hr
    exact ⟨blk_grown hA hg (hn _ _ _ _ hA), hf.grown hg (fun k hk e => by have := (hr k e).1; have := HSZ.out; omega)⟩
  case ax =>
    rintro x a' _ A1 B1 row ⟨q, hq, hA, ha⟩ hg hr
    have hn := ne_row hr
    exact ⟨q, hq, blk_grown hA hg (hn _ _ _ _ hA), ha⟩
  case assign =>
    rintro l pre x W K ⟨hA, hf⟩ hK
    have HK := Lib.hid hK
    clear hK
    cases x
    all_goals
      gi_wp2
      exact HK.out _ _ (keeps_of_fr ((Fr.refl (fun _ => False) W).alloc _) _ (fun _ _ _ _ _ h => h)) (Ck.of_fr ((Fr.refl _ W).alloc _)) ⟨blk_alloc hA _, hf.alloc _⟩ ⟨W.heap.size, lt_of_block hA, heap_alloc_new _ _, rfl⟩
  case body =>
    rintro l pre x a' W hl _ ⟨hA, hf⟩ ⟨q, hq, hQ, rfl⟩ _
    have HST := Lib.hid (hasArr_step B u pre x)
    obtain ⟨x0, x1, hh⟩ : ∃ x0 x1, hasArr B u pre = #[.int .i64 x0, .int .i64 x1] := ⟨_, _, rfl⟩
    rw [hh] at hA HST
    clear hh
    have q0 : W.cell? ⟨q, 0, none⟩ = some (.int .i64 (kOf B u x).has) := cell_of_blk hQ 0
    have a0 : W.cell? ⟨w.heap.size, 0, none⟩ = some (.int .i64 x0) := cell_of_blk hA 0
    have a1 : W.cell? ⟨w.heap.size, 1, none⟩ = some (.int .i64 x1) := cell_of_blk hA 1
    have f0 : W.frozen? ⟨w.heap.size, 0, none⟩ = false := free_of_blk hA 0
    have f1 : W.frozen? ⟨w.heap.size, 1, none⟩ = false := free_of_blk hA 1
    have fin : ∀ (i : Nat) v, i < 2 → hasArr B u (pre ++ [x]) = (#[.int .i64 x0, .int .i64 x1] : Array Value).setIfInBounds i v → KeepsFrom W0.heap.size W (W.setCell ⟨w.heap.size, i, none⟩ v) ∧ Ck (· = w.heap.size) W (W.setCell ⟨w.heap.size, i, none⟩ v) ∧ (W.setCell ⟨w.heap.size, i, none⟩ v).heap[w.heap.size]? = some (.cells (hasArr B u (pre ++ [x])) 101 (0, 0)) ∧ Fr0 w (W.setCell ⟨w.heap.size, i, none⟩ v) := by
      intro i v hi he
      have hfs := (Fr.refl (· = w.heap.size) W).setCell (p := ⟨w.heap.size, i, none⟩) (fun _ => rfl) v
      refine ⟨keeps_of_fr hfs _ (fun k o hk _ _ e => by have := HSZ.out; omega), Ck.of_fr hfs, ?_, hf.setCell (fun h => absurd h (Nat.lt_irrefl _)) v⟩
      rw [he]
      exact blk_setCell hA i v
    have FIN := Lib.hid fin
    clear fin hA hf hQ
    cases x
    · gi_wp2
      exact FIN.out 0 _ (by omega) HST.out
    · gi_wp2
      exact FIN.out 1 _ (by omega) HST.out
  case done =>
    rintro D xs W hD rfl ⟨hA, hf⟩ hK
    have a0 : W.cell? ⟨w.heap.size, 0, none⟩ = some (.int .i64 (B.k0.adv u).has) := cell_of_blk hA 0
    have a1 : W.cell? ⟨w.heap.size, 1, none⟩ = some (.int .i64 (B.k1.adv u).has) := cell_of_blk hA 1
    gi_wp2
    refine wpIn_wide.2 ?_
    go_quiet (fail)
    go_wp2_with fail
    gi_wp2
    have hK2 : (W.drewN nq).heap[D]? = some (.deferred (some [])) := hK
    refine ⟨by simp, .inl ⟨_, _, rfl, run_takeDeferred hK2, ?_⟩⟩
    exact ⟨_, results_tmp3 rfl _ _ _, by rw [hu]; rfl, (hf.drewN nq).grown (grownBy_putObj' (W.drewN nq) D _) (fun k hk e => by cases e; have := HSZ.out; omega)⟩
  case stop => exact fun _ _ _ _ _ _ h _ => h.elim
theorem has_not (b : Nat) (B : Bk) (t : Int) (w : World) (hb : IsBk w b B) (hr : B.s.rate ≠ 0) (hm : ¬ B.may t) :
    Calls Try.prog 30 #[.pointer (some ⟨b, 0, none⟩), .int .i64 t] w fun e w' => e = .returned (.tuple #[.int .i64 0, .int .i64 0, .int .i64 2]) ∧ Fr0 w w' := by
  have HA := Lib.hid (asked_calls b B t w hb hr)
  rw [show askA B t = 2 from if_neg hm] at HA
  refine (callsIn_wide (n := 5)).1 ?_
  refine callsIn_of_wp_marks Try.func30 rfl trivial ?_ rfl
  simp only [Try.ntmps30, List.size_toArray, List.length_cons, List.length_nil, Nat.reduceAdd, Nat.reduceSub, Array.replicate_succ, Array.replicate_zero, List.push_toArray, List.append_toArray, List.nil_append, List.cons_append]
  gi_wp2_with (first
    | (refine ⟨trivial, ?_⟩; gi_at_call 49; refine (callsIn_wide.2 HA.out).mono ?_; rintro e w' ⟨rfl, rfl⟩))
  exact ⟨_, results_tmp3 rfl _ _ _, rfl, Fr.refl _ _⟩
theorem has_no (v : Value) (t : Int) (w : World) (h : NoBk w v) :
    Calls Try.prog 30 #[v, .int .i64 t] w fun e w' => e = .returned (.tuple #[.int .i64 0, .int .i64 0, .int .i64 1]) ∧ Fr0 w w' := by
  have HA := Lib.hid (asked_no v t w h)
  clear h
  refine (callsIn_wide (n := 5)).1 ?_
  refine callsIn_of_wp_marks Try.func30 rfl trivial ?_ rfl
  simp only [Try.ntmps30, List.size_toArray, List.length_cons, List.length_nil, Nat.reduceAdd, Nat.reduceSub, Array.replicate_succ, Array.replicate_zero, List.push_toArray, List.append_toArray, List.nil_append, List.cons_append]
  gi_wp2_with (first
    | (refine ⟨trivial, ?_⟩; gi_at_call 49; refine (callsIn_wide.2 HA.out).mono ?_; rintro e w' ⟨rfl, rfl⟩))
  exact ⟨_, results_tmp3 rfl _ _ _, rfl, Fr.refl _ _⟩
end Go.Proofs.Ytmnadploikcljaa
