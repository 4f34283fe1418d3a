/- Chapter 15: the iterator's word; sum, Bytes, Collect. -/
import Derived.Test.YtfiiikgjgcnjgaaFfD
import Derived.Test.YtfiiikgjgcnjgaaScp
set_option linter.unusedVariables false
set_option linter.unusedSimpArgs false
namespace Go.Proofs.Ytfiiikgjgcnjgaa
open Go.RowKit
attribute [local go_sem] Oper.semAt_some

abbrev pkEnc (x : Pk) : Array Value := #[pkv x]
set_option maxHeartbeats 1000000 in
theorem fall1_in (F : Fence) (n : Nat) (hF : F.fn 35) (hro : F.round = none) (hn : 1 ≤ n) (lp p : Nat) (S : Nat → Prop) (A : Option Addr) (c : Nat) (l : List Pk) (J Jx : List Pk → World → Prop)
    (hJ : ∀ pre W o, J pre W → J pre (W.alloc o))
    (hY : ∀ pre x W, J pre W → pre.length < l.length → YieldAt F (n - 1) Try.prog lp (pkEnc x) W fun e W' =>
      (e = .returned (.bool true) ∧ J (pre ++ [x]) W' ∧ Ck S W W') ∨ (e = .returned (.bool false) ∧ Jx (pre ++ [x]) W'))
    (hl : l.length ≤ maxLen)
    (W : World) (hp : W.cell? ⟨p, 0, none⟩ = some (.slice A l.length c)) (hR : Rd S W A (pks l)) (h0 : J [] W) :
    CallsIn F n Try.prog 35 #[.func (.yield lp) #[] #[], .pointer (some ⟨p, 0, none⟩)] W fun e W' => (∃ v, e = .returned v) ∧
      ((∃ ys, ys = l ∧ J ys W') ∨ (∃ pre, pre <+: l ∧ Jx pre W')) := by
  unfold maxLen at hl
  refine callsIn_of_wp Try.func35 rfl hF ?_ hro
  simp only [Try.ntmps35, List.size_toArray, List.length_cons, List.length_nil, Nat.reduceAdd, Nat.reduceSub, Array.replicate_succ, Array.replicate_zero, List.push_toArray, List.append_toArray, List.nil_append, List.cons_append]
  refine wpIn_scope_straight ?_
  gi_wp2
  refine wpIn_label ?_
  gi_wp2
  gi_loopw [7] (fun i wr => ∃ k : Nat, k ≤ l.length ∧ i = .int .i64 k ∧ J (l.take k) wr ∧ Ck S W wr)
    (fun i wr => l.length - (intOf i).toNat)
  case atStart => exact ⟨0, Nat.zero_le _, rfl, by simpa using h0, Ck.refl _ _⟩
  case round =>
    obtain ⟨k, hk, rfl, hJ0, hck⟩ := hrel
    by_cases hlt : k < l.length
    · have hR' := hR.ck hck
      obtain ⟨b, off, rfl⟩ := hR'.some_ (by rw [pks_length]; omega)
      obtain ⟨e0, e1, e2⟩ := pks_at l k hlt
      have key : ∀ j v, (pks l)[j]? = some v → wr.cell? ⟨b, off + j, none⟩ = some v := fun j v hj => by
        obtain ⟨hj1, rfl⟩ := List.getElem?_eq_some_iff.1 hj
        exact hR'.at_ j hj1
      have d0 := key _ _ e0
      have d1 : wr.cell? ⟨b, off + k * 3 + 1, none⟩ = _ := key _ _ e1
      have d2 : wr.cell? ⟨b, off + k * 3 + 2, none⟩ = _ := key _ _ e2
      have hi1 : (0 : Int) ≤ (k : Int) := by omega
      have hi2 : (k : Int) < (l.length : Int) := by omega
      have hsn : l.take (k + 1) = l.take k ++ [l[k]] := List.take_succ_eq_append_getElem hlt
      have H3 := Lib.hid hsn
      have hJ1 := hJ _ _ (.cells #[.int .i64 l[k].id, .int .i64 l[k].flow, .int .i64 l[k].size] 34) hJ0
      obtain ⟨fn, tmps, assign, body, hy, hRR⟩ := hY (l.take k) l[k] _ hJ1 (by simp; omega)
      have HR := Lib.hid hRR
      have HW := Lib.hid (fun o => Ck.of_fr ((Fr.refl S wr).alloc o))
      clear key e0 e1 e2 hJ0 hJ1 hRR hsn hR'
      generalize l[k] = x at *
      gi_wp2
      refine HR.out.mono ?_
      rintro e W3 (⟨rfl, hJ3, hk3⟩ | ⟨rfl, hJx3⟩)
      · gi_wp2
        go_roundw
        case rel => exact ⟨k + 1, by omega, by go_num, by rw [H3.out]; exact hJ3, hck.trans ((HW.out _).trans hk3)⟩
        case measure => simp [intOf]; omega
      · gi_wp2
        rw [Exit.noGoto_normal]
        go_end0
        exact ⟨⟨_, rfl⟩, .inr ⟨_, by rw [← H3.out]; exact List.take_prefix _ _, hJx3⟩⟩
    · have hk2 : k = l.length := by omega
      subst hk2
      gi_wp2
      rw [Exit.noGoto_normal]
      go_end0
      exact ⟨⟨_, rfl⟩, .inl ⟨_, rfl, by simpa using hJ0⟩⟩
/-- The iterator's word, for whoever ranges over it. -/
theorem fall1_stops (F : Fence) (n : Nat) (hF : F.fn 35) (hro : F.round = none) (hn : 1 ≤ n) (p : Nat) (S : Nat → Prop) (A : Option Addr) (c : Nat) (l : List Pk) (hl : l.length ≤ maxLen)
    (w : World) (hp : w.cell? ⟨p, 0, none⟩ = some (.slice A l.length c)) (hR : Rd S w A (pks l)) :
    SeqStopsK F n Try.prog 35 #[.pointer (some ⟨p, 0, none⟩)] pkEnc (Ck S) (fun xs => xs = l) (fun pre => pre <+: l) l.length w := by
  intro lp J Jx W hW hJ hJx hY h0
  have hf := Fr0.of_below hW
  exact fall1_in F n hF hro hn lp p S A c l J Jx (fun pre W1 o h => hJ pre W1 _ none h (World.grownBy_alloc W1 o none) (fun r e => by cases e)) hY hl W (hf.cell hp (fun h => h)) (hR.kept hf.any) h0

theorem fsize_calls (x : Pk) (w : World) : Calls Try.prog 33 #[pkv x] w fun e w' => e = .returned (.int .i64 x.size) ∧ Fr0 w w' := by
  go_enter Try.func33, Try.ntmps33
  go_wp2_with fail
  go_ret
  exact ⟨rfl, (Fr.refl _ w).alloc _⟩
theorem bytesOf_one (p : Pk) : bytesOf [p] = p.size := by simp [bytesOf]
/-- Packets of no great size. -/
def Small (l : List Pk) : Prop := ∀ p ∈ l, 1 ≤ p.size ∧ p.size ≤ 2000
theorem Small.range {l : List Pk} (h : Small l) : (l.length : Int) ≤ bytesOf l ∧ bytesOf l ≤ 2000 * (l.length : Int) := by
  induction l with
  | nil => simp [bytesOf]
  | cons p l ih =>
    have h1 := h p (by simp)
    have h2 := ih (fun q hq => h q (by simp [hq]))
    have e : bytesOf (p :: l) = p.size + bytesOf l := by simp [bytesOf]
    rw [e]
    simp only [List.length_cons]
    omega
theorem Small.app {a b : List Pk} (h : Small (a ++ b)) : Small a ∧ Small b := ⟨fun p hp => h p (by simp [hp]), fun p hp => h p (by simp [hp])⟩
theorem Small.pre {a b : List Pk} (h : Small b) (k : a <+: b) : Small a := fun p hp => h p (k.subset hp)

theorem wrap64_in' (n : Int) (h : -9223372036854775808 ≤ n ∧ n ≤ 9223372036854775807) : wrap64 n = n := by unfold wrap64; omega
theorem wrap_nil : wrap64 (bytesOf []) = 0 := by simp [bytesOf, wrap64]
theorem wrap_step (pre : List Pk) (x : Pk) : wrap64 (wrap64 (bytesOf pre) + x.size) = wrap64 (bytesOf (pre ++ [x])) := by
  rw [bytesOf_app, bytesOf_one]; unfold wrap64; omega
abbrev sizeFn : Value := .func (.func 33) #[] #[]
set_option maxHeartbeats 2000000 in
theorem fsum_calls (base : Nat) (f : Value) (l : List Pk) (w : World) (h : IsSeq base w f l) (hs : Small l) (hl : l.length ≤ 1000000) :
    Calls Try.prog 32 #[f, sizeFn] w fun e w' => e = .returned (.int .i64 (bytesOf l)) ∧ Fr0 w w' := by
  obtain ⟨p, A, c, rfl, hb, hp, hR⟩ := h
  have HS := Lib.hid hs
  clear hs
  refine (callsIn_wide (n := 5)).1 ?_
  refine callsIn_of_wp_marks Try.func32 rfl trivial ?_ rfl
  simp only [Try.ntmps32, List.size_toArray, List.length_cons, List.length_nil, Nat.reduceAdd, Nat.reduceSub, Array.replicate_succ, Array.replicate_zero, List.push_toArray, List.append_toArray, List.nil_append, List.cons_append]
  gi_wp2
  have hbx : ((w.alloc (.cells #[sizeFn] 71)).alloc (.cells #[.int .i64 0] 2)).heap[w.heap.size]? = some (.cells #[sizeFn] 71 (0, 0)) := blk_alloc (heap_alloc_new w _) _
  have hnx : ((w.alloc (.cells #[sizeFn] 71)).alloc (.cells #[.int .i64 0] 2)).heap[w.heap.size + 1]? = some (.cells #[.int .i64 0] 2 (0, 0)) := heap_alloc_nn (by simp)
  have hf0 := ((Fr.refl (fun _ => False) w).alloc (.cells #[sizeFn] 71)).alloc (.cells #[.int .i64 0] 2)
  have hsz : ((w.alloc (.cells #[sizeFn] 71)).alloc (.cells #[.int .i64 0] 2)).heap.size = w.heap.size + 2 := by simp
  generalize (w.alloc (.cells #[sizeFn] 71)).alloc (.cells #[.int .i64 0] 2) = W0 at *
  have HSZ := Lib.hid hsz
  have hlp := lt_of_block hp
  have hseq := fall1_stops Fence.wide (5 - 1) trivial rfl (by omega) p (fun k => k = w.heap.size + 1) A c l (by simp only [maxLen]; omega) W0 ((hf0.cell (cell_of_blk hp 0) (fun h => h)).trans (by simp)) ((hR.mono (T := fun k => k = w.heap.size + 1) (fun k hk e => by subst e; omega)).kept (Fr0.any hf0))
  clear hsz
  have hmx : Try.prog.follows .mixedOrders = true := by kernel_rfl
  refine wpIn_rangeFunc_ownH rfl (by omega) (gf := 35) (lb := #[.pointer (some ⟨p, 0, none⟩)]) rfl trivial (enters_of Try.func35 (by kernel_rfl) rfl)
    hseq (fun h k => h.trans k) (fun W l o o' _ h ho _ => Ck.putObj W l o o' h ho) (Below.refl _ _) (fun _ => rfl)
    (fun pre W => W.heap[w.heap.size]? = some (.cells #[sizeFn] 71 (0, 0)) ∧ W.heap[w.heap.size + 1]? = some (.cells #[.int .i64 (wrap64 (bytesOf pre))] 2 (0, 0)) ∧ Fr0 w W)
    (fun _ _ _ => False) ?own (fun _ _ _ _ _ hs _ _ => hs) ⟨hbx, by rw [wrap_nil]; exact hnx, hf0⟩
    (fun x a' W => ∃ q, w.heap.size + 1 < q ∧ W.heap[q]? = some (.cells (pkc x).toArray 34 (0, 0)) ∧ a' = { tmps := #[.func (.func 35) #[] #[.pointer (some ⟨p, 0, none⟩)], sizeFn, undef, .pointer (some ⟨w.heap.size, 0, none⟩), .int .i64 0, .pointer (some ⟨w.heap.size + 1, 0, none⟩), .pointer (some ⟨q, 0, none⟩), .func (.func 35) #[] #[.pointer (some ⟨p, 0, none⟩)], pkv x, undef, undef, undef, undef, undef, undef], defers := [] })
    ?ax ?assign ?body ?done ?stop
  case own =>
    rintro pre A1 B1 row ⟨h1, h2, hf⟩ hg hr
    have hn := ne_row hr
    exact ⟨blk_grown h1 hg (hn _ _ _ _ h1), blk_grown h2 hg (hn _ _ _ _ h2), hf.grown hg (fun k hk e => by have := (hr k e).1; have := HSZ.out; omega)⟩
  case ax =>
    rintro x a' _ A1 B1 row ⟨q, hq, hA, ha⟩ hg hr
    have hn := ne_row hr
    exact ⟨q, hq, blk_grown hA hg (hn _ _ _ _ hA), ha⟩
  case assign =>
    rintro l pre x W K ⟨h1, h2, hf⟩ hK
    have HK := Lib.hid hK
    clear hK
    gi_wp2
    exact HK.out _ _ (keeps_of_fr ((Fr.refl (fun _ => False) W).alloc _) _ (fun _ _ _ _ _ h => h)) (Ck.of_fr ((Fr.refl _ W).alloc _)) ⟨blk_alloc h1 _, blk_alloc h2 _, hf.alloc _⟩ ⟨W.heap.size, lt_of_block h2, heap_alloc_new _ _, rfl⟩
  case body =>
    rintro r pre x a' W hlr _ ⟨h1, h2, hf⟩ ⟨q, hq, hQ, rfl⟩ _
    have hq2 := lt_of_block hQ
    obtain ⟨⟨z0, z1, z2⟩, _⟩ := pk_cells hQ
    have r1 := cg_cell (W := W) (cell_of_blk h1 0)
    have r2 := cg_cell (W := W) (cell_of_blk h2 0)
    have rz0 := cg_cell (W := W) z0
    have rz1 := cg_cell (W := W) z1
    have rz2 := cg_cell (W := W) z2
    have HF := Lib.hid (show ∀ w', Fr0 W w' → KeepsFrom W0.heap.size W (w'.setCell ⟨w.heap.size + 1, 0, none⟩ (.int .i64 (wrap64 (bytesOf (pre ++ [x]))))) ∧ Ck (fun k => k = w.heap.size + 1) W (w'.setCell ⟨w.heap.size + 1, 0, none⟩ (.int .i64 (wrap64 (bytesOf (pre ++ [x]))))) ∧ (w'.setCell ⟨w.heap.size + 1, 0, none⟩ (.int .i64 (wrap64 (bytesOf (pre ++ [x]))))).heap[w.heap.size]? = some (.cells #[sizeFn] 71 (0, 0)) ∧ (w'.setCell ⟨w.heap.size + 1, 0, none⟩ (.int .i64 (wrap64 (bytesOf (pre ++ [x]))))).heap[w.heap.size + 1]? = some (.cells #[.int .i64 (wrap64 (bytesOf (pre ++ [x])))] 2 (0, 0)) ∧ Fr0 w (w'.setCell ⟨w.heap.size + 1, 0, none⟩ (.int .i64 (wrap64 (bytesOf (pre ++ [x]))))) from fun w' h => by
      have hfs := (Fr0.any (S := fun k => k = w.heap.size + 1) h).setCell (p := ⟨w.heap.size + 1, 0, none⟩) (fun _ => rfl) (.int .i64 (wrap64 (bytesOf (pre ++ [x]))))
      exact ⟨keeps_of_fr hfs _ (fun k o hk _ _ e => by have := HSZ.out; omega), Ck.of_fr hfs, blk_setCell_other (h.blk h1 (fun h => h)) (by simp) _, blk_setCell (h.blk h2 (fun h => h)) 0 _, (hf.trans h).setCell (fun h => by simp at h; omega) _⟩)
    have h2f : ∀ w', Fr0 W w' → w'.frozen? ⟨w.heap.size + 1, 0, none⟩ = false := fun w' h => free_of_blk (h.blk h2 (fun h => h)) 0
    have h2c : ∀ w', Fr0 W w' → w'.cell? ⟨w.heap.size + 1, 0, none⟩ = some (.int .i64 (wrap64 (bytesOf pre))) := fun w' h => cell_of_blk (h.blk h2 (fun h => h)) 0
    gi_wp2
    refine wpIn_region_class (fun U => ∃ x : Wx W, U = x.u) 5 hmx (by kernel_rfl) (by kernel_rfl) (fun ⟨_, _, h⟩ => h) ⟨⟨W.drew, (Fr.refl _ W).drew⟩, rfl⟩ ?_
    simp only [List.take_succ_cons, List.take_zero, List.drop_succ_cons, List.drop_zero]
    repeat (first
      | go_big_quiet_step (fail)
      | go_big_quiet_step (first | (go_at_call 33; exact quiet_cg (fsize_calls x _))))
    refine wpQuiet_nil ?_
    rintro w5 ⟨y, hy⟩
    have hf5 : Fr0 W w5 := hy ▸ y.fr
    clear hy y
    have e1 := h2f w5 hf5
    have e2 := h2c w5 hf5
    go_wp2
    rw [wrap_step]
    exact HF.out w5 hf5
  case done =>
    rintro D xs W hD rfl ⟨h1, h2, hf⟩ hK
    have a0 : W.cell? ⟨w.heap.size + 1, 0, none⟩ = some (.int .i64 (wrap64 (bytesOf xs))) := cell_of_blk h2 0
    gi_wp2
    refine ⟨by simp, .inl ⟨_, _, rfl, run_takeDeferred hK, ?_⟩⟩
    have hb := (HS.out).range
    exact ⟨_, results_tmp rfl _ _ _, by show Ending.returned (.int .i64 (wrap64 (bytesOf xs))) = _; rw [wrap64_in' (bytesOf xs) (by omega)], hf.grown (grownBy_putObj' W D _) (fun k hk e => by cases e; have := HSZ.out; omega)⟩
  case stop => exact fun _ _ _ _ _ _ h _ => h.elim
theorem fbytes_calls (b g : Nat) (X : Ln) (w : World) (h : IsLn w b g X) (hs : Small X.all) : Calls Try.prog 13 #[.pointer (some ⟨b, 0, none⟩)] w fun e w' => e = .returned (.int .i64 (bytesOf X.all)) ∧ Fr0 w w' := by
  have HA := Lib.hid (fall_calls b g X w h)
  have HS := Lib.hid hs
  have HL := Lib.hid (show X.all.length ≤ 1000000 by rw [X.all_length]; have := h.ok.many; have := h.max; omega)
  clear h hs
  go_enter Try.func13, Try.ntmps13
  go_wp2_with (go_at_call 19; refine HA.out.mono ?_; rintro e w5 ⟨⟨f, rfl, hq⟩, hf5⟩)
  refine (fsum_calls _ f X.all w5 hq HS.out HL.out).mono ?_
  rintro e w6 ⟨rfl, hf6⟩
  go_wp2_with fail
  go_ret
  exact ⟨rfl, hf5.trans hf6⟩
abbrev pkRow (w : World) (base : Nat) (v : Value) (l : List Pk) : Prop := w.ownsRow base 34 3 v l.length (pks l)
end Go.Proofs.Ytfiiikgjgcnjgaa
