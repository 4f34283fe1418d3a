/- Chapter 12: When. -/
import Derived.Test.YtmnadploikcljaaBkF
set_option linter.unusedVariables false
set_option linter.unusedSimpArgs false
namespace Go.Proofs.Ytmnadploikcljaa
open Go.RowKit
attribute [local go_sem] Oper.semAt_some

/-- The greatest of the ticks so far. -/
def atA (B : Bk) (t z u : Int) (pre : List Bool) : Int := max (if false ∈ pre then max t (t + (B.k0.adv u).lacks z) else t) (if true ∈ pre then max t (t + (B.k1.adv u).lacks z) else t)
theorem atA_step (B : Bk) (t z u : Int) (pre : List Bool) (h0 : 0 ≤ (B.k0.adv u).lacks z) (h1 : 0 ≤ (B.k1.adv u).lacks z) : ∀ x : Bool, atA B t z u (pre ++ [x]) = max (atA B t z u pre) (t + (kOf B u x).lacks z)
  | false => by simp only [atA, kOf, List.mem_append, List.mem_singleton]; simp; split <;> split <;> omega
  | true => by simp only [atA, kOf, List.mem_append, List.mem_singleton]; simp; split <;> split <;> omega
theorem blk_drewN {w : World} {b n : Nat} {o : Obj} (h : w.heap[b]? = some o) : (w.drewN n).heap[b]? = some o := h
/-- When a packet keeps to it. -/
def Bk.whenT (B : Bk) (t z : Int) : Int := max t (max (t + (B.k0.adv (t - B.now)).lacks z) (t + (B.k1.adv (t - B.now)).lacks z))
theorem lacks_range {k : K3} {z : Int} (h0 : 0 ≤ k.has) (h1 : 1 ≤ k.more ∧ k.more ≤ 1000000) (h2 : 0 ≤ z ∧ z ≤ 2000) : 0 ≤ k.lacks z ∧ k.lacks z ≤ 2000 := by
  have hn : 0 ≤ max 0 (z - k.has) + k.more - 1 := by omega
  unfold K3.lacks
  refine ⟨Int.ediv_nonneg hn (by omega), ?_⟩
  refine Int.le_of_lt_add_one ?_
  rw [Int.ediv_lt_iff_lt_mul (by omega)]
  have h3 : (2000 + 1) * k.more = 2000 * k.more + k.more := by rw [Int.add_mul, Int.one_mul]
  omega

set_option maxRecDepth 100000 in
set_option maxHeartbeats 4000000 in
theorem when_calls (b : Nat) (B : Bk) (t z : Int) (w : World) (hb : IsBk w b B) (hr : B.s.rate ≠ 0) (hm : B.may t) (hn : 0 ≤ B.now) (ok0 : B.k0.Ok (t - B.now)) (ok1 : B.k1.Ok (t - B.now)) (hz : B.s.least ≤ z ∧ z ≤ B.s.most) (hl1 : 1 ≤ B.s.least) (hm1 : B.s.most ≤ 2000)
    (m0 : 1 ≤ B.k0.more ∧ B.k0.more ≤ 1000000) (m1 : 1 ≤ B.k1.more ∧ B.k1.more ≤ 1000000) :
    Calls Try.prog 35 #[.pointer (some ⟨b, 0, none⟩), .int .i64 t, .int .i64 z] w fun e w' => e = .returned (.tuple #[.int .i64 (B.whenT t z), .int .i64 0]) ∧ Fr0 w w' := by
  have HA := Lib.hid (fun w' (h : Fr0 w w') => asked_calls b B t w' (hb.kept0 h) hr)
  rw [show askA B t = 0 from if_pos hm] at HA
  have hwt : IntKind.i64.wrap (t - B.now) = t - B.now := by have := hm.1; have := hm.2; rw [IntKind.wrap_i64]; omega
  have HE := Lib.hid (fun (w : World) => beach_calls b (t - B.now) w)
  have hmx : Try.prog.follows .mixedOrders = true := by kernel_rfl
  have HWI := Lib.hid (bwithin_calls z B.s.least B.s.most)
  rw [decide_eq_true hz] at HWI
  have hcs : ∀ U, Fr0 w U → U.cell? ⟨b, 3, none⟩ = some (.int .i64 B.s.most) ∧ U.cell? ⟨b, 4, none⟩ = some (.int .i64 B.s.least) ∧ U.cell? ⟨b, 11, none⟩ = some (.int .i64 B.now) := fun U h => ⟨(hb.kept0 h).cells.c3, (hb.kept0 h).cells.c4, (hb.kept0 h).cells.c11⟩
  have HCS := Lib.hid hcs
  clear hcs
  obtain ⟨d3, d4, d11⟩ := HCS.out _ (((Fr.refl (fun _ => False) w).alloc (.cells #[.int .i64 t] 2)).alloc (.cells #[.int .i64 z] 2))
  refine (callsIn_wide (n := 5)).1 ?_
  refine callsIn_of_wp_marks Try.func35 rfl trivial ?_ rfl
  simp only [Try.ntmps35, List.size_toArray, List.length_cons, List.length_nil, Nat.reduceAdd, Nat.reduceSub, Array.replicate_succ, Array.replicate_zero, List.push_toArray, List.append_toArray, List.nil_append, List.cons_append]
  gi_wp2_with (first
    | (refine ⟨trivial, ?_⟩; gi_at_call 49; refine (callsIn_wide.2 (HA.out _ (((Fr.refl _ w).alloc _).alloc _))).mono ?_; rintro e w' ⟨rfl, rfl⟩))
  refine wpIn_wide.2 ?_
  go_quiet ((go_at_call 51; refine Calls.quiet_of_same ((HWI.out _).mono fun e w' h => ⟨h.1, h.2.symm⟩)))
  go_wp2_with fail
  gi_wp2
  have hb4 : ((((w.alloc (.cells #[.int .i64 t] 2)).alloc (.cells #[.int .i64 z] 2)).drewN nq).alloc (.cells #[.int .i64 t] 2)).heap[w.heap.size]? = some (.cells #[.int .i64 t] 2 (0, 0)) := blk_alloc (blk_drewN (blk_alloc (heap_alloc_nn rfl) _)) _
  have hb5 : ((((w.alloc (.cells #[.int .i64 t] 2)).alloc (.cells #[.int .i64 z] 2)).drewN nq).alloc (.cells #[.int .i64 t] 2)).heap[w.heap.size + 1]? = some (.cells #[.int .i64 z] 2 (0, 0)) := blk_alloc (blk_drewN (heap_alloc_nn (by simp))) _
  have hb9 : ((((w.alloc (.cells #[.int .i64 t] 2)).alloc (.cells #[.int .i64 z] 2)).drewN nq).alloc (.cells #[.int .i64 t] 2)).heap[w.heap.size + 1 + 1]? = some (.cells #[.int .i64 t] 2 (0, 0)) := heap_alloc_nn (by simp)
  have hsz1 : ((((w.alloc (.cells #[.int .i64 t] 2)).alloc (.cells #[.int .i64 z] 2)).drewN nq).alloc (.cells #[.int .i64 t] 2)).heap.size = w.heap.size + 3 := by simp
  have hf1 : Fr0 w ((((w.alloc (.cells #[.int .i64 t] 2)).alloc (.cells #[.int .i64 z] 2)).drewN nq).alloc (.cells #[.int .i64 t] 2)) := ((((Fr.refl (fun _ => False) w).alloc _).alloc _).drewN nq).alloc _
  generalize ((((w.alloc (.cells #[.int .i64 t] 2)).alloc (.cells #[.int .i64 z] 2)).drewN nq).alloc (.cells #[.int .i64 t] 2)) = W1 at *
  clear d3 d4 d11
  obtain ⟨d3, d4, d11⟩ := HCS.out W1 hf1
  have e4 : W1.cell? ⟨w.heap.size, 0, none⟩ = some (.int .i64 t) := cell_of_blk hb4 0
  refine wpIn_wide.2 ?_
  refine wp_region_class (· = W1.drew) 7 hmx (by kernel_rfl) rfl ?_
  simp only [List.take_succ_cons, List.take_zero, List.drop_succ_cons, List.drop_zero]
  repeat (quiet_step (fail))
  refine wpQuiet_nil ?_
  rintro _ rfl
  go_wp2_with (go_at_call 50; refine (HE.out _).mono ?_; rintro e w' ⟨rfl, rfl⟩)
  gi_wp2
  have hfr : Fr0 W1 (((W1.alloc (.cells #[.pointer (some ⟨b, 0, none⟩)] 63)).alloc (.cells #[.int .i64 (t - B.now)] 2)).drew) := (((Fr.refl (fun _ => False) W1).alloc _).alloc _).drew
  have hc1 : (((W1.alloc (.cells #[.pointer (some ⟨b, 0, none⟩)] 63)).alloc (.cells #[.int .i64 (t - B.now)] 2)).drew).cell? ⟨w.heap.size + 3, 0, none⟩ = some (.pointer (some ⟨b, 0, none⟩)) := cell_of_blk (blk_drew (blk_alloc (heap_alloc_nn hsz1) _)) 0
  have hc2 : (((W1.alloc (.cells #[.pointer (some ⟨b, 0, none⟩)] 63)).alloc (.cells #[.int .i64 (t - B.now)] 2)).drew).cell? ⟨w.heap.size + 3 + 1, 0, none⟩ = some (.int .i64 (t - B.now)) := cell_of_blk (blk_drew (heap_alloc_nn (by rw [World.size_alloc, hsz1]))) 0
  have hsz : (((W1.alloc (.cells #[.pointer (some ⟨b, 0, none⟩)] 63)).alloc (.cells #[.int .i64 (t - B.now)] 2)).drew).heap.size = w.heap.size + 5 := by show ((W1.alloc _).alloc _).heap.size = _; rw [World.size_alloc, World.size_alloc, hsz1]
  have hb4' := hfr.blk hb4 (fun h => h)
  have hb5' := hfr.blk hb5 (fun h => h)
  have hb9' := hfr.blk hb9 (fun h => h)
  have hf0 := hf1.trans hfr
  generalize (((W1.alloc (.cells #[.pointer (some ⟨b, 0, none⟩)] 63)).alloc (.cells #[.int .i64 (t - B.now)] 2)).drew) = W0 at *
  have HSZ := Lib.hid hsz
  have HLT := Lib.hid hb.lt
  have hlz : 0 ≤ z ∧ z ≤ 2000 := by omega
  have hl0 := lacks_range (k := B.k0.adv (t - B.now)) (z := z) (by obtain ⟨⟨x1, x2⟩, ⟨x3, x4⟩, x5, x6⟩ := ok0; simp only [K3.adv]; omega) m0 hlz
  have hl1' := lacks_range (k := B.k1.adv (t - B.now)) (z := z) (by obtain ⟨⟨x1, x2⟩, ⟨x3, x4⟩, x5, x6⟩ := ok1; simp only [K3.adv]; omega) m1 hlz
  have HLC := Lib.hid (fun (x : Bool) (w : World) => lacks_calls (kOf B (t - B.now) x) z w (by
    obtain ⟨⟨x1, x2⟩, ⟨x3, x4⟩, x5, x6⟩ := ok0
    obtain ⟨⟨y1, y2⟩, ⟨y3, y4⟩, y5, y6⟩ := ok1
    cases x <;> simp only [kOf, K3.adv] <;> omega) (by cases x; exact m0; exact m1) hlz)
  have HLR := Lib.hid (show ∀ x : Bool, 0 ≤ (kOf B (t - B.now) x).lacks z ∧ (kOf B (t - B.now) x).lacks z ≤ 2000 from fun x => by cases x; exact hl0; exact hl1')
  have HAS := Lib.hid (fun pre x => atA_step B t z (t - B.now) pre hl0.1 hl1'.1 x)
  have hwh : B.whenT t z = atA B t z (t - B.now) bkYs := by simp only [Bk.whenT, atA, bkYs]; simp; omega
  have HWH := Lib.hid hwh
  have HB := Lib.hid (show 0 ≤ t ∧ t ≤ 2147483647 by have := hm.1; have := hm.2; omega)
  have hbok := hb.kept0 hf0
  clear hwt HE HA HWI HCS hsz hl0 hl1' hwh d3 d4 d11 e4 hb4 hb5 hb9 hf1 hsz1 hfr hlz m0 m1 hl1 hm1 hz hb
  have hseq := beach1_stops Fence.wide (5 - 1) trivial rfl (by omega) (w.heap.size + 3) (w.heap.size + 3 + 1) b (· = w.heap.size + 1 + 1) B (t - B.now) W0 hc1 hc2 (fun e : w.heap.size + 3 + 1 = w.heap.size + 1 + 1 => by omega) hbok ok0 ok1
  generalize hu : t - B.now = u at *
  refine wpIn_rangeFunc_ownH rfl (by omega) (gf := 61) (lb := #[.pointer (some ⟨w.heap.size + 3, 0, none⟩), .pointer (some ⟨w.heap.size + 3 + 1, 0, none⟩)]) rfl trivial (enters_of Try.func61 (by kernel_rfl) rfl)
    hseq (fun h k => h.trans k) (fun W l o o' _ h ho _ => Ck.putObj W l o o' h ho) (Below.refl _ _) (fun _ => rfl)
    (fun pre W => (W.heap[w.heap.size + 1 + 1]? = some (.cells #[.int .i64 (atA B t z u pre)] 2 (0, 0)) ∧ t ≤ atA B t z u pre ∧ atA B t z u pre ≤ t + 2000) ∧ W.heap[w.heap.size]? = some (.cells #[.int .i64 t] 2 (0, 0)) ∧ W.heap[w.heap.size + 1]? = some (.cells #[.int .i64 z] 2 (0, 0)) ∧ Fr0 w W)
    (fun _ _ _ => False) ?own (fun _ _ _ _ _ hs _ _ => hs) ⟨⟨by simpa [atA] using hb9', by simp [atA], by simp [atA]; omega⟩, hb4', hb5', hf0⟩
    (fun x a' W => ∃ q, w.heap.size + 1 + 1 < q ∧ W.heap[q]? = some (.cells (k3c (kOf B u x)) 94 (0, 0)) ∧ a' = { tmps := #[.pointer (some ⟨b, 0, none⟩), .int .i64 t, .int .i64 z, undef, .pointer (some ⟨w.heap.size, 0, none⟩), .pointer (some ⟨w.heap.size + 1, 0, none⟩), .int .i64 0, .int .i64 0, .int .i64 0, .pointer (some ⟨w.heap.size + 1 + 1, 0, none⟩), undef, .pointer (some ⟨q, 0, none⟩), undef, .pointer (some ⟨b, 0, none⟩), .int .i64 t, .int .i64 0, .int .i64 0, .bool false, undef, .int .i64 z, .pointer (some ⟨b, 0, none⟩), .pointer (some ⟨b, 0, none⟩), .pointer (some ⟨b, 0, none⟩), .pointer (some ⟨b, 4, none⟩), .int .i64 B.s.least, .pointer (some ⟨b, 0, none⟩), .pointer (some ⟨b, 0, none⟩), .pointer (some ⟨b, 0, none⟩), .pointer (some ⟨b, 3, none⟩), .int .i64 B.s.most, .bool true, .bool false, .int .i64 t, .pointer (some ⟨b, 0, none⟩), .int .i64 t, .pointer (some ⟨b, 0, none⟩), .pointer (some ⟨b, 0, none⟩), .pointer (some ⟨b, 11, none⟩), .int .i64 B.now, .int .i64 u, .func (.func 61) #[] #[.pointer (some ⟨w.heap.size + 3, 0, none⟩), .pointer (some ⟨w.heap.size + 3 + 1, 0, none⟩)], .int .i64 (if x then 1 else 0), k3v (kOf B u x), undef, undef, undef, undef, undef, undef, undef, undef, undef, undef], defers := [] })
    ?ax ?assign ?body ?done ?stop
  case own =>
    rintro pre A1 B1 row ⟨⟨hA, ha1, ha2⟩, h4, h5, hf⟩ hg hr
    have hn := ne_row hr
    exact ⟨⟨blk_grown hA hg (hn _ _ _ _ hA), ha1, ha2⟩, blk_grown h4 hg (hn _ _ _ _ h4), blk_grown h5 hg (hn _ _ _ _ h5), hf.grown hg (fun k hk e => by have := (hr k e).1; have := HSZ.out; omega)⟩
  case ax =>
    rintro x a' _ A1 B1 row ⟨q, hq, hA, ha⟩ hg hr
    have hn := ne_row hr
    exact ⟨q, hq, blk_grown hA hg (hn _ _ _ _ hA), ha⟩
  case assign =>
    rintro l pre x W K ⟨⟨hA, ha1, ha2⟩, h4, h5, hf⟩ hK
    have HK := Lib.hid hK
    have hqq := lt_of_block hA
    clear hK hr hm
    cases x
    all_goals
      gi_wp2
      exact HK.out _ _ (keeps_of_fr ((Fr.refl (fun _ => False) W).alloc _) _ (fun _ _ _ _ _ h => h)) (Ck.of_fr ((Fr.refl _ W).alloc _)) ⟨⟨blk_alloc hA _, ha1, ha2⟩, blk_alloc h4 _, blk_alloc h5 _, hf.alloc _⟩ ⟨W.heap.size, hqq, heap_alloc_new _ _, rfl⟩
  case body =>
    rintro l pre x a' W hl _ ⟨⟨hA, ha1, ha2⟩, h4, h5, hf⟩ ⟨q, hq, hQ, rfl⟩ _
    have HST := Lib.hid (HAS.out pre x)
    have hlx := HLR.out x
    have HLX := Lib.hid (HLC.out x)
    have hmf : ∀ (fn : Fn) (first cap : Array Value) (w : World), (Instr.makeFunc fn first cap).run Try.prog w = .ok (.func fn first cap) w := fun _ _ _ _ => rfl
    have q0 : W.cell? ⟨q, 0, none⟩ = some (.int .i64 (kOf B u x).has) := cell_of_blk hQ 0
    have q1 : W.cell? ⟨q, 1, none⟩ = some (.int .i64 (kOf B u x).most) := cell_of_blk hQ 1
    have q2 : W.cell? ⟨q, 2, none⟩ = some (.int .i64 (kOf B u x).more) := cell_of_blk hQ 2
    have fin : ∀ W' : World, W'.heap[w.heap.size + 1 + 1]? = some (.cells #[.int .i64 (max (atA B t z u pre) (t + (kOf B u x).lacks z))] 2 (0, 0)) → Fr (· = w.heap.size + 1 + 1) W W' → KeepsFrom W0.heap.size W W' ∧ Ck (· = w.heap.size + 1 + 1) W W' ∧ ((W'.heap[w.heap.size + 1 + 1]? = some (.cells #[.int .i64 (atA B t z u (pre ++ [x]))] 2 (0, 0)) ∧ t ≤ atA B t z u (pre ++ [x]) ∧ atA B t z u (pre ++ [x]) ≤ t + 2000) ∧ W'.heap[w.heap.size]? = some (.cells #[.int .i64 t] 2 (0, 0)) ∧ W'.heap[w.heap.size + 1]? = some (.cells #[.int .i64 z] 2 (0, 0)) ∧ Fr0 w W') := fun W' h1 h2 =>
      ⟨keeps_of_fr h2 _ (fun k o hk _ _ e => by have := HSZ.out; omega), Ck.of_fr h2, ⟨by rw [HST.out]; exact h1, by rw [HST.out]; omega, by rw [HST.out]; omega⟩, h2.blk h4 (fun e : w.heap.size = _ => by omega), h2.blk h5 (fun e : w.heap.size + 1 = _ => by omega), hf.then h2 (fun i hi e => by omega)⟩
    have FIN := Lib.hid fin
    obtain ⟨bt1, bt2⟩ := HB.out
    have hwa : IntKind.i64.wrap (t + (kOf B u x).lacks z) = t + (kOf B u x).lacks z := by rw [IntKind.wrap_i64]; omega
    generalize atA B t z u pre = av at *
    generalize (kOf B u x).lacks z = lx at *
    have r9 := cg_cell (show W.cell? ⟨w.heap.size + 1 + 1, 0, none⟩ = some (.int .i64 av) from cell_of_blk hA 0)
    have r4 := cg_cell (show W.cell? ⟨w.heap.size, 0, none⟩ = some (.int .i64 t) from cell_of_blk h4 0)
    have r5 := cg_cell (show W.cell? ⟨w.heap.size + 1, 0, none⟩ = some (.int .i64 z) from cell_of_blk h5 0)
    have f9 : ∀ y : Wx W, y.u.frozen? ⟨w.heap.size + 1 + 1, 0, none⟩ = false := fun y => free_of_blk (y.fr.blk hA (fun h => h)) 0
    have HA9 := Lib.hid (fun (y : Wx W) => y.fr.blk hA (fun h => h))
    clear fin hA hf h4 h5 hr hm hQ
    generalize kOf B u x = kk at *
    by_cases hmax : av < t + lx
    case' pos => have hmv : max av (t + lx) = t + lx := by omega
    case' neg => have hmv : max av (t + lx) = av := by omega
    all_goals
      rw [hmv] at FIN
      clear hmv HST
      cases x
      all_goals
        gi_wp2
        refine wpIn_region_class (fun U => ∃ y : Wx W, U = y.u) 7 hmx (by kernel_rfl) (by kernel_rfl) (fun ⟨_, _, h⟩ => h) ⟨⟨W.drew, (Fr.refl _ W).drew⟩, rfl⟩ ?_
        simp only [List.take_succ_cons, List.take_zero, List.drop_succ_cons, List.drop_zero]
        repeat (go_big_quiet_step (first
          | (go_at_call 52; exact quiet_cg (HLX.out _))))
        refine wpQuiet_nil ?_
        rintro _ ⟨y, rfl⟩
        go_wp2
        exact FIN.out _ (blk_setCell (HA9.out y) 0 _) ((Fr0.any (S := (· = w.heap.size + 1 + 1)) y.fr).setCell (p := ⟨w.heap.size + 1 + 1, 0, none⟩) (fun _ => rfl) _)
  case done =>
    rintro D xs W hD rfl ⟨⟨hA, ha1, ha2⟩, h4, h5, hf⟩ hK
    rw [← HWH.out] at hA
    have a9 : W.cell? ⟨w.heap.size + 1 + 1, 0, none⟩ = some (.int .i64 (B.whenT t z)) := cell_of_blk hA 0
    have HF := Lib.hid hf
    clear hf hr hm h4 h5 hb4' hb5' hb9' hc1 hc2 hseq
    gi_wp2
    refine ⟨by simp, .inl ⟨_, _, rfl, run_takeDeferred hK, ?_⟩⟩
    exact ⟨_, results_tmp2 rfl _ _ _, rfl, HF.out.grown (grownBy_putObj' W D _) (fun k hk e => by cases e; have := HSZ.out; omega)⟩
  case stop => exact fun _ _ _ _ _ _ h _ => h.elim
end Go.Proofs.Ytmnadploikcljaa
