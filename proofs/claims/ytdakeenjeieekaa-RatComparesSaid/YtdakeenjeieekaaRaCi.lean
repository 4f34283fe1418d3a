/- Chapter 01: try of a number; Cmp. -/
import Derived.Test.YtdakeenjeieekaaRaCm
import Derived.Test.YtdakeenjeieekaaRaU
set_option linter.unusedVariables false
set_option linter.unusedSimpArgs false
namespace Go.Proofs.Ytdakeenjeieekaa
open Go.RowKit
attribute [local go_sem] Oper.semAt_some

theorem rtryic_idle (p q : Nat) (w : World) :
    CallsD Try.prog 74 #[.pointer (some ⟨p, 0, none⟩), .pointer (some ⟨q, 0, none⟩)] .returning w fun e u' w' => e = .returned (.tuple #[]) ∧ u' = .returning ∧ w = w' := by
  refine callsD_of_wpS Try.func74 rfl fun c₀ cs hu => ?_
  apply wpS_seq
  apply wpS_region
  simp [wpOpsS, go_sem, recoverD, hu, Try.ntmps74, Exit.thenS]
  refine wpS_of_wp ?_
  change Code.wp _ _ _ { tmps := #[.pointer (some ⟨p, 0, none⟩), .pointer (some ⟨q, 0, none⟩), undef, undef, undef, undef, .nilIface, undef, undef, undef, undef, undef, undef, undef, undef], defers := [] } _
  go_wp2_with fail
  cases c₀
  simp_all [bodyPostS, results, Try.results74]
set_option maxHeartbeats 2000000 in
theorem rtryic_stop (p q : Nat) (k : Int) (older : List PanicEntry) (w : World) (u x : Value) (hpq : p ≠ q) (hp : w.heap[p]? = some (.cells #[u] 3 (0, 0))) (hq : w.heap[q]? = some (.cells #[x] 24 (0, 0))) :
    CallsD Try.prog 74 #[.pointer (some ⟨p, 0, none⟩), .pointer (some ⟨q, 0, none⟩)] (.panicking (stopE k :: older)) w fun e u' w' =>
      e = .returned (.tuple #[]) ∧ u' = .panicking ({ stopE k with recovered := true } :: older) ∧ w'.heap[p]? = some (.cells #[.int .i64 0] 3 (0, 0)) ∧ w'.heap[q]? = some (.cells #[.int .i64 k] 24 (0, 0)) ∧ Fr (fun b => b = p ∨ b = q) w w' := by
  have hta : ∀ (v : Value) (w : World), (Instr.typeAssert (.iface 71 v) 20 71 true).run Try.prog w = .ok (.tuple #[v, .bool true]) w := fun _ _ => by kernel_rfl
  refine callsD_of_wpS Try.func74 rfl fun c₀ cs hu => ?_
  apply wpS_seq
  apply wpS_region
  simp [wpOpsS, go_sem, recoverD, hu, Try.ntmps74, Exit.thenS]
  refine wpS_of_wp ?_
  change Code.wp _ _ _ { tmps := #[.pointer (some ⟨p, 0, none⟩), .pointer (some ⟨q, 0, none⟩), undef, undef, undef, undef, (.iface 71 (.agg #[.int .i64 k])), undef, undef, undef, undef, undef, undef, undef, undef], defers := [] } _
  go_wp2_with fail
  have hlp : p < w.heap.size := lt_of_block hp
  have hlq : q < w.heap.size := lt_of_block hq
  have HF := Lib.hid ((Fr.refl (fun _ => False) w).alloc (.cells #[.int .i64 k] 71))
  have HA := Lib.hid (heap_alloc_new w (.cells #[.int .i64 k] 71))
  have n1 : w.heap.size ≠ p := by omega
  have n2 : w.heap.size ≠ q := by omega
  clear hlp hlq
  generalize w.heap.size = z at *
  generalize w.alloc (.cells #[.int .i64 k] 71) = W at *
  have hp' := HF.out.blk hp (fun h => h)
  have hq' := HF.out.blk hq (fun h => h)
  have p0 : W.cell? ⟨p, 0, none⟩ = some u := cell_of_blk hp' 0
  have p1 : W.frozen? ⟨p, 0, none⟩ = false := free_of_blk hp' 0
  have a0 : W.cell? ⟨z, 0, none⟩ = some (.int .i64 k) := cell_of_blk HA.out 0
  have q0 : W.cell? ⟨q, 0, none⟩ = some x := cell_of_blk hq' 0
  have q1 : W.frozen? ⟨q, 0, none⟩ = false := free_of_blk hq' 0
  have hqp : q ≠ p := fun h => hpq h.symm
  have HP := Lib.hid hp'
  have HQ := Lib.hid hq'
  clear hp hq hp' hq'
  go_region
  have g1 : (((W.setCell ⟨p, 0, none⟩ (.int .i64 0)).setCell ⟨q, 0, none⟩ (.int .i64 k)).drew).heap[p]? = some (.cells #[.int .i64 0] 3 (0, 0)) :=
    blk_setCell_other (blk_setCell HP.out 0 _) (p := ⟨q, 0, none⟩) hqp _
  have g2 : (((W.setCell ⟨p, 0, none⟩ (.int .i64 0)).setCell ⟨q, 0, none⟩ (.int .i64 k)).drew).heap[q]? = some (.cells #[.int .i64 k] 24 (0, 0)) :=
    blk_setCell (blk_setCell_other HQ.out (p := ⟨p, 0, none⟩) hpq _) 0 _
  have g3 : Fr (fun b => b = p ∨ b = q) w (((W.setCell ⟨p, 0, none⟩ (.int .i64 0)).setCell ⟨q, 0, none⟩ (.int .i64 k)).drew) :=
    (((Fr0.any HF.out).setCell (p := ⟨p, 0, none⟩) (fun _ => .inl rfl) _).setCell (p := ⟨q, 0, none⟩) (fun _ => .inr rfl) _).drew
  generalize (((W.setCell ⟨p, 0, none⟩ (.int .i64 0)).setCell ⟨q, 0, none⟩ (.int .i64 k)).drew) = W2 at *
  clear p0 p1 a0 q0 q1 HF HA HP HQ hta n1 n2
  show bodyPostS Try.prog Try.f74 c₀ cs (fun e u' w' => e = .returned (.tuple #[]) ∧ u' = .panicking ({ stopE k with recovered := true } :: older) ∧ w'.heap[p]? = some (.cells #[.int .i64 0] 3 (0, 0)) ∧ w'.heap[q]? = some (.cells #[.int .i64 k] 24 (0, 0)) ∧ Fr (fun b => b = p ∨ b = q) w w') Exit.normal _ ({ c₀ with mode := .panicking ({ stopE k with recovered := true } :: older) } :: cs) W2
  cases c₀
  simp_all [bodyPostS, results, Try.results74, Exit.inBlock]
theorem loadVar_int {a : Addr} {k : Int} {w : World} (hc : w.cell? a = some (.int .i64 k)) : (loadVar 3 a).run Try.prog w = .ok (.int .i64 k) w := by
  simp [loadVar, run_underlying Try.underlying3, go_sem, hc]
theorem results_two {P : Program} {fn : Func} {p q : Tmp} {tp tq : TypeId} (h : fn.results = #[.cell p tp, .cell q tq]) (tmps : Array Value) (w : World) (g g2 : Nat) (u v : Value)
    (hp : tmps.getD p undef = .pointer (some ⟨g, 0, none⟩)) (hq : tmps.getD q undef = .pointer (some ⟨g2, 0, none⟩)) (h1 : (loadVar tp ⟨g, 0, none⟩).run P w = .ok u w) (h2 : (loadVar tq ⟨g2, 0, none⟩).run P w = .ok v w) :
    (results fn tmps).run P w = .ok (.tuple #[u, v]) w := by
  simp only [Array.getD_eq_getD_getElem?] at hp hq
  simp only [results, h]
  simp [Sem.run_bind, Result.andThen, hp, hq, asAddr, h1, h2]
set_option maxHeartbeats 2000000 in
theorem rtryi_yes (K : FuncId) (cap : Array Value) (n : Int) (w : World) (HE : ∀ (args : Array Value) (U : World), (callFunc K args).run Try.prog U = .ok (.enter K args) U) (HW : ∀ U, Fr0 w U → Calls Try.prog K cap U fun e w' => e = .returned (.int .i64 n) ∧ Fr0 U w') :
    Calls Try.prog 54 #[clv K cap] w fun e w' => e = .returned (.tuple #[.int .i64 n, .int .i64 0]) ∧ Fr0 w w' := by
  have hmf : ∀ (fn : Fn) (first cap : Array Value) (w : World), (Instr.makeFunc fn first cap).run Try.prog w = .ok (.func fn first cap) w := fun _ _ _ _ => rfl
  have HF := Lib.hid (((Fr.refl (fun _ => False) w).alloc (.cells #[.int .i64 0] 3)).alloc (.cells #[.int .i64 0] 24))
  have HA := Lib.hid (blk_alloc (heap_alloc_new w (.cells #[.int .i64 0] 3)) (.cells #[.int .i64 0] 24))
  have HB := Lib.hid (heap_an (w := w.alloc (.cells #[.int .i64 0] 3)) (k := w.heap.size + 1) (.cells #[.int .i64 0] 24) (by simp))
  have HW' := Lib.hid HW
  clear HW
  go_enter_defers Try.func54, Try.ntmps54
  go_wp2_with (first | (go_at_fn K; (with_reducible refine (HW'.out _ HF.out).mono ?_); rintro _ w2 ⟨rfl, hf2⟩; have hb := hf2.blk HA.out (fun h => h); have hq := hf2.blk HB.out (fun h => h); have p0 : w2.cell? ⟨w.heap.size, 0, none⟩ = some (.int .i64 0) := cell_of_blk hb 0; have p1 : w2.frozen? ⟨w.heap.size, 0, none⟩ = false := free_of_blk hb 0; have q0 : w2.cell? ⟨w.heap.size + 1, 0, none⟩ = some (.int .i64 0) := cell_of_blk hq 0; have q1 : w2.frozen? ⟨w.heap.size + 1, 0, none⟩ = false := free_of_blk hq 0) | fail)
  have g1 : ((w2.setCell ⟨w.heap.size, 0, none⟩ (.int .i64 n)).setCell ⟨w.heap.size + 1, 0, none⟩ (.int .i64 0)).cell? ⟨w.heap.size, 0, none⟩ = some (.int .i64 n) := cell_of_blk (blk_setCell_other (blk_setCell hb 0 (.int .i64 n)) (p := ⟨w.heap.size + 1, 0, none⟩) (by simp) _) 0
  have g2 : ((w2.setCell ⟨w.heap.size, 0, none⟩ (.int .i64 n)).setCell ⟨w.heap.size + 1, 0, none⟩ (.int .i64 0)).cell? ⟨w.heap.size + 1, 0, none⟩ = some (.int .i64 0) := cell_of_blk (blk_setCell (blk_setCell_other hq (p := ⟨w.heap.size, 0, none⟩) (by simp) _) 0 _) 0
  have g3 : Fr0 w ((w2.setCell ⟨w.heap.size, 0, none⟩ (.int .i64 n)).setCell ⟨w.heap.size + 1, 0, none⟩ (.int .i64 0)) := ((HF.out.trans hf2).setCell (p := ⟨w.heap.size, 0, none⟩) (fun h => absurd h (by simp)) _).setCell (p := ⟨w.heap.size + 1, 0, none⟩) (fun h => absurd h (by simp)) _
  generalize (w2.setCell ⟨w.heap.size, 0, none⟩ (.int .i64 n)).setCell ⟨w.heap.size + 1, 0, none⟩ (.int .i64 0) = W3 at *
  refine leaves_cons (f := 74) (args := #[.pointer (some ⟨w.heap.size, 0, none⟩), .pointer (some ⟨w.heap.size + 1, 0, none⟩)]) (by simp) (by simp [go_sem]) ?_
  refine (rtryic_idle w.heap.size (w.heap.size + 1) _).mono ?_
  rintro e u' w'' ⟨rfl, rfl, rfl⟩
  exact ⟨_, results_two rfl _ _ w.heap.size (w.heap.size + 1) _ _ rfl rfl (loadVar_int g1) (loadVar_cell g2), rfl, g3⟩
set_option maxHeartbeats 2000000 in
theorem rtryi_no (K : FuncId) (cap : Array Value) (k : Int) (w : World) (HE : ∀ (args : Array Value) (U : World), (callFunc K args).run Try.prog U = .ok (.enter K args) U) (HW : ∀ U, Fr0 w U → Calls Try.prog K cap U fun e w' => e = .panicked [stopE k] ∧ Fr0 U w') :
    Calls Try.prog 54 #[clv K cap] w fun e w' => e = .returned (.tuple #[.int .i64 0, .int .i64 k]) ∧ Fr0 w w' := by
  have hmf : ∀ (fn : Fn) (first cap : Array Value) (w : World), (Instr.makeFunc fn first cap).run Try.prog w = .ok (.func fn first cap) w := fun _ _ _ _ => rfl
  have HF := Lib.hid (((Fr.refl (fun _ => False) w).alloc (.cells #[.int .i64 0] 3)).alloc (.cells #[.int .i64 0] 24))
  have HA := Lib.hid (blk_alloc (heap_alloc_new w (.cells #[.int .i64 0] 3)) (.cells #[.int .i64 0] 24))
  have HB := Lib.hid (heap_an (w := w.alloc (.cells #[.int .i64 0] 3)) (k := w.heap.size + 1) (.cells #[.int .i64 0] 24) (by simp))
  have HW' := Lib.hid HW
  clear HW
  go_enter_defers Try.func54, Try.ntmps54
  go_wp2_with (first | (go_at_fn K; (with_reducible refine (HW'.out _ HF.out).mono ?_); rintro _ w2 ⟨rfl, hf2⟩; have hb := hf2.blk HA.out (fun h => h); have hq := hf2.blk HB.out (fun h => h)) | fail)
  refine leaves_cons (f := 74) (args := #[.pointer (some ⟨w.heap.size, 0, none⟩), .pointer (some ⟨w.heap.size + 1, 0, none⟩)]) (by simp) (by simp [go_sem]) ?_
  refine (rtryic_stop w.heap.size (w.heap.size + 1) k [] w2 _ _ (by simp) hb hq).mono ?_
  rintro e u' w'' ⟨rfl, rfl, hp3, hq3, hf3⟩
  exact ⟨_, results_two rfl _ _ w.heap.size (w.heap.size + 1) _ _ rfl rfl (loadVar_int (cell_of_blk hp3 0)) (loadVar_cell (cell_of_blk hq3 0)), rfl, Fr.then (HF.out.trans hf2) hf3 (fun i hi h => by rcases h with h | h <;> omega)⟩
/-- What Cmp answers. -/
def cmpV (a b : Int × Int) : Int := if RtOk a.1 a.2 ∧ RtOk b.1 b.2 then cmpN a.1 a.2 b.1 b.2 else 0
def cmpE (a b : Int × Int) : Int := if RtOk a.1 a.2 ∧ RtOk b.1 b.2 then 0 else 2
theorem rcmp1_calls (a b : Int × Int) (ia : I64r a.1 ∧ I64r a.2) (ib : I64r b.1 ∧ I64r b.2) (pa pb : Nat) (w : World)
    (ha : w.heap[pa]? = some (.cells (rtc a.1 a.2) 23 (0, 0))) (hb : w.heap[pb]? = some (.cells (rtc b.1 b.2) 23 (0, 0))) :
    Calls Try.prog 55 #[.pointer (some ⟨pa, 0, none⟩), .pointer (some ⟨pb, 0, none⟩)] w fun e w' => e = (if RtOk a.1 a.2 ∧ RtOk b.1 b.2 then .returned (.int .i64 (cmpN a.1 a.2 b.1 b.2)) else .panicked [stopE 2]) ∧ Fr0 w w' := by
  obtain ⟨an, ad⟩ := a
  obtain ⟨bn, bd⟩ := b
  dsimp only at *
  have HF := Lib.hid ((Fr.refl (fun _ => False) w).alloc (.cells #[.int .i64 an, .int .i64 ad, .int .i64 bn, .int .i64 bd] 23))
  have HS := Lib.hid (heap_alloc_new w (.cells #[.int .i64 an, .int .i64 ad, .int .i64 bn, .int .i64 bd] 23))
  have HBO := Lib.hid (rboth_calls (some ⟨w.heap.size, 0, none⟩) 2 [(an, ad), (bn, bd)] (w.alloc (.cells #[.int .i64 an, .int .i64 ad, .int .i64 bn, .int .i64 bd] 23))
    (.inr ⟨w.heap.size, 0, rfl, fun h => h, fun i hi => by
      rw [cell_of_blk HS.out]
      have : i < 4 := hi
      match i, this with
      | 0, _ => rfl
      | 1, _ => rfl
      | 2, _ => rfl
      | 3, _ => rfl⟩)
    (fun x hx => by
      rcases List.mem_cons.1 hx with rfl | hx
      · exact ia
      · rw [List.mem_singleton.1 hx]; exact ib) (by simp))
  obtain ⟨ca0, ca1, _, _⟩ := two_facts ha
  obtain ⟨cb0, cb1, _, _⟩ := two_facts hb
  have HC := Lib.hid (And.intro ha hb)
  have hall : AllR [(an, ad), (bn, bd)] ↔ RtOk an ad ∧ RtOk bn bd :=
    ⟨fun h => ⟨h (an, ad) (List.mem_cons_self ..), h (bn, bd) (List.mem_cons_of_mem _ (List.mem_cons_self ..))⟩, fun h x hx => by
      rcases List.mem_cons.1 hx with rfl | hx
      · exact h.1
      · rw [List.mem_singleton.1 hx]; exact h.2⟩
  clear ha hb
  unfold bothE at HBO
  by_cases hok : RtOk an ad ∧ RtOk bn bd
  · rw [if_pos hok]
    rw [if_pos (hall.2 hok)] at HBO
    have HCO := Lib.hid (fun U => rcompared_calls an ad bn bd hok.1 hok.2 ia ib U)
    generalize cmpN an ad bn bd = v at *
    clear hok hall ia ib
    go_enter Try.func55, Try.ntmps55
    go_wp2_with (first
      | (go_at_call 56; refine HBO.out.mono ?_; rintro _ w5 ⟨rfl, hf5⟩; have hf0 := HF.out.trans hf5; obtain ⟨xa0, xa1, _, _⟩ := two_facts (hf0.blk HC.out.1 (fun h => h)); obtain ⟨xb0, xb1, _, _⟩ := two_facts (hf0.blk HC.out.2 (fun h => h)))
      | (go_at_call 57; refine (HCO.out _).mono ?_; rintro _ w6 ⟨rfl, hf6⟩)
      | fail)
    go_ret
    exact ⟨rfl, (HF.out.trans hf5).trans hf6⟩
  · rw [if_neg hok]
    rw [if_neg (fun h => hok (hall.1 h))] at HBO
    clear hok hall ia ib
    go_enter Try.func55, Try.ntmps55
    go_wp2_with (first | (go_at_call 56; refine HBO.out.mono ?_; rintro _ w5 ⟨rfl, hf5⟩) | fail)
    exact ⟨rfl, rfl, HF.out.trans hf5⟩
theorem rcmp_calls (a b : Int × Int) (ia : I64r a.1 ∧ I64r a.2) (ib : I64r b.1 ∧ I64r b.2) (w : World) :
    Calls Try.prog 27 #[rtv a.1 a.2, rtv b.1 b.2] w fun e w' => e = .returned (.tuple #[.int .i64 (cmpV a b), .int .i64 (cmpE a b)]) ∧ Fr0 w w' := by
  have hmf : ∀ (fn : Fn) (first cap : Array Value) (w : World), (Instr.makeFunc fn first cap).run Try.prog w = .ok (.func fn first cap) w := fun _ _ _ _ => rfl
  have HF := Lib.hid (((Fr.refl (fun _ => False) w).alloc (.cells (rtc a.1 a.2) 23)).alloc (.cells (rtc b.1 b.2) 23))
  have h1 := blk_alloc (heap_alloc_new w (.cells (rtc a.1 a.2) 23)) (.cells (rtc b.1 b.2) 23)
  have h2 := heap_an (w := w.alloc (.cells (rtc a.1 a.2) 23)) (k := w.heap.size + 1) (.cells (rtc b.1 b.2) 23) (by simp)
  have HT : Hid (Calls Try.prog 54 #[clv 55 #[.pointer (some ⟨w.heap.size, 0, none⟩), .pointer (some ⟨w.heap.size + 1, 0, none⟩)]] ((w.alloc (.cells (rtc a.1 a.2) 23)).alloc (.cells (rtc b.1 b.2) 23)) fun e w' => e = .returned (.tuple #[.int .i64 (cmpV a b), .int .i64 (cmpE a b)]) ∧ Fr0 ((w.alloc (.cells (rtc a.1 a.2) 23)).alloc (.cells (rtc b.1 b.2) 23)) w') := by
    unfold cmpV cmpE
    by_cases hok : RtOk a.1 a.2 ∧ RtOk b.1 b.2
    · rw [if_pos hok, if_pos hok]
      refine rtryi_yes _ _ _ _ (enters_of' Try.func55 (by kernel_rfl) rfl) (fun U hU => ?_)
      have := rcmp1_calls a b ia ib w.heap.size (w.heap.size + 1) U (hU.blk h1 (fun h => h)) (hU.blk h2 (fun h => h))
      rwa [if_pos hok] at this
    · rw [if_neg hok, if_neg hok]
      refine rtryi_no _ _ _ _ (enters_of' Try.func55 (by kernel_rfl) rfl) (fun U hU => ?_)
      have := rcmp1_calls a b ia ib w.heap.size (w.heap.size + 1) U (hU.blk h1 (fun h => h)) (hU.blk h2 (fun h => h))
      rwa [if_neg hok] at this
  clear h1 h2
  obtain ⟨an, ad⟩ := a
  obtain ⟨bn, bd⟩ := b
  dsimp only at *
  generalize cmpV (an, ad) (bn, bd) = v at *
  generalize cmpE (an, ad) (bn, bd) = k at *
  go_enter Try.func27, Try.ntmps27
  go_wp2_with (first | (go_at_call 54; refine HT.out.mono ?_; rintro _ w3 ⟨rfl, hf3⟩) | fail)
  go_ret2
  exact ⟨rfl, HF.out.trans hf3⟩
end Go.Proofs.Ytdakeenjeieekaa
