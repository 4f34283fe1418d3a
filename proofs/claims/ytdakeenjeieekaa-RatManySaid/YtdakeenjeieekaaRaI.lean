/- Chapter 01: what gives up is an error: the deferred closure of try, and try. -/
import Derived.Test.YtdakeenjeieekaaRaH
set_option linter.unusedVariables false
set_option linter.unusedSimpArgs false
namespace Go.Proofs.Ytdakeenjeieekaa
open Go.RowKit
attribute [local go_sem] Oper.semAt_some

theorem rtryc_idle (p q : Nat) (w : World) :
    CallsD Try.prog 62 #[.pointer (some ⟨p, 0, none⟩), .pointer (some ⟨q, 0, none⟩)] .returning w fun e u' w' => e = .returned (.tuple #[]) ∧ u' = .returning ∧ w = w' := by
  refine callsD_of_wpS Try.func62 rfl fun c₀ cs hu => ?_
  apply wpS_seq
  apply wpS_region
  simp [wpOpsS, go_sem, recoverD, hu, Try.ntmps62, Exit.thenS]
  refine wpS_of_wp ?_
  change Code.wp _ _ _ { tmps := #[.pointer (some ⟨p, 0, none⟩), .pointer (some ⟨q, 0, none⟩), undef, undef, undef, undef, .nilIface, undef, undef, undef, undef, undef, undef, undef, undef], defers := [] } _
  go_wp2_with fail
  cases c₀
  simp_all [bodyPostS, results, Try.results62]
set_option maxHeartbeats 2000000 in
theorem rtryc_stop (p q : Nat) (k : Int) (older : List PanicEntry) (w : World) (u v x : Value) (hpq : p ≠ q) (hp : w.heap[p]? = some (.cells #[u, v] 23 (0, 0))) (hq : w.heap[q]? = some (.cells #[x] 24 (0, 0))) :
    CallsD Try.prog 62 #[.pointer (some ⟨p, 0, none⟩), .pointer (some ⟨q, 0, none⟩)] (.panicking (stopE k :: older)) w fun e u' w' =>
      e = .returned (.tuple #[]) ∧ u' = .panicking ({ stopE k with recovered := true } :: older) ∧ w'.heap[p]? = some (.cells (rtc 0 0) 23 (0, 0)) ∧ w'.heap[q]? = some (.cells #[.int .i64 k] 24 (0, 0)) ∧ Fr (fun b => b = p ∨ b = q) w w' := by
  have hta : ∀ (v : Value) (w : World), (Instr.typeAssert (.iface 71 v) 20 71 true).run Try.prog w = .ok (.tuple #[v, .bool true]) w := fun _ _ => by kernel_rfl
  refine callsD_of_wpS Try.func62 rfl fun c₀ cs hu => ?_
  apply wpS_seq
  apply wpS_region
  simp [wpOpsS, go_sem, recoverD, hu, Try.ntmps62, Exit.thenS]
  refine wpS_of_wp ?_
  change Code.wp _ _ _ { tmps := #[.pointer (some ⟨p, 0, none⟩), .pointer (some ⟨q, 0, none⟩), undef, undef, undef, undef, (.iface 71 (.agg #[.int .i64 k])), undef, undef, undef, undef, undef, undef, undef, undef], defers := [] } _
  go_wp2_with fail
  have hlp : p < w.heap.size := lt_of_block hp
  have hlq : q < w.heap.size := lt_of_block hq
  have HF := Lib.hid (((Fr.refl (fun _ => False) w).alloc (.cells #[.int .i64 k] 71)).alloc (.cells (rtc 0 0) 23))
  have HA := Lib.hid (blk_alloc (heap_alloc_new w (.cells #[.int .i64 k] 71)) (.cells (rtc 0 0) 23))
  have HB := Lib.hid (heap_an (w := w.alloc (.cells #[.int .i64 k] 71)) (k := w.heap.size + 1) (.cells (rtc 0 0) 23) (by simp))
  have n1 : w.heap.size ≠ p := by omega
  have n2 : w.heap.size ≠ q := by omega
  have n3 : w.heap.size + 1 ≠ p := by omega
  have n4 : w.heap.size + 1 ≠ q := by omega
  have HLP := Lib.hid hlp
  have HLQ := Lib.hid hlq
  clear hlp hlq
  generalize w.heap.size = z at *
  generalize (w.alloc (.cells #[.int .i64 k] 71)).alloc (.cells (rtc 0 0) 23) = W at *
  have hp' := HF.out.blk hp (fun h => h)
  have hq' := HF.out.blk hq (fun h => h)
  obtain ⟨c0, c1, f0, f1⟩ := two_facts HB.out
  obtain ⟨p0, p1, p2, p3⟩ := two_facts hp'
  have a0 : W.cell? ⟨z, 0, none⟩ = some (.int .i64 k) := cell_of_blk HA.out 0
  have q0 : W.cell? ⟨q, 0, none⟩ = some x := cell_of_blk hq' 0
  have q1 : W.frozen? ⟨q, 0, none⟩ = false := free_of_blk hq' 0
  have hqp : q ≠ p := fun h => hpq h.symm
  have HP := Lib.hid hp'
  have HQ := Lib.hid hq'
  clear hp hq hp' hq'
  go_region
  have g1 : ((((W.setCell ⟨p, 0, none⟩ (.int .i64 0)).setCell ⟨p, 1, none⟩ (.int .i64 0)).setCell ⟨q, 0, none⟩ (.int .i64 k)).drew).heap[p]? = some (.cells (rtc 0 0) 23 (0, 0)) :=
    blk_setCell_other (two_set HP.out _ _) (p := ⟨q, 0, none⟩) hqp _
  have g2 : ((((W.setCell ⟨p, 0, none⟩ (.int .i64 0)).setCell ⟨p, 1, none⟩ (.int .i64 0)).setCell ⟨q, 0, none⟩ (.int .i64 k)).drew).heap[q]? = some (.cells #[.int .i64 k] 24 (0, 0)) :=
    blk_setCell (blk_setCell_other (blk_setCell_other HQ.out (p := ⟨p, 0, none⟩) hpq _) (p := ⟨p, 1, none⟩) hpq _) 0 _
  have g3 : Fr (fun b => b = p ∨ b = q) w ((((W.setCell ⟨p, 0, none⟩ (.int .i64 0)).setCell ⟨p, 1, none⟩ (.int .i64 0)).setCell ⟨q, 0, none⟩ (.int .i64 k)).drew) :=
    ((((Fr0.any HF.out).setCell (p := ⟨p, 0, none⟩) (fun _ => .inl rfl) _).setCell (p := ⟨p, 1, none⟩) (fun _ => .inl rfl) _).setCell (p := ⟨q, 0, none⟩) (fun _ => .inr rfl) _).drew
  generalize ((((W.setCell ⟨p, 0, none⟩ (.int .i64 0)).setCell ⟨p, 1, none⟩ (.int .i64 0)).setCell ⟨q, 0, none⟩ (.int .i64 k)).drew) = W2 at *
  clear c0 c1 f0 f1 p0 p1 p2 p3 a0 q0 q1 HF HA HB HP HQ hta n1 n2 n3 n4
  show bodyPostS Try.prog Try.f62 c₀ cs (fun e u' w' => e = .returned (.tuple #[]) ∧ u' = .panicking ({ stopE k with recovered := true } :: older) ∧ w'.heap[p]? = some (.cells (rtc 0 0) 23 (0, 0)) ∧ w'.heap[q]? = some (.cells #[.int .i64 k] 24 (0, 0)) ∧ Fr (fun b => b = p ∨ b = q) w w') Exit.normal _ ({ c₀ with mode := .panicking ({ stopE k with recovered := true } :: older) } :: cs) W2
  cases c₀
  simp_all [bodyPostS, results, Try.results62, Exit.inBlock]
end Go.Proofs.Ytdakeenjeieekaa
