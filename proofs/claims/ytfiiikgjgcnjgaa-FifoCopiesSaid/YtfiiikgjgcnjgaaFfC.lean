/- Chapter 15: New. -/
import Derived.Test.YtfiiikgjgcnjgaaFfB
import Derived.OwnWalk
set_option linter.unusedVariables false
set_option linter.unusedSimpArgs false
namespace Go.Proofs.Ytfiiikgjgcnjgaa
open Go.RowKit

theorem own_row {w : World} {base : Nat} {e : TypeId} {size g n c : Nat} {xs : List Value} (h : w.ownsRow base e size (.slice (some ⟨g, 0, none⟩) n c) n xs) : base ≤ g ∧ ∃ sp, w.heap[g]? = some (.cells (xs ++ sp).toArray e (0, 0)) := by
  rcases h.2 with ⟨h1, _⟩ | ⟨g', cap, cur, hv, hb, hh, _, _, _, ht⟩
  · cases h1
  · obtain rfl : g = g' := by simp at hv; exact hv.1
    exact ⟨hb, cur.toList.drop (n * size), by rw [← ht, List.take_append_drop]; simpa using hh⟩
theorem fnew_calls (room : Int) (w : World) (hr : 0 ≤ room ∧ room ≤ 1000000000) : Calls Try.prog 9 #[.int .i64 room] w fun e w' => (∃ b g, e = .returned (.tuple #[.pointer (some ⟨b, 0, none⟩), .int .i64 0]) ∧ w.heap.size ≤ b ∧ w.heap.size ≤ g ∧ IsLn w' b g ⟨0, 0, room, [pk0], 0, 0⟩) ∧ Fr0 w w' := by
  have HW := Lib.hid (fwithin_calls room 0 1000000000)
  rw [decide_eq_true hr] at HW
  obtain ⟨i, z, hi, hz, hsz, hby, hzs⟩ : ∃ i z, Try.prog.info? 34 = some i ∧ i.zero = some z ∧ i.size = 3 ∧ i.bytes = 24 ∧ z.cells = (pkc pk0).toArray := ⟨_, _, rfl, rfl, rfl, rfl, rfl⟩
  obtain ⟨w2, hrun, hown, hgr⟩ := run_make_full (P := Try.prog) w w.heap.size 28 34 i z 3 Try.underlying28 hi hz hsz .i64 .i64 1 (by omega) (by simp [maxLen]) (Nat.le_refl _)
  have hrun' : (Instr.makeSlice 28 (.int .i64 1) (.int .i64 1)).run Try.prog w = .ok (.slice (some ⟨w.heap.size, 0, none⟩) 1 1) w2 := hrun
  have hxs : (madeCells z.cells (1 * 3)).toList = pks [pk0] := by rw [hzs]; kernel_rfl
  rw [hxs] at hown
  have HO := Lib.hid (own_row hown)
  have HG := Lib.hid hgr
  clear hrun hown hgr hxs hi hz hsz hby hzs
  go_enter Try.func9, Try.ntmps9
  go_wp2_with (go_at_call 23; refine (HW.out _).mono ?_; rintro e w' ⟨rfl, rfl⟩)
  go_ret2
  obtain ⟨_, sp, hrow⟩ := HO.out
  have hlt := lt_of_block hrow
  have hfr := (Fr.refl (fun _ => False) w).grown HG.out (by simp)
  exact ⟨⟨_, w.heap.size, rfl, hfr.size, Nat.le_refl _, ⟨⟨1, by simp, by simp [maxLen], heap_alloc_new _ _⟩, ⟨_, sp, blk_alloc hrow _⟩, Nat.ne_of_lt hlt, ⟨by simp, by simp, by simp⟩, by simp⟩⟩, hfr.alloc _⟩
end Go.Proofs.Ytfiiikgjgcnjgaa
