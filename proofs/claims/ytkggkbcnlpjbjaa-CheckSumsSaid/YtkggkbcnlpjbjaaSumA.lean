/- The contracts of package check's small functions: put, none, New, all. -/
import Derived.Test.YtkggkbcnlpjbjaaProg
import Derived.Test.YtkggkbcnlpjbjaaBase
import Derived.Laws.BitsAllLaws
set_option linter.unusedVariables false
set_option linter.unusedSimpArgs false
namespace Go.Proofs.Ytkggkbcnlpjbjaa
open Go.RowKit

def putI (a b : Int) : Int := (a + b) % 65536 + (a + b) / 65536
theorem putI_range {a b : Int} (ha : 0 ≤ a) (ha' : a ≤ 65535) (hb : 0 ≤ b) (hb' : b ≤ 65535) : 0 ≤ putI a b ∧ putI a b ≤ 65535 := by unfold putI; omega
theorem and_mask {x : Int} (h0 : 0 ≤ x) (h1 : x < 4294967296) : bits .and .u32 x 65535 = x % 65536 :=
  bits_mask .u32 32 (by decide) (fun n h0 h1 => by rw [IntKind.wrap_u32]; omega) 16 (by decide) x h0 h1

theorem put_calls (a b : Int) (ha : 0 ≤ a) (ha' : a ≤ 65535) (hb : 0 ≤ b) (hb' : b ≤ 65535) (w : World) :
    Calls Try.prog 28 #[.int .u32 a, .int .u32 b] w fun e w' => e = .returned (.int .u32 (putI a b)) ∧ w = w' := by
  go_enter Try.func28, Try.ntmps28
  go_wp2
  go_ret
  refine ⟨ret_int ?_, rfl⟩
  show (bits .and .u32 (a + b) 65535 + _) % _ = _
  rw [and_mask (by omega) (by omega)]
  unfold putI
  omega

/-- The object at b: a sum under way. -/
def IsAdder (w : World) (b : Nat) (is : Bool) (high sum : Int) : Prop :=
  w.heap[b]? = some (.cells #[.bool is, .int .u8 high, .int .u32 sum, .bool true] 52 (0, 0))

theorem none_calls (b : Nat) (is : Bool) (high sum : Int) (w : World) (hb : IsAdder w b is high sum) :
    Calls Try.prog 30 #[.pointer (some ⟨b, 0, none⟩)] w fun e w' => e = .returned (.bool false) ∧ w = w' := by
  have h3 : w.cell? ⟨b, 3, none⟩ = some (.bool true) := cell_of_blk hb 3
  go_enter Try.func30, Try.ntmps30
  go_wp2
  go_ret
  exact ⟨rfl, rfl⟩

theorem new_calls (w : World) :
    Calls Try.prog 19 #[] w fun e w' => ∃ b, e = .returned (.pointer (some ⟨b, 0, none⟩)) ∧ w.heap.size ≤ b ∧ IsAdder w' b false 0 0 ∧ Fr0 w w' := by
  go_enter Try.func19, Try.ntmps19
  go_wp2
  go_ret
  exact ⟨_, rfl, Nat.le_refl _, heap_alloc_new _ _, (Fr.refl _ _).alloc _⟩

theorem xor_u16 {x : Int} (h0 : 0 ≤ x) (h1 : x ≤ 65535) : bits .xor .u16 IntKind.u16.max x = 65535 - x := by
  obtain ⟨n, rfl⟩ := Int.eq_ofNat_of_zero_le h0
  show bits .xor .u16 ((65535 : Nat) : Int) (n : Int) = _
  rw [u16_xor_nat 65535 n (by decide) (by omega)]
  have e : 65535 ^^^ n = 65535 - n := by
    have h := BitVec.toNat_xor (BitVec.allOnes 16) (BitVec.ofNat 16 n)
    rw [BitVec.allOnes_xor, BitVec.toNat_not] at h
    simp only [BitVec.toNat_ofNat, BitVec.toNat_allOnes] at h
    rw [Nat.mod_eq_of_lt (by omega)] at h
    simpa using h.symm
  rw [e]; omega

theorem all_calls (b : Nat) (is : Bool) (high sum : Int) (w : World) (hb : IsAdder w b is high sum) (h0 : 0 ≤ high) (h1 : high ≤ 255) (h2 : 0 ≤ sum) (h3 : sum ≤ 65535) :
    Calls Try.prog 27 #[.pointer (some ⟨b, 0, none⟩)] w fun e w' => e = .returned (.int .u16 (65535 - (if is then putI sum (high * 256) else sum))) ∧ w = w' := by
  have c0 : w.cell? ⟨b, 0, none⟩ = some (.bool is) := cell_of_blk hb 0
  have c1 : w.cell? ⟨b, 1, none⟩ = some (.int .u8 high) := cell_of_blk hb 1
  have c2 : w.cell? ⟨b, 2, none⟩ = some (.int .u32 sum) := cell_of_blk hb 2
  have hh : high * 256 ≤ 65535 := by omega
  have hs : IntKind.u16.signed = false := rfl
  clear hb
  cases is
  · go_enter Try.func27, Try.ntmps27
    go_wp2
    go_ret
    exact ⟨ret_int (xor_u16 h2 h3), rfl⟩
  · have hp := putI_range h2 h3 (b := high * 256) (by omega) hh
    obtain ⟨hp0, hp1⟩ := hp
    go_enter Try.func27, Try.ntmps27
    go_wp2_with (go_at_call 28; refine (put_calls _ _ h2 h3 (by omega) hh _).mono ?_; rintro e w' ⟨rfl, rfl⟩)
    go_ret
    exact ⟨ret_int (xor_u16 hp0 hp1), rfl⟩

end Go.Proofs.Ytkggkbcnlpjbjaa
