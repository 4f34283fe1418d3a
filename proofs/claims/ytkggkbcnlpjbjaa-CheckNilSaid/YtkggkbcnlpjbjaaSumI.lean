/- The statement CheckNil walked. -/
import Derived.Test.YtkggkbcnlpjbjaaSumH
set_option linter.unusedVariables false
set_option linter.unusedSimpArgs false
namespace Go.Proofs.Ytkggkbcnlpjbjaa
open Go.RowKit

set_option maxHeartbeats 1000000 in
theorem nil_walk (A : Option Addr) (c : Nat) (bs : List UInt8) (w : World) (hb : BArg w A bs) :
    Calls Try.prog 9 #[.slice A bs.length c] w (Good w) := by
  have hl := hb.len
  clear hb
  by_cases hlen : 100 < bs.length
  · go_enter Try.func9, Try.ntmps9
    go_wp2_with (go_at_call 10; refine (known_calls _).mono ?_; rintro e w' ⟨rfl, hf⟩)
    go_ret
    exact ⟨rfl, hf⟩
  · go_enter Try.func9, Try.ntmps9
    go_wp2_with fail
    have hz : NoAd (w.alloc (Obj.cells #[.bool false, .int .u8 0, .int .u32 0, .bool false] 52)) (.pointer (some ⟨w.heap.size, 0, none⟩)) := .inr ⟨_, _, _, _, rfl, heap_alloc_new w _⟩
    have HZ := Lib.hid hz
    have HF := Lib.hid ((Fr.refl (fun _ => False) w).alloc (Obj.cells #[.bool false, .int .u8 0, .int .u32 0, .bool false] 52))
    clear hz
    generalize w.alloc (Obj.cells #[.bool false, .int .u8 0, .int .u32 0, .bool false] 52) = w1 at *
    refine (write_none _ undef A bs.length c w1 (.inl rfl)).mono ?_
    rintro e w' ⟨rfl, rfl⟩
    go_wp2_with fail
    refine (write_none _ undef A bs.length c w1 HZ.out).mono ?_
    rintro e w' ⟨rfl, rfl⟩
    go_wp2_with fail
    refine (asum_none _ w1 (.inl rfl)).mono ?_
    rintro e w' ⟨rfl, rfl⟩
    go_wp2_with fail
    refine (asum_none _ w1 HZ.out).mono ?_
    rintro e w' ⟨rfl, rfl⟩
    go_wp2_with fail
    refine (copy_none _ w1 HZ.out).mono ?_
    rintro e w' ⟨rfl, rfl⟩
    go_wp2_with (go_at_call 10; refine (known_calls _).mono ?_; rintro e w' ⟨rfl, hf⟩)
    go_ret
    exact ⟨rfl, HF.out.trans hf⟩
end Go.Proofs.Ytkggkbcnlpjbjaa
