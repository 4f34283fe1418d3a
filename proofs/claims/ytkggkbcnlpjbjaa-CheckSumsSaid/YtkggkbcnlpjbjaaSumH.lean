/- known, and the statement CheckSeals walked. -/
import Derived.Test.YtkggkbcnlpjbjaaSumG
import Derived.Laws.BytesArg
set_option linter.unusedVariables false
set_option linter.unusedSimpArgs false
namespace Go.Proofs.Ytkggkbcnlpjbjaa
open Go.RowKit

def str (bs : List UInt8) : ByteArray := ⟨bs.toArray⟩
theorem strOfNums_str (bs : List UInt8) : strOfNums (bs.map fun x => (x.toNat : Int)) = str bs := by
  unfold strOfNums str
  rw [List.map_map]
  congr 2
  have : (fun n : Int => UInt8.ofNat n.toNat) ∘ (fun x : UInt8 => (x.toNat : Int)) = id := by
    funext x
    simp
  rw [this, List.map_id]
theorem conv_str {P : Program} {S : Nat → Prop} {w : World} {A : Option Addr} {bs : List UInt8} (hR : Rd S w A (u8s bs)) (hA : A = none → bs = []) (c : Nat) {src e dst : TypeId} (hs : P.underlying src = some (.slice e)) (he : P.underlying e = some (.int .u8)) (hd : P.underlying dst = some .string) :
    (convert src dst (.slice A bs.length c)).run P w = .ok (.string (str bs)) w := by
  rcases hR with h | ⟨b, off, rfl, _, h⟩
  · obtain rfl : bs = [] := by simpa [u8s] using h
    rw [run_convert_bytes_string w src dst e _ _ c hs he hd]
    cases A with
    | none => simp [Conv.bytesToString, str, ByteArray.empty, ByteArray.emptyWithCapacity]; rfl
    | some a =>
      have hl := run_loadCells_list (P := P) w a [] (fun j v hj => by simp at hj) 
      simp only [List.length_nil] at hl
      simp [Conv.bytesToString, str, hl, ByteArray.empty, ByteArray.emptyWithCapacity]
      rfl
  · rw [← strOfNums_str]
    refine run_convert_bytes_arg w src e hs he b off bs.length c _ (by simp) (fun i hi => ?_) dst hd
    have := h i (by rw [u8s_length]; exact hi)
    rw [this]
    simp [u8s, hi]

theorem rd_blk {S : Nat → Prop} {w : World} {b : Nat} {cs : List Value} {t : TypeId} {fr : Nat × Nat} (h : w.heap[b]? = some (.cells cs.toArray t fr)) (hS : ¬ S b) : Rd S w (some ⟨b, 0, none⟩) cs :=
  .inr ⟨b, 0, rfl, hS, fun i hi => by rw [Nat.zero_add, cell_of_blk h i]; simp [hi]⟩

theorem known_calls (w : World) : Calls Try.prog 10 #[] w fun e w' => e = .returned (.bool true) ∧ Fr0 w w' := by
  go_enter Try.func10, Try.ntmps10
  go_wp2_with fail
  have hs := seal_yes (some ⟨w.heap.size, 0, none⟩) 4 [69, 0, 0, 0] 2 (w.alloc (Obj.cells #[.int .u8 69, .int .u8 0, .int .u8 0, .int .u8 0] 5)) (rd_blk (heap_alloc_new w _) (fun h => h)) (by decide) (by decide) (by decide)
  refine hs.mono ?_
  rintro e w1 ⟨v, rfl, hown, hf⟩
  have hsl : sealed [69, 0, 0, 0] 2 = [69, 0, 186, 255] := by decide +kernel
  rw [hsl] at hown
  have hf1 : Fr0 w w1 := ((Fr.refl _ w).alloc _).trans hf
  have H1 := Lib.hid hown
  have HF := Lib.hid hf1
  clear hs hown hf hf1 hsl
  obtain ⟨A, c, rfl, _, _⟩ := own_form H1.out
  go_wp2_with fail
  have hs := sum_calls (some ⟨w1.heap.size + 1, 0, none⟩) 1 1 [[0, 1, 242, 3, 244, 245, 246, 247]]
    ((w1.alloc (Obj.cells #[.int .u8 0, .int .u8 1, .int .u8 242, .int .u8 3, .int .u8 244, .int .u8 245, .int .u8 246, .int .u8 247] 5)).alloc (Obj.cells #[.slice (some ⟨w1.heap.size, 0, none⟩) 8 8] 22))
    (rdbb_one (v := .slice (some ⟨w1.heap.size, 0, none⟩) 8 8) (t := 22) (fr := (0, 0)) ⟨_, 8, rfl, (rd_blk (blk_alloc (heap_alloc_new w1 _) _) (fun h => h) : Rd _ _ _ (u8s [0, 1, 242, 3, 244, 245, 246, 247]))⟩ (by rw [show w1.heap.size + 1 = (w1.alloc (Obj.cells #[.int .u8 0, .int .u8 1, .int .u8 242, .int .u8 3, .int .u8 244, .int .u8 245, .int .u8 246, .int .u8 247] 5)).heap.size by simp]; exact heap_alloc_new _ _) (fun h => h)) (parts_one (by decide))
  rw [show ck [[0, 1, 242, 3, 244, 245, 246, 247]].flatten = 8717 by decide +kernel] at hs
  refine hs.mono ?_
  rintro e w2 ⟨rfl, hf⟩
  have hf2 : Fr0 w1 w2 := (((Fr.refl _ w1).alloc _).alloc _).trans hf
  have hown := own_kept0 H1.out hf2
  have hrd : Rd (fun _ => False) w2 A (u8s [69, 0, 186, 255]) := own_rd _ hown (fun _ _ _ h => h)
  have hAn : A = none → [69, 0, 186, 255] = ([] : List UInt8) := by
    intro e
    rcases hrd with h | ⟨_, _, h, _⟩
    · simp [u8s] at h
    · rw [h] at e; cases e
  have hcv := conv_str (P := Try.prog) hrd hAn c Try.underlying22 Try.underlying5 Try.underlying9
  have hst : str [69, 0, 186, 255] = ⟨#[69, 0, 186, 255]⟩ := rfl
  rw [hst] at hcv
  simp only [List.length_cons, List.length_nil, Nat.reduceAdd] at hcv
  have HF2 := Lib.hid (HF.out.trans hf2)
  have HR := Lib.hid hrd
  clear hs hf hf2 hown hrd hAn hst
  go_wp2_with (go_at_call 13; refine (right_calls A 4 c [69, 0, 186, 255] _ ⟨_, _, rfl, HR.out⟩ (by decide)).mono ?_; rintro e w3 ⟨rfl, hf3⟩)
  go_ret
  exact ⟨ret_bool (by decide +kernel), HF2.out.trans hf3⟩

/-- A slice of bytes that came in: what is asked of it. -/
structure BArg (w : World) (A : Option Addr) (bs : List UInt8) : Prop where
  rd : Rd (fun _ => False) w A (u8s bs)
  nil : A = none → bs = []
  len : bs.length ≤ 140737488351232
theorem BArg.of_rd {w : World} {A : Option Addr} {bs : List UInt8} (h : Rd (fun _ => False) w A (u8s bs)) (hl : bs.length ≤ 140737488351232) : BArg w A bs :=
  ⟨h, (fun e => by
    rcases h with h | ⟨_, _, h, _⟩
    · simpa [u8s] using h
    · rw [h] at e; cases e), hl⟩
theorem BArg.kept {w w' : World} {A : Option Addr} {bs : List UInt8} (h : BArg w A bs) (hf : Fr0 w w') : BArg w' A bs := ⟨h.rd.kept hf, h.nil, h.len⟩
theorem BArg.own {w : World} {base : Nat} {e : TypeId} {A : Option Addr} {n m c : Nat} {bs : List UInt8} (h : w.ownsRow base e 1 (.slice A m c) n (u8s bs)) (hl : bs.length ≤ 140737488351232) : BArg w A bs :=
  .of_rd (own_rd _ h (fun _ _ _ h => h)) hl
theorem BArg.str {w : World} {A : Option Addr} {bs : List UInt8} (h : BArg w A bs) (c : Nat) : (convert 22 9 (.slice A bs.length c)).run Try.prog w = .ok (.string (str bs)) w :=
  conv_str (P := Try.prog) h.rd h.nil c Try.underlying22 Try.underlying5 Try.underlying9

def Good (w : World) (e : Ending) (w' : World) : Prop := e = .returned (.bool true) ∧ Fr0 w w'

set_option maxHeartbeats 1000000 in
theorem seals_walk (A : Option Addr) (c : Nat) (bs : List UInt8) (i : Int) (w : World) (hb : BArg w A bs) (hi : -9223372036854775808 ≤ i) (hi2 : i ≤ 9223372036854775807) :
    Calls Try.prog 3 #[.slice A bs.length c, .int .i64 i] w (Good w) := by
  have HB := Lib.hid hb
  have hl := hb.len
  by_cases hlen : 2000 < bs.length
  · clear hb
    go_enter Try.func3, Try.ntmps3
    go_wp2_with (go_at_call 10; refine (known_calls _).mono ?_; rintro e w' ⟨rfl, hf⟩)
    go_ret
    exact ⟨rfl, hf⟩
  · have hc1 := hb.str c
    clear hb
    by_cases hbad : i < 0 ∨ i % 2 = 1 ∨ (bs.length : Int) - 2 < i
    · have HBAD := Lib.hid hbad
      have hc2 := (⟨.inl rfl, fun _ => rfl, by simp⟩ : BArg w none []).str 0
      simp only [List.length_nil] at hc2
      clear hbad
      go_enter Try.func3, Try.ntmps3
      go_wp2_with (first | (go_at_call 10; refine (known_calls _).mono ?_; rintro e w' ⟨rfl, hf⟩) | (go_at_call 11; refine (seal_no A c bs.length i _ HBAD.out hi hi2 (by simp only [maxLen]; omega)).mono ?_; rintro e w' ⟨rfl, rfl⟩) | (go_at_call 12; refine (rseal_no A c bs.length i _ HBAD.out hi hi2 (by simp only [maxLen]; omega)).mono ?_; rintro e w' ⟨rfl, rfl⟩))
      go_ret
      exact ⟨rfl, hf⟩
    · obtain ⟨k, rfl⟩ := Int.eq_ofNat_of_zero_le (show 0 ≤ i by omega)
      have hk : k % 2 = 0 := by omega
      have hk2 : k + 2 ≤ bs.length := by omega
      have hsl : (sealed bs k).length = bs.length := by simp [sealed, zeroed]
      clear hbad
      go_enter Try.func3, Try.ntmps3
      go_wp2_with fail
      refine (seal_yes A c bs k _ HB.out.rd hk hk2 hl).mono ?_
      rintro e w1 ⟨v1, rfl, ho1, hf1⟩
      obtain ⟨A1, c1, rfl, _, _⟩ := own_form ho1
      have HO1 := Lib.hid ho1
      have HF1 := Lib.hid hf1
      clear ho1 hf1
      go_wp2_with fail
      refine (rseal_yes A c bs k _ (HB.out.kept HF1.out).rd hk hk2 hl).mono ?_
      rintro e w2 ⟨v2, rfl, ho2, hf2⟩
      obtain ⟨A2, c2, rfl, _, _⟩ := own_form ho2
      have HF2 := Lib.hid (HF1.out.trans hf2)
      have hx := (HB.out.kept HF2.out).str c
      have hx1 := (BArg.own (own_kept0 HO1.out hf2) (by omega)).str c1
      have hx2 := (BArg.own ho2 (by omega)).str c2
      rw [hsl] at hx1 hx2
      clear ho2 hf2 hsl
      go_wp2_with (go_at_call 10; refine (known_calls _).mono ?_; rintro e w' ⟨rfl, hf⟩)
      go_ret
      exact ⟨rfl, HF2.out.trans hf⟩
end Go.Proofs.Ytkggkbcnlpjbjaa
