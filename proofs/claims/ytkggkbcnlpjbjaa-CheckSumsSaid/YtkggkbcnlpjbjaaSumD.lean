/- The contracts of package check's exported functions. -/
import Derived.Test.YtkggkbcnlpjbjaaSumC
import Derived.Test.YtkggkbcnlpjbjaaMem
set_option linter.unusedVariables false
set_option linter.unusedSimpArgs false
namespace Go.Proofs.Ytkggkbcnlpjbjaa
open Go.RowKit

def ck (bs : List UInt8) : Int := (Ad.run ⟨false, 0, 0⟩ bs).all
theorem ad0_ok : Ad.ok ⟨false, 0, 0⟩ := ⟨by decide, by decide, by decide, by decide⟩
theorem all_range {a : Ad} (h : a.ok) : 0 ≤ a.all ∧ a.all ≤ 65535 := by
  obtain ⟨h0, h1, h2, h3⟩ := h
  unfold Ad.all
  split
  · have := putI_range h2 h3 (b := a.high * 256) (by omega) (by omega); omega
  · omega
theorem ck_range (bs : List UInt8) : 0 ≤ ck bs ∧ ck bs ≤ 65535 := all_range (Ad.run_ok ad0_ok bs)

theorem all_ad (b : Nat) (a : Ad) (w : World) (hb : IsAd w b a) (ha : a.ok) :
    Calls Try.prog 27 #[.pointer (some ⟨b, 0, none⟩)] w fun e w' => e = .returned (.int .u16 a.all) ∧ w = w' :=
  all_calls b _ _ _ w hb ha.1 ha.2.1 ha.2.2.1 ha.2.2.2

/-- Parts that are few and short enough to be gone over. -/
def Parts (l : List (List UInt8)) : Prop := l.length ≤ maxLen ∧ ∀ p ∈ l, p.length ≤ maxLen

theorem sum_calls (A : Option Addr) (m c : Nat) (parts : List (List UInt8)) (w : World) (hR : RdBB (fun _ => False) w (.slice A m c) parts) (hp : Parts parts) :
    Calls Try.prog 14 #[.slice A m c] w fun e w' => e = .returned (.int .u16 (ck parts.flatten)) ∧ Fr0 w w' := by
  have HR := Lib.hid hR
  have HP := Lib.hid hp
  clear hR hp
  go_enter Try.func14, Try.ntmps14
  go_wp2_with (go_at_call 19; refine (new_calls _).mono ?_; rintro e w1 ⟨b, rfl, hb, hA, hf1⟩)
  refine (add_calls b ⟨false, 0, 0⟩ _ parts w1 hA ad0_ok ((HR.out.mono (fun k hk (e : k = b) => by omega)).kept hf1.any) HP.out.1 HP.out.2).mono ?_
  rintro e w2 ⟨rfl, hA2, hf2⟩
  have hfr : Fr0 w w2 := Fr.then hf1 hf2 (fun i hi (e : i = b) => by omega)
  go_wp2_with (go_at_call 27; refine (all_ad b _ w2 hA2 (Ad.run_ok ad0_ok parts.flatten)).mono ?_; rintro e w3 ⟨rfl, rfl⟩)
  go_ret
  exact ⟨rfl, hfr⟩

theorem rdbb_one {S : Nat → Prop} {w : World} {b : Nat} {v : Value} {bs : List UInt8} {t : TypeId} {fr : Nat × Nat} (h : RdB S w v bs) (hb : w.heap[b]? = some (.cells #[v] t fr)) (hS : ¬ S b) : RdBB S w (.slice (some ⟨b, 0, none⟩) 1 1) [bs] :=
  ⟨_, _, [v], rfl, rfl, .inr ⟨b, 0, rfl, hS, fun i hi => by
    have hi' : i = 0 := by simpa using hi
    subst hi'
    exact cell_of_blk hb 0⟩, fun i hi hi' => by
    have hi' : i = 0 := by simpa using hi
    subst hi'
    exact h⟩

/-- Bytes that are no more than a slice may hold. -/
theorem parts_one {bs : List UInt8} (h : bs.length ≤ maxLen) : Parts [bs] := ⟨by simp [maxLen], fun p hp => by simp at hp; subst hp; exact h⟩

theorem right_calls (A : Option Addr) (m c : Nat) (bs : List UInt8) (w : World) (hR : RdB (fun _ => False) w (.slice A m c) bs) (hl : bs.length ≤ maxLen) :
    Calls Try.prog 13 #[.slice A m c] w fun e w' => e = .returned (.bool (ck bs == 0)) ∧ Fr0 w w' := by
  have HR := Lib.hid hR
  have HP := Lib.hid (parts_one hl)
  clear hR hl
  go_enter Try.func13, Try.ntmps13
  go_wp2_with (go_at_call 14; refine (sum_calls _ _ _ [bs] _ (rdbb_one (HR.out.kept ((Fr.refl _ w).alloc _)) (heap_alloc_new w _) (fun h => h)) HP.out).mono ?_; rintro e w' ⟨rfl, hf⟩)
  go_ret
  exact ⟨by simp, ((Fr.refl _ w).alloc _).trans hf⟩

theorem write_calls (b : Nat) (a : Ad) (A : Option Addr) (m c : Nat) (bs : List UInt8) (w : World) (hb : IsAd w b a) (ha : a.ok) (hR : RdB (· = b) w (.slice A m c) bs) (hl : bs.length ≤ maxLen) :
    Calls Try.prog 23 #[.pointer (some ⟨b, 0, none⟩), .slice A m c] w fun e w' => e = .returned (.int .i64 0) ∧ IsAd w' b (a.run bs) ∧ Fr (· = b) w w' := by
  have HR := Lib.hid hR
  have HP := Lib.hid (parts_one hl)
  have hlt := lt_of_block hb
  clear hR hl
  go_enter Try.func23, Try.ntmps23
  go_wp2_with fail
  go_step3
  go_wp2_with (first | (go_at_call 30; refine (none_calls b _ _ _ w hb).mono ?_; rintro e w' ⟨rfl, rfl⟩) | (go_at_call 26; refine (add_calls b a _ [bs] _ (blk_alloc hb _) ha (rdbb_one (HR.out.kept ((Fr.refl _ w).alloc _)) (heap_alloc_new w _) (fun e : w.heap.size = b => by omega)) HP.out.1 HP.out.2).mono ?_; rintro e w' ⟨rfl, hA, hf⟩))
  rw [Exit.noGoto_ret]
  go_ret
  exact ⟨rfl, by simpa using hA, ((Fr.refl _ w).alloc _).trans hf⟩

theorem asum_calls (b : Nat) (a : Ad) (w : World) (hb : IsAd w b a) (ha : a.ok) :
    Calls Try.prog 24 #[.pointer (some ⟨b, 0, none⟩)] w fun e w' => e = .returned (.int .u16 a.all) ∧ w = w' := by
  go_enter Try.func24, Try.ntmps24
  go_wp2_with (first | (go_at_call 30; refine (none_calls b _ _ _ w hb).mono ?_; rintro e w' ⟨rfl, rfl⟩) | (go_at_call 27; refine (all_ad b _ w hb ha).mono ?_; rintro e w3 ⟨rfl, rfl⟩))
  go_ret
  exact ⟨rfl, rfl⟩

theorem copy_calls (b : Nat) (a : Ad) (w : World) (hb : IsAd w b a) :
    Calls Try.prog 20 #[.pointer (some ⟨b, 0, none⟩)] w fun e w' => ∃ b', e = .returned (.pointer (some ⟨b', 0, none⟩)) ∧ w.heap.size ≤ b' ∧ IsAd w' b' a ∧ Fr0 w w' := by
  have c0 : w.cell? ⟨b, 0, none⟩ = some (.bool a.is) := cell_of_blk hb 0
  have c1 : w.cell? ⟨b, 1, none⟩ = some (.int .u8 a.high) := cell_of_blk hb 1
  have c2 : w.cell? ⟨b, 2, none⟩ = some (.int .u32 a.sum) := cell_of_blk hb 2
  have c3 : w.cell? ⟨b, 3, none⟩ = some (.bool true) := cell_of_blk hb 3
  go_enter Try.func20, Try.ntmps20
  go_wp2_with (go_at_call 30; refine (none_calls b _ _ _ w hb).mono ?_; rintro e w' ⟨rfl, rfl⟩)
  go_ret
  exact ⟨_, rfl, Nat.le_refl _, heap_alloc_new _ _, (Fr.refl _ _).alloc _⟩

theorem u8_elem : Elem Try.prog 5 1 1 := Elem.of (.int .u8 0) (by kernel_rfl) rfl (by decide)

theorem clone_calls (A : Option Addr) (c : Nat) (bs : List UInt8) (w : World) (hR : Rd (fun _ => False) w A (u8s bs)) (hA : A = none → bs = []) (hl : bs.length ≤ 140737488351232) :
    Calls Try.prog 25 #[.slice A bs.length c] w fun e w' => ∃ v, e = .returned v ∧ w'.ownsRow w.heap.size 5 1 v bs.length (u8s bs) ∧ Fr0 w w' := by
  have hln : (u8s bs).length = bs.length * 1 := by rw [u8s_length, Nat.mul_one]
  cases A with
  | none =>
    obtain rfl := hA rfl
    have hq := fun w : World => Lib.run_eql_slice_nil (P := Try.prog) w 22 5 none 0 c 0 0 Try.underlying22
    clear hR hA hl hln
    go_enter Try.func25, Try.ntmps25
    go_wp2
    go_ret
    exact ⟨_, rfl, own_nil _ _ _ _, Fr.refl _ _⟩
  | some a =>
    have hq := fun w : World => Lib.run_eql_slice_nil (P := Try.prog) w 22 5 (some a) bs.length c 0 0 Try.underlying22
    have HR := Lib.hid hR
    have HL := Lib.hid hln
    clear hR hA hln
    go_enter Try.func25, Try.ntmps25
    go_wp2_with (at_builtin; refine wpList_app rfl (.tmp 5) (.tmp 6) _ rfl Try.underlying22 u8_elem (base := w.heap.size) (.slice (some ⟨w.heap.size, 0, none⟩) 0 0) 0 [] rfl (World.ownsRow_made w _ 0 (Nat.le_refl _) (by simp [maxLen]) rfl) (fun _ => False) (some a) bs.length c (u8s bs) rfl (HR.out.kept ((Fr.refl _ w).alloc _)) HL.out (u8s_one bs) (by simp only [maxLen]; omega) (by omega) (by simp) (by simp) ?_; intro v' w' hown hg hat)
    go_ret
    refine ⟨v', rfl, by simpa using hown, ((Fr.refl _ w).alloc _).grown hg (fun k hk e => ?_)⟩
    simp [Value.ownBlock] at e
    omega

theorem xor_u16_nat (n : Nat) (h : n ≤ 65535) : bits .xor .u16 IntKind.u16.max (n : Int) = 65535 - (n : Int) := xor_u16 (by omega) (by omega)

def patchI (s a n : Int) : Int := 65535 - putI (putI (65535 - s) (65535 - a)) n
theorem patch_calls (s a n : Int) (w : World) (h0 : 0 ≤ s) (h1 : s ≤ 65535) (h2 : 0 ≤ a) (h3 : a ≤ 65535) (h4 : 0 ≤ n) (h5 : n ≤ 65535) :
    Calls Try.prog 15 #[.int .u16 s, .int .u16 a, .int .u16 n] w fun e w' => e = .returned (.int .u16 (patchI s a n)) ∧ w = w' := by
  have hs : IntKind.u16.signed = false := rfl
  have x1 := xor_u16 h0 h1
  have x2 := xor_u16 h2 h3
  obtain ⟨p0, p1⟩ := putI_range (a := 65535 - s) (b := 65535 - a) (by omega) (by omega) (by omega) (by omega)
  obtain ⟨q0, q1⟩ := putI_range p0 p1 h4 h5
  have x3 := xor_u16 q0 q1
  go_enter Try.func15, Try.ntmps15
  go_wp2_with fail
  refine (put_calls _ _ (by omega) (by omega) (by omega) (by omega) _).mono ?_
  rintro e w' ⟨rfl, rfl⟩
  go_wp2_with fail
  refine (put_calls _ _ p0 p1 h4 h5 _).mono ?_
  rintro e w' ⟨rfl, rfl⟩
  go_wp2
  go_ret
  exact ⟨ret_int rfl, rfl⟩

end Go.Proofs.Ytkggkbcnlpjbjaa
