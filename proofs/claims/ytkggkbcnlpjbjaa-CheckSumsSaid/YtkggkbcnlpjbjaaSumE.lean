/- The contract of check.Seal; those of sums that are not there. -/
import Derived.Test.YtkggkbcnlpjbjaaSumD
set_option linter.unusedVariables false
set_option linter.unusedSimpArgs false
namespace Go.Proofs.Ytkggkbcnlpjbjaa
open Go.RowKit

theorem seal_no (A : Option Addr) (c : Nat) (n : Nat) (i : Int) (w : World) (h : i < 0 ∨ i % 2 = 1 ∨ (n : Int) - 2 < i) (hi : -9223372036854775808 ≤ i) (hi2 : i ≤ 9223372036854775807) (hn : n ≤ maxLen) :
    Calls Try.prog 11 #[.slice A n c, .int .i64 i] w fun e w' => e = .returned (.tuple #[.slice none 0 0, .int .i64 4]) ∧ w = w' := by
  unfold maxLen at hn
  by_cases h0 : i < 0
  · have hd : decide (i < 0) = true := by simp; omega
    clear h
    go_enter Try.func11, Try.ntmps11
    go_wp2
    go_ret2
    exact ⟨rfl, rfl⟩
  · have hd : decide (i < 0) = false := by simp; omega
    have h1 : 0 ≤ i := by omega
    by_cases h2 : i % 2 = 1
    · have hm : (i % 2 == 1) = true := by simp; omega
      clear h
      go_enter Try.func11, Try.ntmps11
      go_wp2
      go_ret2
      exact ⟨rfl, rfl⟩
    · have hm : (i % 2 == 1) = false := by simp; omega
      have h3 : (n : Int) - 2 < i := by omega
      clear h
      go_enter Try.func11, Try.ntmps11
      go_wp2
      go_ret2
      exact ⟨rfl, rfl⟩

def u8of (i : Int) : UInt8 := UInt8.ofNat i.toNat
def zeroed (bs : List UInt8) (k : Nat) : List UInt8 := (bs.set k 0).set (k + 1) 0
def sealed (bs : List UInt8) (k : Nat) : List UInt8 := ((zeroed bs k).set k (u8of (ck (zeroed bs k) / 256))).set (k + 1) (u8of (ck (zeroed bs k) % 256))
theorem u8s_set (bs : List UInt8) (k : Nat) (x : UInt8) : (u8s bs).set k (.int .u8 x.toNat) = u8s (bs.set k x) := by simp [u8s, List.map_set]
theorem u8of_toNat {i : Int} (h0 : 0 ≤ i) (h1 : i < 256) : ((u8of i).toNat : Int) = i := by
  unfold u8of; rw [UInt8.toNat_ofNat']; omega

set_option maxHeartbeats 1000000 in
theorem seal_yes (A : Option Addr) (c : Nat) (bs : List UInt8) (k : Nat) (w : World) (hR : Rd (fun _ => False) w A (u8s bs)) (hk : k % 2 = 0) (hk2 : k + 2 ≤ bs.length) (hl : bs.length ≤ 140737488351232) :
    Calls Try.prog 11 #[.slice A bs.length c, .int .i64 k] w fun e w' => ∃ v, e = .returned (.tuple #[v, .int .i64 0]) ∧ w'.ownsRow w.heap.size 5 1 v bs.length (u8s (sealed bs k)) ∧ Fr0 w w' := by
  have HR := Lib.hid hR
  clear hR
  have hd : decide ((k : Int) < 0) = false := decide_eq_false (by omega)
  have hm : ((k : Int) % 2 == 1) = false := by simp; omega
  have hAn : A = none → bs = [] := by
    intro e
    rcases HR.out with h | ⟨_, _, h, _⟩
    · simpa [u8s] using h
    · rw [h] at e; cases e
  have hAN := Lib.hid hAn
  clear hAn
  go_enter Try.func11, Try.ntmps11
  go_wp2_with fail
  refine (clone_calls A c bs _ HR.out hAN.out hl).mono ?_
  rintro e w1 ⟨v, rfl, hown, hf1⟩
  obtain ⟨g, cap, rfl, hg0, hglt⟩ := hown.form (by omega)
  obtain ⟨x1, c1, _⟩ := own_some hown k (by omega)
  obtain ⟨x2, c2, _⟩ := own_some hown (k + 1) (by omega)
  have f1 := hown.frozenAt k
  have f2 := hown.frozenAt (k + 1)
  have e0 : ∀ l j, (u8s l).set j (.int .u8 0) = u8s (l.set j 0) := fun l j => u8s_set l j 0
  have hown2 := own_set (own_set hown k (.int .u8 0)) (k + 1) (.int .u8 0)
  rw [e0, e0] at hown2
  have hfr2 : Fr0 w ((w1.setCell ⟨g, k, none⟩ (.int .u8 0)).setCell ⟨g, k + 1, none⟩ (.int .u8 0)) := (hf1.setCell (fun h => by have : g < w.heap.size := h; omega) _).setCell (fun h => by have : g < w.heap.size := h; omega) _
  have hsz2 : ((w1.setCell ⟨g, k, none⟩ (.int .u8 0)).setCell ⟨g, k + 1, none⟩ (.int .u8 0)).heap.size = w1.heap.size := by simp
  have H2 := Lib.hid hown2
  have HF2 := Lib.hid hfr2
  have HS2 := Lib.hid hsz2
  clear hown2 hfr2 hown hsz2
  go_wp2_with fail
  generalize (w1.setCell ⟨g, k, none⟩ (.int .u8 0)).setCell ⟨g, k + 1, none⟩ (.int .u8 0) = W2 at *
  have hrd : RdB (fun _ => False) (W2.alloc (Obj.cells #[.slice (some ⟨g, 0, none⟩) bs.length cap] 22)) (.slice (some ⟨g, 0, none⟩) bs.length cap) (zeroed bs k) :=
    ⟨_, cap, by simp [zeroed], Rd.kept (own_rd _ H2.out (fun _ _ _ h => h)) ((Fr.refl _ _).alloc _)⟩
  have hbk : (W2.alloc (Obj.cells #[.slice (some ⟨g, 0, none⟩) bs.length cap] 22)).heap[w1.heap.size]? = some (.cells #[.slice (some ⟨g, 0, none⟩) bs.length cap] 22 (0, 0)) := by rw [← HS2.out]; exact heap_alloc_new _ _
  refine (sum_calls _ _ _ [zeroed bs k] _ (rdbb_one hrd hbk (fun h => h)) (parts_one (by simp only [zeroed, List.length_set, maxLen]; omega))).mono ?_
  rintro e W3 ⟨rfl, hf3⟩
  have H3 := Lib.hid (own_kept0 (own_kept0 H2.out ((Fr.refl _ _).alloc (Obj.cells #[.slice (some ⟨g, 0, none⟩) bs.length cap] 22))) hf3)
  have HF3 := Lib.hid ((HF2.out.alloc _).trans hf3)
  simp only [List.flatten_cons, List.flatten_nil, List.append_nil]
  obtain ⟨r0, r1⟩ := ck_range (zeroed bs k)
  have hl3 : (zeroed bs k).length = bs.length := by simp [zeroed]
  have e1 : ∀ (i : Int), 0 ≤ i → i < 256 → ∀ l j, (u8s l).set j (.int .u8 i) = u8s (l.set j (u8of i)) := fun i h0 h1 l j => by
    have h := u8s_set l j (u8of i)
    rw [u8of_toNat h0 h1] at h
    exact h
  have hown4 := own_set (own_set H3.out k (.int .u8 (ck (zeroed bs k) / 256))) (k + 1) (.int .u8 (ck (zeroed bs k) % 256))
  rw [e1 _ (by omega) (by omega), e1 _ (by omega) (by omega)] at hown4
  have H4 : Hid (((W3.setCell ⟨g, k, none⟩ (.int .u8 (ck (zeroed bs k) / 256))).setCell ⟨g, k + 1, none⟩ (.int .u8 (ck (zeroed bs k) % 256))).ownsRow w.heap.size 5 1 (.slice (some ⟨g, 0, none⟩) bs.length cap) bs.length (u8s (sealed bs k))) := hown4
  obtain ⟨y1, d1, _⟩ := own_some H3.out k (by omega)
  obtain ⟨y2, d2, _⟩ := own_some H3.out (k + 1) (by omega)
  have g1 := H3.out.frozenAt k
  have g2 := H3.out.frozenAt (k + 1)
  clear hown4 e1 e0 hf3 hrd hbk c1 c2 f1 f2 hf1
  generalize hn : ck (zeroed bs k) = n at *
  have HN := Lib.hid hn
  clear hn
  go_wp2
  go_ret2
  exact ⟨_, rfl, H4.out, (HF3.out.setCell (fun h => by have : g < w.heap.size := h; omega) _).setCell (fun h => by have : g < w.heap.size := h; omega) _⟩

/-- A sum that is not there: nil, or one that no call made. -/
def NoAd (w : World) (v : Value) : Prop := v = .pointer none ∨ ∃ b i h s, v = .pointer (some ⟨b, 0, none⟩) ∧ w.heap[b]? = some (.cells #[i, h, s, .bool false] 52 (0, 0))
theorem none_yes (v : Value) (w : World) (h : NoAd w v) : Calls Try.prog 30 #[v] w fun e w' => e = .returned (.bool true) ∧ w = w' := by
  rcases h with rfl | ⟨b, i, h, s, rfl, hb⟩
  · go_enter Try.func30, Try.ntmps30
    go_wp2
    go_ret
    exact ⟨rfl, rfl⟩
  · have h3 : w.cell? ⟨b, 3, none⟩ = some (.bool false) := cell_of_blk hb 3
    go_enter Try.func30, Try.ntmps30
    go_wp2
    go_ret
    exact ⟨rfl, rfl⟩
theorem write_none (v x : Value) (A : Option Addr) (m c : Nat) (w : World) (h : NoAd w v) : Calls Try.prog 23 #[v, .slice A m c] w fun e w' => e = .returned (.int .i64 1) ∧ w = w' := by
  have H := Lib.hid h
  clear h
  go_enter Try.func23, Try.ntmps23
  go_wp2_with fail
  refine wp_scope_fwd 0 rfl ?_
  go_wp2_with (go_at_call 30; refine (none_yes v w H.out).mono ?_; rintro e w' ⟨rfl, rfl⟩)
  apply wp_goto
  refine And.intro rfl ?_
  show Code.wp _ _ _ _ _
  go_wp2
  rw [Exit.noGoto_ret]
  go_ret
  exact ⟨rfl, rfl⟩
theorem asum_none (v : Value) (w : World) (h : NoAd w v) : Calls Try.prog 24 #[v] w fun e w' => e = .returned (.int .u16 0) ∧ w = w' := by
  have H := Lib.hid h
  clear h
  go_enter Try.func24, Try.ntmps24
  go_wp2_with (go_at_call 30; refine (none_yes v w H.out).mono ?_; rintro e w' ⟨rfl, rfl⟩)
  go_ret
  exact ⟨rfl, rfl⟩
theorem copy_none (v : Value) (w : World) (h : NoAd w v) : Calls Try.prog 20 #[v] w fun e w' => e = .returned (.pointer none) ∧ w = w' := by
  have H := Lib.hid h
  clear h
  go_enter Try.func20, Try.ntmps20
  go_wp2_with (go_at_call 30; refine (none_yes v w H.out).mono ?_; rintro e w' ⟨rfl, rfl⟩)
  go_ret
  exact ⟨rfl, rfl⟩
end Go.Proofs.Ytkggkbcnlpjbjaa
