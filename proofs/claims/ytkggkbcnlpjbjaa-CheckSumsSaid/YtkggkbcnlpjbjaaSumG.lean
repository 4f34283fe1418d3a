/- The reference's Seal, and the helpers of CheckSums. -/
import Derived.Test.YtkggkbcnlpjbjaaSumF
set_option linter.unusedVariables false
set_option linter.unusedSimpArgs false
namespace Go.Proofs.Ytkggkbcnlpjbjaa
open Go.RowKit

theorem rseal_no (A : Option Addr) (c : Nat) (n : Nat) (i : Int) (w : World) (h : i < 0 ∨ i % 2 = 1 ∨ (n : Int) - 2 < i) (hi : -9223372036854775808 ≤ i) (hi2 : i ≤ 9223372036854775807) (hn : n ≤ maxLen) :
    Calls Try.prog 12 #[.slice A n c, .int .i64 i] w fun e w' => e = .returned (.tuple #[.slice none 0 0, .bool false]) ∧ w = w' := by
  unfold maxLen at hn
  by_cases h0 : i < 0
  · have hd : decide (i < 0) = true := by simp <;> omega
    clear h
    go_enter Try.func12, Try.ntmps12
    go_wp2
    go_ret2
    exact ⟨rfl, rfl⟩
  · have hd : decide (i < 0) = false := by simp <;> omega
    have h1 : 0 ≤ i := by omega
    by_cases h2 : i % 2 = 1
    · have hm : (i % 2 != 0) = true := by simp <;> omega
      clear h
      go_enter Try.func12, Try.ntmps12
      go_wp2
      go_ret2
      exact ⟨rfl, rfl⟩
    · have hm : (i % 2 != 0) = false := by simp <;> omega
      have h3 : (n : Int) - 2 < i := by omega
      clear h
      go_enter Try.func12, Try.ntmps12
      go_wp2
      go_ret2
      exact ⟨rfl, rfl⟩

set_option maxHeartbeats 1000000 in
theorem rseal_yes (A : Option Addr) (c : Nat) (bs : List UInt8) (k : Nat) (w : World) (hR : Rd (fun _ => False) w A (u8s bs)) (hk : k % 2 = 0) (hk2 : k + 2 ≤ bs.length) (hl : bs.length ≤ 140737488351232) :
    Calls Try.prog 12 #[.slice A bs.length c, .int .i64 k] w fun e w' => ∃ v, e = .returned (.tuple #[v, .bool true]) ∧ w'.ownsRow w.heap.size 5 1 v bs.length (u8s (sealed bs k)) ∧ Fr0 w w' := by
  have HR := Lib.hid hR
  clear hR
  have hd : decide ((k : Int) < 0) = false := decide_eq_false (by omega)
  have hm : ((k : Int) % 2 != 0) = false := by simp; omega
  have hAn : A = none → bs.length = 0 := by
    intro e
    rcases HR.out with h | ⟨_, _, h, _⟩
    · simpa [u8s] using h
    · rw [h] at e; cases e
  have HAN := Lib.hid hAn
  have HL := Lib.hid (show (u8s bs).length = bs.length * 1 by rw [u8s_length, Nat.mul_one])
  clear hAn
  go_enter Try.func12, Try.ntmps12
  go_wp2_with (at_builtin; refine wpList_app rfl (.const (.slice none 0 0)) (.tmp 22) _ rfl Try.underlying22 u8_elem (base := w.heap.size) (.slice none 0 0) 0 [] rfl (own_nil _ _ _ _) (fun _ => False) A bs.length c (u8s bs) rfl HR.out HL.out (u8s_one bs) (by simp only [maxLen]; omega) (by omega) (Nat.le_refl _) HAN.out ?_; intro v w1 hown hg hat; rw [Nat.zero_add, List.nil_append] at hown; obtain ⟨g, cap, rfl, hg0, hglt⟩ := hown.form (by omega); obtain ⟨x1, c1, _⟩ := own_some hown k (by omega); obtain ⟨x2, c2, _⟩ := own_some hown (k + 1) (by omega); have f1 := hown.frozenAt k; have f2 := hown.frozenAt (k + 1); have hf1 : Fr0 w w1 := (Fr.refl _ w).grown hg (by simp [Value.ownBlock]); have HO := Lib.hid hown; have HG := Lib.hid hf1; clear hg hat hown hf1)
  have e0 : ∀ l j, (u8s l).set j (.int .u8 0) = u8s (l.set j 0) := fun l j => u8s_set l j 0
  have hown2 := own_set (own_set HO.out k (.int .u8 0)) (k + 1) (.int .u8 0)
  rw [e0, e0] at hown2
  have hfr2 : Fr0 w ((w1.setCell ⟨g, k, none⟩ (.int .u8 0)).setCell ⟨g, k + 1, none⟩ (.int .u8 0)) := (HG.out.setCell (fun h => by have : g < w.heap.size := h; omega) _).setCell (fun h => by have : g < w.heap.size := h; omega) _
  have H2 := Lib.hid hown2
  have HF2 := Lib.hid hfr2
  clear hown2 hfr2
  generalize (w1.setCell ⟨g, k, none⟩ (.int .u8 0)).setCell ⟨g, k + 1, none⟩ (.int .u8 0) = W2 at *
  have hl3 : (zeroed bs k).length = bs.length := by simp [zeroed]
  have hs := rsum_calls (some ⟨g, 0, none⟩) cap (zeroed bs k) W2 (own_rd _ H2.out (fun _ _ _ h => h)) (by omega)
  rw [hl3] at hs
  refine hs.mono ?_
  rintro e W3 ⟨rfl, rfl⟩
  obtain ⟨r0, r1⟩ := ck_range (zeroed bs k)
  have e1 : ∀ (i : Int), 0 ≤ i → i < 256 → ∀ l j, (u8s l).set j (.int .u8 i) = u8s (l.set j (u8of i)) := fun i h0 h1 l j => by
    have h := u8s_set l j (u8of i)
    rw [u8of_toNat h0 h1] at h
    exact h
  have hown4 := own_set (own_set H2.out k (.int .u8 (ck (zeroed bs k) / 256))) (k + 1) (.int .u8 (ck (zeroed bs k) % 256))
  rw [e1 _ (by omega) (by omega), e1 _ (by omega) (by omega)] at hown4
  have H4 : Hid (((W2.setCell ⟨g, k, none⟩ (.int .u8 (ck (zeroed bs k) / 256))).setCell ⟨g, k + 1, none⟩ (.int .u8 (ck (zeroed bs k) % 256))).ownsRow w.heap.size 5 1 (.slice (some ⟨g, 0, none⟩) bs.length cap) bs.length (u8s (sealed bs k))) := hown4
  obtain ⟨y1, d1, _⟩ := own_some H2.out k (by omega)
  obtain ⟨y2, d2, _⟩ := own_some H2.out (k + 1) (by omega)
  have g1 := H2.out.frozenAt k
  have g2 := H2.out.frozenAt (k + 1)
  clear hown4 e1 e0 hs c1 c2 f1 f2 hl3
  generalize hn : ck (zeroed bs k) = n at *
  have HN := Lib.hid hn
  clear hn
  go_wp2
  go_ret2
  exact ⟨_, rfl, H4.out, (HF2.out.setCell (fun h => by have : g < w.heap.size := h; omega) _).setCell (fun h => by have : g < w.heap.size := h; omega) _⟩

/-- The first parts that are few and short enough: none where one is too long, or they are too many. -/
def fine (l : List (List UInt8)) : Bool := (List.range l.length).all fun i => (l.getD i []).length ≤ 3000 && decide (i < 20) && (l.take i).flatten.length ≤ 3000

def JoinedPost (l : List (List UInt8)) (w : World) (e : Ending) (w' : World) : Prop :=
  (∃ v, e = .returned (.tuple #[v, .bool (decide ((l.flatten.length : Int) ≤ 3000))]) ∧ fine l = true ∧ w'.ownsRow w.heap.size 5 1 v l.flatten.length (u8s l.flatten) ∧ Fr0 w w') ∨
  (∃ v, e = .returned (.tuple #[v, .bool false]) ∧ fine l = false ∧ Fr0 w w')
theorem fine_succ (l : List (List UInt8)) (k : Nat) (hk : k < l.length) (h : fine (l.take k) = true) : fine (l.take (k + 1)) = true ↔ (l[k].length ≤ 3000 ∧ k < 20 ∧ (l.take k).flatten.length ≤ 3000) := by
  unfold fine at *
  rw [List.length_take, Nat.min_eq_left (by omega)] at *
  rw [List.range_succ, List.all_append, Bool.and_eq_true]
  constructor
  · rintro ⟨_, h2⟩
    simp [List.getD, hk, List.take_take] at h2
    exact ⟨h2.1.1, h2.1.2, by simpa using h2.2⟩
  · rintro ⟨h1, h2, h3⟩
    refine ⟨?_, by simp [List.getD, hk, List.take_take, h1, h2]; simpa using h3⟩
    rw [List.all_eq_true] at h ⊢
    intro i hi
    have hi' := List.mem_range.1 hi
    have := h i hi
    simpa [List.getD, List.getElem?_take, hi', Nat.lt_succ_of_lt hi', List.take_take, Nat.min_eq_left (Nat.le_of_lt hi'), Nat.min_eq_left (show i ≤ k + 1 by omega)] using this
theorem fine_no (l : List (List UInt8)) (k : Nat) (hk : k < l.length) (h : ¬ (l[k].length ≤ 3000 ∧ k < 20 ∧ (l.take k).flatten.length ≤ 3000)) : fine l = false := by
  unfold fine
  rw [List.all_eq_false]
  refine ⟨k, List.mem_range.2 hk, ?_⟩
  simp only [List.getD, hk, List.getElem?_eq_getElem, Option.getD_some, Bool.and_eq_true, decide_eq_true_eq]
  omega

set_option maxHeartbeats 1000000 in
theorem joined_calls (A : Option Addr) (c : Nat) (l : List (List UInt8)) (w : World) (hR : RdBB (fun _ => False) w (.slice A l.length c) l) (hl : l.length ≤ 140737488351232) (hp : ∀ p ∈ l, p.length ≤ 140737488351232) :
    Calls Try.prog 18 #[.slice A l.length c] w (JoinedPost l w) := by
  obtain ⟨A', c', vs, e, hvl, hA, hrows⟩ := hR
  cases e
  have HV := Lib.hid hvl
  have HA := Lib.hid hA
  have HR := Lib.hid hrows
  have HP := Lib.hid hp
  clear hvl hA hrows hp
  go_enter Try.func18, Try.ntmps18
  go_wp2
  go_loopw [4, 5] (fun v i wr => ∃ (k : Nat), k ≤ l.length ∧ k ≤ 20 ∧ i = .int .i64 k ∧ Hid (fine (l.take k) = true) ∧ Hid (wr.ownsRow w.heap.size 5 1 v (l.take k).flatten.length (u8s (l.take k).flatten)) ∧ (l.take k).flatten.length ≤ 6000 ∧ Hid (Fr0 w wr)) (fun _ i _ => l.length - (intOf i).toNat)
  case atStart => exact ⟨0, by omega, by omega, rfl, rfl, own_nil _ _ _ _, by simp, Fr.refl _ _⟩
  case round =>
    obtain ⟨k, hk, hk20, rfl, HI, HO, hlen, HF⟩ := hrel
    obtain ⟨A2, c2, rfl, _, _⟩ := own_form HO.out
    by_cases hlt : k < l.length
    · have hA' := HA.out.kept HF.out
      have hvl := HV.out
      obtain ⟨b, off, rfl⟩ := hA'.some_ (by omega)
      have hc := hA'.at_ k (by omega)
      obtain ⟨A1, c1, e1, hA1⟩ := (HR.out k (by omega) hlt).kept HF.out
      rw [e1] at hc
      have hpl := HP.out _ (List.getElem_mem hlt)
      have htk := (flatten_at l k hlt).2
      have htk2 : l.take (k + 1) = l.take k ++ [l[k]] := List.take_succ_eq_append_getElem hlt
      have hfin : fine (l.take (k + 1)) = true ↔ (l[k].length ≤ 3000 ∧ k < 20 ∧ (l.take k).flatten.length ≤ 3000) := fine_succ l k hlt HI.out
      have hno : ¬ (l[k].length ≤ 3000 ∧ k < 20 ∧ (l.take k).flatten.length ≤ 3000) → fine l = false := fine_no l k hlt
      generalize l[k] = row at *
      have HT := Lib.hid htk
      have HN := Lib.hid hno
      have HFI := Lib.hid hfin
      have HA1 := Lib.hid hA1
      have HU : Hid ((u8s row).length = row.length * 1) := by rw [u8s_length, Nat.mul_one]; rfl
      have hA1n : A1 = none → row.length = 0 := by
        intro e
        rcases hA1 with h | ⟨_, _, h, _⟩
        · simpa [u8s] using h
        · rw [h] at e; cases e
      have HAN := Lib.hid hA1n
      generalize hpre : (l.take k).flatten = pre at *
      clear e1 hA' htk htk2 hfin hno hA1 hA1n hvl hpre
      by_cases h1 : row.length ≤ 3000
      · by_cases h2 : k < 20
        · by_cases h3 : pre.length ≤ 3000
          · go_wp2_with (at_builtin; refine wpList_app rfl (.tmp 27) (.tmp 31) _ rfl Try.underlying22 u8_elem (base := w.heap.size) (.slice A2 pre.length c2) pre.length (u8s pre) rfl HO.out (fun _ => False) A1 row.length c1 (u8s row) rfl HA1.out HU.out (u8s_one row) (by simp only [maxLen]; omega) (by omega) HF.out.size HAN.out ?_; intro v' w1 hown hg hat; have HO1 := Lib.hid hown; have HG1 := Lib.hid hg; clear hown hg hat)
            go_roundw
            case rel =>
              refine ⟨k + 1, by omega, by omega, by go_num, HFI.out.2 ⟨h1, h2, h3⟩, ?_, ?_, ?_⟩
              · rw [HT.out]
                have := HO1.out
                rwa [← List.length_append, show u8s pre ++ u8s row = u8s (pre ++ row) by simp [u8s]] at this
              · rw [HT.out, List.length_append]; omega
              · refine HF.out.grown HG1.out (fun g hg e => ?_)
                have := (HO.out.lt g e).1
                omega
            case measure => simp [intOf]; omega
          · have h3' : 3000 < pre.length := by omega
            go_wp2
            go_ret2
            exact .inr ⟨_, rfl, HN.out (by omega), HF.out⟩
        · have h2' : 20 ≤ k := by omega
          go_wp2
          go_ret2
          exact .inr ⟨_, rfl, HN.out (by omega), HF.out⟩
      · have h1' : 3000 < row.length := by omega
        go_wp2
        go_ret2
        exact .inr ⟨_, rfl, HN.out (by omega), HF.out⟩
    · have hk2 : k = l.length := by omega
      subst hk2
      have hI := HI.out
      have hO := HO.out
      rw [List.take_length] at *
      have HP : Hid (∀ w' : World, ∀ v, Hid (fine l = true) → Hid (w'.ownsRow w.heap.size 5 1 v l.flatten.length (u8s l.flatten)) → Hid (Fr0 w w') → JoinedPost l w (.returned (.tuple #[v, .bool (decide ((l.flatten.length : Int) ≤ 3000))])) w') := fun w' v h1 h2 h3 => .inl ⟨v, rfl, h1, h2, h3⟩
      clear hI hO
      generalize hfl : l.flatten = fl at *
      clear hfl
      go_wp2
      go_ret2
      exact HP.out _ _ HI HO HF


set_option maxHeartbeats 1000000 in
theorem firsts_calls (A : Option Addr) (c : Nat) (l : List (List UInt8)) (n : Nat) (w : World) (hR : RdBB (fun _ => False) w (.slice A l.length c) l) (hn : n ≤ l.length) (hl : l.length ≤ 140737488351232) (hf : l.flatten.length ≤ 140737488351232) :
    Calls Try.prog 22 #[.slice A l.length c, .int .i64 n] w fun e w' =>
      ∃ v, e = .returned v ∧ w'.ownsRow w.heap.size 5 1 v (l.take n).flatten.length (u8s (l.take n).flatten) ∧ Fr0 w w' := by
  obtain ⟨A', c', vs, e, hvl, hA, hrows⟩ := hR
  cases e
  have HV := Lib.hid hvl
  have HA := Lib.hid hA
  have HR := Lib.hid hrows
  have HL := Lib.hid hf
  clear hvl hA hrows hf
  go_enter Try.func22, Try.ntmps22
  go_wp2
  go_loopw [5, 6] (fun v i wr => ∃ (k : Nat), k ≤ n ∧ i = .int .i64 k ∧ Hid (wr.ownsRow w.heap.size 5 1 v (l.take k).flatten.length (u8s (l.take k).flatten)) ∧ Hid (Fr0 w wr)) (fun _ i _ => n - (intOf i).toNat)
  case atStart => exact ⟨0, by omega, rfl, own_nil _ _ _ _, Fr.refl _ _⟩
  case round =>
    obtain ⟨k, hk, rfl, HO, HF⟩ := hrel
    by_cases hlt : k < n
    · have hA' := HA.out.kept HF.out
      have hvl := HV.out
      have hkl : k < l.length := by omega
      obtain ⟨b, off, rfl⟩ := hA'.some_ (by omega)
      have hc := hA'.at_ k (by omega)
      obtain ⟨A1, c1, e1, hA1⟩ := (HR.out k (by omega) hkl).kept HF.out
      rw [e1] at hc
      have htk := flatten_at l k hkl
      have hle : (l.take k).flatten.length + l[k].length ≤ 140737488351232 := by
        have := HL.out
        rw [htk.1, List.length_append, List.length_append] at this
        omega
      have htk := htk.2
      generalize l[k] = row at *
      have HT := Lib.hid htk
      have HA1 := Lib.hid hA1
      have HU : Hid ((u8s row).length = row.length * 1) := by rw [u8s_length, Nat.mul_one]; rfl
      have hA1n : A1 = none → row.length = 0 := by
        intro e
        rcases hA1 with h | ⟨_, _, h, _⟩
        · simpa [u8s] using h
        · rw [h] at e; cases e
      have HAN := Lib.hid hA1n
      generalize hpre : (l.take k).flatten = pre at *
      clear e1 hA' htk hA1 hA1n hvl hpre
      go_wp2_with (at_builtin; refine wpList_app rfl (.tmp 12) (.tmp 16) _ rfl Try.underlying22 u8_elem (base := w.heap.size) u5 pre.length (u8s pre) rfl HO.out (fun _ => False) A1 row.length c1 (u8s row) rfl HA1.out HU.out (u8s_one row) (by simp only [maxLen]; omega) (by omega) HF.out.size HAN.out ?_; intro v' w1 hown hg hat; have HO1 := Lib.hid hown; have HG1 := Lib.hid hg; clear hown hg hat)
      go_roundw
      case rel =>
        refine ⟨k + 1, by omega, by go_num, ?_, ?_⟩
        · rw [HT.out]
          have := HO1.out
          rwa [← List.length_append, show u8s pre ++ u8s row = u8s (pre ++ row) by simp [u8s]] at this
        · refine HF.out.grown HG1.out (fun g hg e => ?_)
          have := (HO.out.lt g e).1
          omega
      case measure => simp [intOf]; omega
    · have hk2 : k = n := by omega
      subst hk2
      go_wp2
      go_ret
      exact ⟨_, rfl, HO.out, HF.out⟩
end Go.Proofs.Ytkggkbcnlpjbjaa
