/- Chapter 24: the statement PoolOwn walked. -/
import Derived.Test.YtbhdkpcakjookaaPoR
set_option linter.unusedVariables false
set_option linter.unusedSimpArgs false
namespace Go.Proofs.Ytbhdkpcakjookaa
open Go.RowKit
attribute [local go_sem] Oper.semAt_some

theorem new_pool {B b : Nat} {most last : Int} {w w' : World} {L : List Rm} {g : Nat} (h : NewRows B b most last w L) (hm : 1 ≤ most ∧ most ≤ 4096) (hf : Fr (fun k => k = g) w w') (hg : g < B) (hb : g ≠ b) : IsPool w' b most last L := by
  obtain ⟨A, c, h1, h2, h3, h4⟩ := h
  have hs : ∀ k, k = g → k < B := fun k e => by omega
  refine ⟨⟨A, c, hf.blk h1 (fun e => hb e.symm), ?_⟩, hm⟩
  exact ⟨((h3.mono (fun k _ e => hs k e)).kept hf).mono (fun _ _ h => h.elim), fun r hr => ⟨(((h4 r hr).mono (fun k _ e => hs k e)).kept hf).mono (fun _ _ h => h.elim), (h2.ok r hr).nil, (h2.ok r hr).len⟩, h2.len, h2.nil, h2.most⟩
theorem pw_peekF {w0 w : World} {b : Nat} {most last : Int} {ms : List Msg} (hp : Pw w0 w b most last ms) (p : Int) (n : Nat) (m : Msg) (hl : 0 < ms.length) (hpb : -9223372036854775808 ≤ p ∧ p ≤ 9223372036854775807) (hn : rnd p ms.length = n) (hm : ms[n]? = some m) :
    Calls Try.prog 14 #[.pointer (some ⟨b, 0, none⟩), .int .i64 p] w (PeekPost m 0 w) := by
  obtain ⟨L, h1, rfl, h3, h4⟩ := hp
  subst hn
  have hl' : 0 < L.length := by simpa using hl
  have hlt := rnd_lt p _ hl'
  obtain rfl : (L[rnd p L.length]'hlt).m = m := by
    simp only [msgs, List.length_map, List.getElem?_map, List.getElem?_eq_getElem hlt, Option.map_some, Option.some.injEq] at hm
    exact hm
  exact peek_fr b most last L p w h1 hl' hpb
theorem pw_list {w0 w : World} {b : Nat} {most last : Int} {ms : List Msg} (hp : Pw w0 w b most last ms) : Calls Try.prog 15 #[.pointer (some ⟨b, 0, none⟩)] w (ListPost ms w) := by
  obtain ⟨L, h1, rfl, h3, h4⟩ := hp
  exact list_calls b most last L w h1
set_option maxRecDepth 100000 in
set_option maxHeartbeats 4000000 in
theorem pown_walk (A : Option Addr) (c : Nat) (bs : List UInt8) (w : World) (hR : Rd (fun _ => False) w A (u8s bs)) (hl : bs.length ≤ 140737488351232) :
    Calls Try.prog 4 #[.slice A bs.length c] w (Yes w) := by
  have HKN := Lib.hid known24_calls
  rcases Nat.eq_zero_or_pos bs.length with h0 | h0
  · have hq : (bs.length : Int) < 1 := by omega
    clear h0
    obtain rfl : bs = [] := List.length_eq_zero_iff.1 (by omega)
    go_enter Try.func4, Try.ntmps4
    go_wp2_with (go_at_call 9; refine (HKN.out _).mono ?_; rintro e w' ⟨rfl, hf⟩)
    go_ret
    exact ⟨rfl, hf⟩
  by_cases hn : bs.length ≤ 4096
  · have hg : ¬ (4096 : Int) < (bs.length : Int) := by omega
    have hg1 : ¬ (bs.length : Int) < 1 := by omega
    have hg2 : (0 : Int) < (bs.length : Int) := by omega
    have HBS := Lib.hid (BArg.of_rd hR (by omega))
    clear hR
    go_enter Try.func4, Try.ntmps4
    go_wp2_with fail
    refine (pnew_calls 3 w (by decide)).mono ?_
    rintro e W1 ⟨⟨b, rfl, hb1, hp1⟩, hf1⟩
    have HP1 := Lib.hid hp1
    have HF1 := Lib.hid hf1
    have HB1 := Lib.hid (HBS.out.kept hf1)
    have HLB := Lib.hid hb1
    clear hp1 hf1 hb1
    go_wp2_with (at_builtin; refine wpList_app rfl (.const (.slice none 0 0)) (.tmp 26) _ rfl Try.underlying22 u8_elem (base := W1.heap.size) (.slice none 0 0) 0 [] rfl (own_nil _ _ _ _) (fun _ => False) A bs.length c (u8s bs) rfl HB1.out.rd (by rw [u8s_length, Nat.mul_one]) (u8s_one bs) (by simp only [maxLen]; omega) (by omega) (Nat.le_refl _) (fun e => by rw [HB1.out.nil e]; rfl) ?_; intro v W2 hown hgr hat; rw [Nat.zero_add, List.nil_append] at hown; obtain ⟨g, cm, rfl, hgb, hgl⟩ := hown.form h0; have HO2 := Lib.hid hown; have HF2 := Lib.hid ((Fr.refl (fun _ => False) W1).grown hgr (fun k _ e => by simp [Value.ownBlock] at e)); have HG := Lib.hid (And.intro hgb hgl); clear hown hgr hat hgb hgl)
    have HBA2 := Lib.hid (BArg.own HO2.out (by omega))
    refine (put_ok2 b 3 0 [] 0 0 _ cm bs W2 (HP1.out.kept HF2.out) (by decide) HBA2.out hn (by decide) (by decide)).mono ?_
    rintro e W3 ⟨⟨L3, rfl, hp3, hm3, hn3⟩, hf3⟩
    obtain ⟨_, sp2, hx2⟩ := own_row' HO2.out
    have hbl : b < W1.heap.size := by obtain ⟨A', c', hb', _⟩ := HP1.out.ex; exact lt_of_block hb'
    have hgne : g ≠ b := by have := HG.out.1; omega
    have hx3 := hf3.blk hx2 hgne
    have c3 := cell_of_blk hx3 0
    have f3 := free_of_blk hx3 0
    obtain ⟨y, ys, hys⟩ : ∃ y ys, bs = y :: ys := by
      cases bs with
      | nil => exact absurd h0 (by decide)
      | cons y ys => exact ⟨y, ys, rfl⟩
    have HYS := Lib.hid hys
    clear hys
    have c3' : W3.cell? ⟨g, 0, none⟩ = some (.int .u8 (y.toNat : Int)) := by rw [c3, HYS.out]; simp [u8s]
    have HPW4 := Lib.hid (fun v' => show Pw w (W3.setCell ⟨g, 0, none⟩ v') b 3 1 [⟨1, 0, 0, bs⟩] from by
      have hfs := (Fr.refl (fun k => k = g) W3).setCell (p := ⟨g, 0, none⟩) (fun _ => rfl) v'
      refine ⟨L3, new_pool (hn3 rfl) (by decide) hfs HG.out.2 hgne, by rw [hm3]; rfl, by have := HLB.out; omega, ?_⟩
      refine (Fr0.of_new (HF1.out.trans HF2.out) HLB.out hf3).then hfs (fun i hi e => ?_)
      have := HF1.out.size; have := HG.out.1; omega)
    clear c3 hx3 hx2 hn3 hp3 hm3 hf3
    go_wp2_with fail
    generalize hW4 : W3.setCell ⟨g, 0, none⟩ _ = W4 at *
    have H4 := Lib.hid (show Pw w W4 b 3 1 [⟨1, 0, 0, bs⟩] by rw [← hW4]; exact HPW4.out _)
    clear hW4 HPW4 c3' f3
    refine (pw_peekF H4.out 0 0 ⟨1, 0, 0, bs⟩ (by simp) (by decide) rfl rfl).mono ?_
    rintro e W5 ⟨⟨A5, c5, rfl, ho5⟩, hf5⟩
    obtain ⟨g5, cm5, hv5, hg5, hl5⟩ := ho5.form h0
    injection hv5 with hA5 hm5 hc5
    subst hA5 hc5
    have hfa := (Fr.refl (fun _ => False) W5).alloc (.cells (rmc ⟨⟨1, 0, 0, bs⟩, some ⟨g5, 0, none⟩, c5⟩).toArray 31)
    have H5 := Lib.hid ((H4.out.kept hf5).kept hfa)
    have s0 := (HBS.out.kept H5.out.fr).str c
    have s5 := ((BArg.own ho5 (by show bs.length ≤ _; omega)).kept hfa).str c5
    obtain ⟨⟨x0, x1, x2, x3⟩, _⟩ := m_cells (heap_alloc_new W5 (.cells (rmc ⟨⟨1, 0, 0, bs⟩, some ⟨g5, 0, none⟩, c5⟩).toArray 31))
    obtain ⟨_, sp5, hx5⟩ := own_row' ho5
    have hx5' := hfa.blk hx5 (fun h => h)
    have d5 := cell_of_blk hx5' 0
    have f5 := free_of_blk hx5' 0
    have d5' : (W5.alloc (.cells (rmc ⟨⟨1, 0, 0, bs⟩, some ⟨g5, 0, none⟩, c5⟩).toArray 31)).cell? ⟨g5, 0, none⟩ = some (.int .u8 (y.toNat : Int)) := by rw [d5]; simp [HYS.out, u8s]
    have e1 : ((str bs).toList == (str bs).toList) = true := by rw [str_beq]; simp
    have HFR := Lib.hid (fun v' => show Fr0 W4 ((W5.alloc (.cells (rmc ⟨⟨1, 0, 0, bs⟩, some ⟨g5, 0, none⟩, c5⟩).toArray 31)).setCell ⟨g5, 0, none⟩ v') from
      (hf5.trans hfa).setCell (p := ⟨g5, 0, none⟩) (fun h => by have h2 : g5 < W4.heap.size := h; omega) v')
    clear d5 hx5 hx5' hfa ho5 hf5
    go_upto_region 8 with fail
    generalize W5.alloc (.cells (rmc ⟨⟨1, 0, 0, bs⟩, some ⟨g5, 0, none⟩, c5⟩).toArray 31) = W6 at *
    go_wp2_with fail
    generalize hW7 : W6.setCell ⟨g5, 0, none⟩ _ = W7 at *
    have H7 := Lib.hid (show Pw w W7 b 3 1 [⟨1, 0, 0, bs⟩] from H4.out.kept (by rw [← hW7]; exact HFR.out _))
    clear hW7 HFR s0 s5 x0 x1 x2 x3 f5 d5'
    refine (pw_list H7.out).mono ?_
    rintro e W8 ⟨⟨u8, M, rfl, ho8, hm8, hok8, _⟩, hf8⟩
    obtain ⟨r, rfl⟩ : ∃ r, M = [r] := List.length_eq_one_iff.1 (by have := congrArg List.length hm8; simpa [msgs] using this)
    obtain ⟨rm, rA, rc⟩ := r
    obtain rfl : rm = ⟨1, 0, 0, bs⟩ := by simpa [msgs] using hm8
    obtain ⟨q8, cq8, rfl, hq8, _⟩ := ho8.form (by simp)
    obtain ⟨x0, x1, x2, x3⟩ := rd_rm (l := [⟨⟨1, 0, 0, bs⟩, rA, rc⟩]) (own_rd (fun _ => False) ho8 (fun _ _ _ h => h)) 0 (by simp)
    simp only [Nat.zero_mul, Nat.zero_add, List.getElem_cons_zero] at x0 x1 x2 x3
    obtain ⟨hba8, hbb8⟩ := hok8 _ (List.mem_singleton.2 rfl)
    obtain ⟨b8, o8, cs8, hA8, hB8, hbk8⟩ : ∃ b off cs, rA = some ⟨b, off, none⟩ ∧ W7.heap.size ≤ b ∧ W8.heap[b]? = some (.cells cs 5 (0, 0)) := by
      rcases hbb8 with h | h
      · exfalso; have h2 : bs = [] := h; rw [h2] at h0; exact absurd h0 (by decide)
      · exact h
    subst hA8
    have H8 := Lib.hid (H7.out.kept hf8)
    have s0 : ∀ k, (convert 22 9 (.slice A bs.length c)).run Try.prog (W8.drewN k) = .ok (.string (str bs)) (W8.drewN k) := fun k => ((HBS.out.kept H8.out.fr).kept ((Fr.refl _ W8).drewN k)).str c
    have s8 : ∀ k, (convert 22 9 (.slice (some ⟨b8, o8, none⟩) bs.length rc)).run Try.prog (W8.drewN k) = .ok (.string (str bs)) (W8.drewN k) := fun k => (hba8.kept ((Fr.refl _ W8).drewN k)).str rc
    have d8 : W8.cell? ⟨b8, o8, none⟩ = some (.int .u8 (y.toNat : Int)) := by
      have := hba8.rd.at_ 0 (by simpa [u8s] using h0)
      simpa [HYS.out, u8s] using this
    have f8 := free_of_blk hbk8 o8
    have HFR := Lib.hid (fun k v' => show Fr0 W7 ((W8.drewN k).setCell ⟨b8, o8, none⟩ v') from (hf8.drewN k).setCell (p := ⟨b8, o8, none⟩) (fun h => by have h2 : b8 < W7.heap.size := h; omega) v')
    clear ho8 hm8 hok8 hbb8 hbk8 hf8 hq8 hba8
    go_wp2_with fail
    go_quiet (fail)
    go_wp2_with fail
    generalize hW9 : (W8.drewN nq).setCell ⟨b8, o8, none⟩ _ = W9 at *
    have H9 := Lib.hid (show Pw w W9 b 3 1 [⟨1, 0, 0, bs⟩] from H7.out.kept (by rw [← hW9]; exact HFR.out _ _))
    clear hW9 HFR s0 s8 x0 x1 x2 x3 f8 d8
    refine (pw_take H9.out 0 0 ⟨1, 0, 0, bs⟩ (by simp) (by decide) rfl rfl [] rfl).mono ?_
    rintro e W10 ⟨⟨A10, c10, rfl, hb10, _⟩, h10, hf10⟩
    have hfa := (Fr.refl (fun _ => False) W10).alloc (.cells (rmc ⟨⟨1, 0, 0, bs⟩, A10, c10⟩).toArray 31)
    have HF := Lib.hid (h10.kept hfa).fr
    have s0 := (HBS.out.kept HF.out).str c
    have s5 := (hb10.kept hfa).str c10
    obtain ⟨⟨z0, z1, z2, z3⟩, _⟩ := m_cells (heap_alloc_new W10 (.cells (rmc ⟨⟨1, 0, 0, bs⟩, A10, c10⟩).toArray 31))
    clear h10 hf10 hfa hb10
    go_upto_region 16 with fail
    generalize W10.alloc (.cells (rmc ⟨⟨1, 0, 0, bs⟩, A10, c10⟩).toArray 31) = W11 at *
    go_wp2_with (go_at_call 9; refine (HKN.out _).mono ?_; rintro e w' ⟨rfl, hf⟩)
    go_ret
    exact ⟨rfl, HF.out.trans hf⟩
  · have hg : (4096 : Int) < (bs.length : Int) := by omega
    have hg1 : ¬ (bs.length : Int) < 1 := by omega
    go_enter Try.func4, Try.ntmps4
    go_wp2_with (go_at_call 9; refine (HKN.out _).mono ?_; rintro e w' ⟨rfl, hf⟩)
    go_ret
    exact ⟨rfl, hf⟩
end Go.Proofs.Ytbhdkpcakjookaa
