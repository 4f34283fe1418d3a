/- Chapter 15: the document's Put, where the packet may be. -/
import Derived.Test.YtfiiikgjgcnjgaaFfN
set_option linter.unusedVariables false
set_option linter.unusedSimpArgs false
namespace Go.Proofs.Ytfiiikgjgcnjgaa
open Go.RowKit

set_option maxHeartbeats 1000000 in
theorem rput_room (room : Int) (A : Option Addr) (c : Nat) (l : List Pk) (p b : Int) (q : Pk) (w : World) (hq : q.right = true) (hR : Rd (fun _ => False) w A (pks l)) (hs : Small l) (hl : l.length ≤ 1000000) (hro : room < bytesOf l + q.size) (hp : 0 ≤ p ∧ p ≤ 1000000000) (hb : 0 ≤ b ∧ b ≤ 1000000000000) :
    Calls Try.prog 24 #[rlv room A l.length c p b, pkv q] w fun e w' => e = .returned (.tuple #[rlv room A l.length c (p + 1) (b + q.size), .int .i64 230]) ∧ Fr0 w w' := by
  have hmx : Try.prog.follows .mixedOrders = true := by kernel_rfl
  have HB := Lib.hid (rputW_b w room A l.length c p b q)
  have hu : rputW w room A l.length c p b q = ((w.alloc (.cells (rlc room A l.length c p b) 30)).alloc (.cells (pkc q).toArray 34)).alloc (.cells (rlc 0 none 0 0 0 0) 30) := rfl
  have HRC := Lib.hid (fun w' => rright_calls q w')
  rw [hq] at HRC
  simp only [Pk.right, Bool.and_eq_true] at hq
  obtain ⟨_, _, e3⟩ := hq
  obtain ⟨s1, s2⟩ := wthB_iff.1 e3
  have hr := hs.range
  have HH := Lib.hid (fun w' (h : Fr0 w w') => rhere_calls room A c l p b w' (hR.kept h) hs hl)
  obtain ⟨p1, p2⟩ := hp
  obtain ⟨b1, b2⟩ := hb
  clear hR hs e3
  obtain ⟨⟨z0, z1, z2⟩, _⟩ := pk_cells HB.out.b1
  obtain ⟨⟨c0, c1, c2, c3⟩, _⟩ := rl_cells HB.out.b0
  rw [hu] at HB z0 z1 z2 c0 c1 c2 c3
  clear hu
  generalize bytesOf l = bl at *
  go_enter Try.func24, Try.ntmps24
  go_wp2_with fail
  refine (HRC.out _).mono ?_
  rintro e w5 ⟨rfl, hf5⟩
  have HF5 := Lib.hid (HB.out.fr.trans hf5)
  have HX := Lib.hid (hf5.blk HB.out.b2 (fun h => h))
  have HC := Lib.hid (hf5.blk HB.out.b0 (fun h => h))
  have HZ := Lib.hid (hf5.blk HB.out.b1 (fun h => h))
  clear hf5 HB z0 z1 z2 c0 c1 c2 c3
  obtain ⟨⟨z0, z1, z2⟩, _⟩ := pk_cells HZ.out
  obtain ⟨⟨c0, c1, c2, c3⟩, _⟩ := rl_cells HC.out
  have q0 := cg_cell (W := w5) c0
  have q1 := cg_cell (W := w5) c1
  have q2 := cg_cell (W := w5) c2
  have q3 := cg_cell (W := w5) c3
  have y2 := cg_cell (W := w5) z2
  go_wp2_with fail
  refine wp_region_cg hmx (by kernel_rfl) ?_
  repeat (first
    | go_big_quiet_step (fail)
    | go_big_quiet_step (first | (go_at_call 27; exact quiet_cg (HH.out _ (HF5.out.trans (Wx.fr _))))))
  refine wpQuiet_nil ?_
  intro w6 hf6
  clear q0 q1 q2 q3 y2 z0 z1 z2 c0 c1 c2 c3
  obtain ⟨⟨z0, z1, z2⟩, _⟩ := pk_cells (hf6.blk HZ.out (fun h => h))
  have hC6 := hf6.blk HC.out (fun h => h)
  obtain ⟨⟨c0, c1, c2, c3⟩, g0, g1, g2, g3⟩ := rl_cells hC6
  have HX6 := Lib.hid (hf6.blk HX.out (fun h => h))
  have HF6 := Lib.hid (HF5.out.trans hf6)
  have HC6 := Lib.hid hC6
  clear hC6 hf6
  go_wp2_with fail
  go_region
  all_goals
    have HC7 := Lib.hid (show ((w6.setCell ⟨w.heap.size, 2, none⟩ (.int .i64 (p + 1))).setCell ⟨w.heap.size, 3, none⟩ (.int .i64 (b + q.size))).drew.heap[w.heap.size]? = some (.cells (rlc room A l.length c (p + 1) (b + q.size)) 30 (0, 0)) from blk_drew (blk_setCell (blk_setCell HC6.out 2 _) 3 _))
    have HX7 := Lib.hid (show ((w6.setCell ⟨w.heap.size, 2, none⟩ (.int .i64 (p + 1))).setCell ⟨w.heap.size, 3, none⟩ (.int .i64 (b + q.size))).drew.heap[w.heap.size + 2]? = some (.cells (rlc 0 none 0 0 0 0) 30 (0, 0)) from blk_drew (blk_setCell_other (blk_setCell_other HX6.out (by simp) _) (by simp) _))
    have HF7 := Lib.hid (show Fr0 w ((w6.setCell ⟨w.heap.size, 2, none⟩ (.int .i64 (p + 1))).setCell ⟨w.heap.size, 3, none⟩ (.int .i64 (b + q.size))).drew from ((HF6.out.setCell (p := ⟨w.heap.size, 2, none⟩) (fun h => absurd h (Nat.lt_irrefl _)) _).setCell (p := ⟨w.heap.size, 3, none⟩) (fun h => absurd h (Nat.lt_irrefl _)) _).drew)
    generalize ((w6.setCell ⟨w.heap.size, 2, none⟩ (.int .i64 (p + 1))).setCell ⟨w.heap.size, 3, none⟩ (.int .i64 (b + q.size))).drew = w7 at *
    clear c0 c1 c2 c3 g0 g1 g2 g3 z0 z1 z2
    obtain ⟨⟨x0, x1, x2, x3⟩, y0, y1, y2, y3⟩ := rl_cells HX7.out
    obtain ⟨⟨c0, c1, c2, c3⟩, _⟩ := rl_cells HC7.out
    go_wp2_with fail
    exact bodyPost_ret (results_row_tmp rfl _ _ (w.heap.size + 2) _ _ _ _ rfl (putRl_blk HX7.out room A l.length c (p + 1) (b + q.size)) Try.underlying30 rfl (by kernel_rfl)) rfl ⟨rfl, putRl_fr HF7.out (fun h => by omega) room A l.length c (p + 1) (b + q.size)⟩
/-- What Put answers where there is room. -/
def RputPost (room : Int) (l : List Pk) (p b : Int) (q : Pk) (w : World) (e : Ending) (w' : World) : Prop :=
  (∃ A' c', e = .returned (.tuple #[rlv room A' (l.length + 1) c' p b, .int .i64 0]) ∧ l.length + 1 ≤ c' ∧ c' ≤ maxLen ∧ (A' = none → l.length + 1 = 0) ∧ ∀ S, (∀ k, w.heap.size ≤ k → ¬ S k) → Rd S w' A' (pks (l ++ [q]))) ∧ Fr0 w w'

set_option maxHeartbeats 2000000 in
theorem rput_ok (room : Int) (A : Option Addr) (c : Nat) (l : List Pk) (p b : Int) (q : Pk) (w : World) (hq : q.right = true) (hR : Rd (fun _ => False) w A (pks l)) (hs : Small l) (hl : l.length ≤ 1000000) (hA : A = none → l.length = 0) (hro : bytesOf l + q.size ≤ room) :
    Calls Try.prog 24 #[rlv room A l.length c p b, pkv q] w (RputPost room l p b q w) := by
  have hmx : Try.prog.follows .mixedOrders = true := by kernel_rfl
  have HB := Lib.hid (rputW_b w room A l.length c p b q)
  have hu : rputW w room A l.length c p b q = ((w.alloc (.cells (rlc room A l.length c p b) 30)).alloc (.cells (pkc q).toArray 34)).alloc (.cells (rlc 0 none 0 0 0 0) 30) := rfl
  have HRC := Lib.hid (fun w' => rright_calls q w')
  rw [hq] at HRC
  simp only [Pk.right, Bool.and_eq_true] at hq
  obtain ⟨_, _, e3⟩ := hq
  obtain ⟨s1, s2⟩ := wthB_iff.1 e3
  have hr := hs.range
  have HH := Lib.hid (fun w' (h : Fr0 w w') => rhere_calls room A c l p b w' (hR.kept h) hs hl)
  have HR := Lib.hid hR
  have HA := Lib.hid hA
  have HL := Lib.hid (pks_length l)
  clear hR hs e3 hA
  obtain ⟨⟨z0, z1, z2⟩, _⟩ := pk_cells HB.out.b1
  obtain ⟨⟨c0, c1, c2, c3⟩, _⟩ := rl_cells HB.out.b0
  have HSZ := Lib.hid HB.out.sz
  rw [hu] at HB HSZ z0 z1 z2 c0 c1 c2 c3
  clear hu
  generalize bytesOf l = bl at *
  go_enter Try.func24, Try.ntmps24
  go_wp2_with fail
  refine (HRC.out _).mono ?_
  rintro e w5 ⟨rfl, hf5⟩
  have HF5 := Lib.hid (HB.out.fr.trans hf5)
  have HX := Lib.hid (hf5.blk HB.out.b2 (fun h => h))
  have HC := Lib.hid (hf5.blk HB.out.b0 (fun h => h))
  have HZ := Lib.hid (hf5.blk HB.out.b1 (fun h => h))
  have HS5 := Lib.hid (show w.heap.size + 3 ≤ w5.heap.size from by have := hf5.size; simp at this; omega)
  clear hf5 HB z0 z1 z2 c0 c1 c2 c3 HSZ
  obtain ⟨⟨z0, z1, z2⟩, _⟩ := pk_cells HZ.out
  obtain ⟨⟨c0, c1, c2, c3⟩, _⟩ := rl_cells HC.out
  have q0 := cg_cell (W := w5) c0
  have q1 := cg_cell (W := w5) c1
  have q2 := cg_cell (W := w5) c2
  have q3 := cg_cell (W := w5) c3
  have y2 := cg_cell (W := w5) z2
  go_wp2_with fail
  refine wp_region_cg hmx (by kernel_rfl) ?_
  repeat (first
    | go_big_quiet_step (fail)
    | go_big_quiet_step (first | (go_at_call 27; exact quiet_cg (HH.out _ (HF5.out.trans (Wx.fr _))))))
  refine wpQuiet_nil ?_
  intro w6 hf6
  clear q0 q1 q2 q3 y2 z0 z1 z2 c0 c1 c2 c3
  have HKZ := Lib.hid (fun U (h : Fr0 w6 U) => (pk_cells ((hf6.trans h).blk HZ.out (fun h => h))).1)
  have HKC := Lib.hid (fun U (h : Fr0 w6 U) => rl_cells ((hf6.trans h).blk HC.out (fun h => h)))
  have HX6 := Lib.hid (hf6.blk HX.out (fun h => h))
  have HF6 := Lib.hid (HF5.out.trans hf6)
  have HC6 := Lib.hid (hf6.blk HC.out (fun h => h))
  have HS6 := Lib.hid (show w.heap.size + 3 ≤ w6.heap.size from by have := HS5.out; have := hf6.size; omega)
  clear hf6 HX HC HZ
  go_wp2_with fail
  have hd0 : Fr0 w6 w6.drew := (Fr.refl _ w6).drew
  have hda : ∀ o, Fr0 w6 (w6.alloc o).drew := fun o => ((Fr.refl _ w6).alloc o).drew
  obtain ⟨z0, z1, z2⟩ := HKZ.out _ hd0
  obtain ⟨⟨_, c1, _, _⟩, _⟩ := HKC.out _ hd0
  have c1a : ∀ o, (w6.alloc o).cell? ⟨w.heap.size, 1, none⟩ = some (.slice A l.length c) := fun o => (HKC.out _ (hda o)).1.2.1
  have HRD := Lib.hid (HR.out.kept (HF6.out.trans hd0))
  have HRA := Lib.hid (fun o => HR.out.kept (HF6.out.trans (hda o)))
  go_region_law (first
    | (refine step_app rfl (.const (.slice none 0 0)) (.tmp 30) _ rfl Try.underlying28 pk_elem (base := w6.heap.size) (.slice none 0 0) 0 [] rfl (own_nil _ _ _ _) (fun _ => False) A l.length c (pks l) rfl (by first | exact HRD.out | exact HRA.out _) HL.out (pks_one _) (by simp only [maxLen]; omega) (by omega) (by first | exact hd0.size | exact (hda _).size) HA.out ?_; intro v1 w3 hown1 hg1 hat1; have hfn3 := Fr.grown (Fr.refl (fun _ => False) _) hg1 (by simp [Value.ownBlock]); have hfr3 : Fr0 w6 w3 := (by first | exact hd0.trans hfn3 | exact (hda _).trans hfn3); obtain ⟨z0', z1', z2'⟩ := HKZ.out _ hfr3)
    | (refine step_app rfl (.tmp 31) (.tmp 33) _ rfl Try.underlying28 pk_elem (base := w6.heap.size) v1 (0 + l.length) ([] ++ pks l) rfl (by first | exact hown1 | exact own_kept0 hown1 ((Fr.refl _ w3).alloc _)) (fun _ => False) _ 1 1 (pks [q]) rfl (by first | exact rd_pk1 _ w3 q _ (fun h => h) | exact Rd.kept (Rd.kept (rd_pk1 _ w6 q _ (fun h => h)) (Fr.refl _ _).drew) hfn3) rfl (pks_one _) (by simp only [maxLen]; omega) (by omega) (by have := hfr3.size; first | exact this | (simp; omega)) (by simp) ?_; intro v2 w4 hown2 hg2 hat2; rw [Nat.zero_add, List.nil_append, ← pks_append] at hown2; obtain ⟨A2, c2, rfl, hlc2, hcm2⟩ := own_form hown2; have hAN2 : A2 = none → l.length + 1 = 0 := (fun e => by obtain ⟨g, cap, e2, _⟩ := hown2.form (by simp); subst e; cases e2); have hfr4 : Fr0 w6 w4 := Fr.grown (by first | exact hfr3.alloc _ | exact hfr3) hg2 (fun g hg e => by have := (own_blk hown1 e).1; omega); obtain ⟨⟨x0', x1', x2', x3'⟩, y0', y1', y2', y3'⟩ := HKC.out _ hfr4))
  all_goals
    have hrd := own_rd (fun k => k < w6.heap.size) hown2 (fun k h1 _ h2 => by omega)
    have HC7 := Lib.hid (blk_setCell (hfr4.blk HC6.out (fun h => h)) 1 (.slice A2 (l.length + 1) c2))
    have HX7 := Lib.hid (blk_setCell_other (hfr4.blk HX6.out (fun h => h)) (p := ⟨w.heap.size, 1, none⟩) (by simp) (.slice A2 (l.length + 1) c2))
    have HF7 := Lib.hid ((HF6.out.trans hfr4).setCell (p := ⟨w.heap.size, 1, none⟩) (fun h => absurd h (Nat.lt_irrefl _)) (.slice A2 (l.length + 1) c2))
    have HRD7 := Lib.hid (hrd.kept ((Fr.refl (fun k => k < w6.heap.size) w4).setCell (p := ⟨w.heap.size, 1, none⟩) (fun _ => by have := HS6.out; show w.heap.size < w6.heap.size; omega) (.slice A2 (l.length + 1) c2)))
    generalize w4.setCell ⟨w.heap.size, 1, none⟩ (.slice A2 (l.length + 1) c2) = w7 at *
    clear hrd hown2 hg2 hat2 hfr4 hfr3 hfn3 hown1 hg1 hat1 x0' x1' x2' x3' y0' y1' y2' y3' z0' z1' z2' z0 z1 z2 c1 c1a hd0 hda
    obtain ⟨⟨x0, x1, x2, x3⟩, y0, y1, y2, y3⟩ := rl_cells HX7.out
    obtain ⟨⟨c0, c1, c2_, c3⟩, _⟩ := rl_cells (show w7.heap[w.heap.size]? = some (.cells (rlc room A2 (l.length + 1) c2 p b) 30 (0, 0)) from HC7.out)
    go_wp2_with fail
    refine bodyPost_ret (results_row_tmp rfl _ _ (w.heap.size + 2) _ _ _ _ rfl (putRl_blk HX7.out room A2 (l.length + 1) c2 p b) Try.underlying30 rfl (by kernel_rfl)) rfl ⟨⟨A2, c2, rfl, hlc2, hcm2, hAN2, fun S hS => ?_⟩, putRl_fr HF7.out (fun h => by omega) room A2 (l.length + 1) c2 p b⟩
    have h1 := HRD7.out.kept (putRl_fr (Fr.refl (fun k => k < w6.heap.size) w7) (k := w.heap.size + 2) (fun _ => by have := HS6.out; show w.heap.size + 2 < w6.heap.size; omega) room A2 (l.length + 1) c2 p b)
    rcases h1 with h1 | ⟨g, off, h1, h2, h3⟩
    · exact .inl h1
    · exact .inr ⟨g, off, h1, hS g (by have := HS6.out; have h2' : ¬ g < w6.heap.size := h2; omega), h3⟩
end Go.Proofs.Ytfiiikgjgcnjgaa
