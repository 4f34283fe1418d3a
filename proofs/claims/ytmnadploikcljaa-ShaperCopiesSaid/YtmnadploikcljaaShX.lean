/- Chapter 13: the law's same. -/
import Derived.Test.YtmnadploikcljaaShS
import Derived.Test.YtmnadploikcljaaShN
import Derived.Test.YtmnadploikcljaaFfY0
set_option linter.unusedVariables false
set_option linter.unusedSimpArgs false
namespace Go.Proofs.Ytmnadploikcljaa
open Go.RowKit
attribute [local go_sem] Oper.semAt_some

/-- A count in a box of its own. -/
structure Cnt (w W : World) (q : Nat) (n : Int) : Prop where
  box : W.heap[q]? = some (.cells #[.int .i64 n] 3 (0, 0))
  fr : Fr0 w W
  q : w.heap.size ≤ q
theorem Cnt.grown {w A B : World} {q : Nat} {n : Int} {row : Option Nat} (h : Cnt w A q n) (hg : A.grownBy B row) {m : Nat} (hm : w.heap.size ≤ m) (hr : ∀ r, row = some r → m ≤ r ∧ ∃ o : Obj, A.heap[r]? = some o ∧ o.isCells = false) : Cnt w B q n :=
  ⟨blk_grown h.box hg (ne_row hr _ _ _ _ h.box), h.fr.grown hg (fun k hk e => by have := (hr k e).1; omega), h.q⟩
theorem Cnt.kept0 {w A B : World} {q : Nat} {n : Int} (h : Cnt w A q n) (hf : Fr0 A B) : Cnt w B q n := ⟨hf.blk h.box (fun h => h), h.fr.trans hf, h.q⟩
theorem Cnt.set {w A : World} {q : Nat} {n : Int} (h : Cnt w A q n) (m : Int) : Cnt w (A.setCell ⟨q, 0, none⟩ (.int .i64 m)) q m :=
  ⟨blk_setCell h.box 0 _, h.fr.setCell (p := ⟨q, 0, none⟩) (fun hl => by have := h.q; have : q < w.heap.size := hl; omega) _, h.q⟩
theorem Cnt.cell {w A : World} {q : Nat} {n : Int} (h : Cnt w A q n) : A.cell? ⟨q, 0, none⟩ = some (.int .i64 n) ∧ A.frozen? ⟨q, 0, none⟩ = false := ⟨cell_of_blk h.box 0, free_of_blk h.box 0⟩
theorem wt_neq (x z : Int × Int) (w : World) : (binOp .neq 33 (.agg #[.int .i64 x.1, .int .i64 x.2]) (.agg #[.int .i64 z.1, .int .i64 z.2])).run Try.prog w = .ok (.bool (!decide (x = z))) w := by
  obtain ⟨x0, x1⟩ := x
  obtain ⟨z0, z1⟩ := z
  have e : (!decide ((x0, x1) = (z0, z1))) = !(x0 == z0 && x1 == z1) := by
    by_cases h0 : x0 = z0 <;> by_cases h1 : x1 = z1 <;> simp [h0, h1]
  rw [e]
  by_cases h0 : (x0 == z0) <;> by_cases h1 : (x1 == z1) <;> simp [go_sem, h0, h1]
abbrev seqV (p : Nat) : Value := .func (.func 56) #[] #[.pointer (some ⟨p, 0, none⟩)]
theorem pre_next {l pre : List (Int × Int)} {x : Int × Int} (h : pre <+: l) (hl : pre.length < l.length) : pre ++ [x] <+: l ↔ x = l[pre.length] := by
  obtain ⟨t, rfl⟩ := h
  cases t with
  | nil => simp at hl
  | cons y t =>
    constructor
    · rintro ⟨u, hu⟩
      rw [List.append_assoc, List.append_cancel_left_eq] at hu
      simp at hu
      simp [hu.1]
    · intro e
      have : x = y := by simpa using e
      subst this
      exact ⟨t, by simp⟩
set_option maxRecDepth 100000 in
set_option maxHeartbeats 4000000 in
theorem same_core (b m : Nat) (X : Sh) (gs : Sp) (A : Option Addr) (gl c : Nat) (gn gr : Int) (A2 : Option Addr) (c2 : Nat) (w : World) (h : IsSh w b m X) (hR0 : Rd (fun _ => False) w A2 (sends X.L)) (hl : X.L.length ≤ 1000) :
    Calls Try.prog 20 #[.pointer (some ⟨b, 0, none⟩), rsv gs A gl c gn gr A2 X.L.length c2] w fun e w' => e = .returned (.bool true) ∧ Fr0 w w' := by
  have hsz := h.ok.pos.siz
  have hf1 := ((Fr.refl (fun _ => False) w).alloc (.cells (rsc gs A gl c gn gr A2 X.L.length c2) 51)).alloc (.cells #[.bool false] 4)
  have HF1 := Lib.hid hf1
  have HBX := Lib.hid (blk_alloc (heap_alloc_new w (.cells (rsc gs A gl c gn gr A2 X.L.length c2) 51)) (.cells #[.bool false] 4))
  have HRB := Lib.hid (show ((w.alloc (.cells (rsc gs A gl c gn gr A2 X.L.length c2) 51)).alloc (.cells #[.bool false] 4)).heap[w.heap.size + 1]? = some (.cells #[.bool false] 4 (0, 0)) from heap_alloc_nn (by simp))
  have HAL := Lib.hid (sallw_calls b m X _ (h.kept0 hf1))
  have HBY := Lib.hid (fun U (hf : Fr0 w U) => sbytes_calls b m X U (h.kept0 hf))
  have HRY := Lib.hid (fun U (hf : Fr0 w U) => rsbytes_calls gs A gl c gn gr A2 c2 X.L U (hR0.kept hf) hsz (by omega))
  have HR := Lib.hid hR0
  have HS1 := Lib.hid (show ((w.alloc (.cells (rsc gs A gl c gn gr A2 X.L.length c2) 51)).alloc (.cells #[.bool false] 4)).heap.size = w.heap.size + 2 by simp)
  clear h hR0 hsz hf1
  have hfn : ∀ (q : Nat) (w : World), (binOp .eql 67 (seqV q) Value.nilFunc).run Try.prog w = .ok (.bool false) w := fun _ _ => rfl
  refine (callsIn_wide (n := 5)).1 ?_
  refine callsIn_of_wp_marks Try.func20 rfl trivial ?_ rfl
  simp only [Try.ntmps20, List.size_toArray, List.length_cons, List.length_nil, Nat.reduceAdd, Nat.reduceSub, Array.replicate_succ, Array.replicate_zero, List.push_toArray, List.append_toArray, List.nil_append, List.cons_append]
  gi_wp2_with (refine ⟨trivial, ?_⟩; gi_at_call 23; refine (callsIn_wide.2 HAL.out).mono ?_; rintro e w8 ⟨⟨f, rfl, p, A8, c8, rfl, hp1, hp2, hp3⟩, hf8⟩)
  have HF8 := Lib.hid (HF1.out.trans hf8)
  have HBX8 := Lib.hid (hf8.blk HBX.out (fun h => h))
  have HRB8 := Lib.hid (hf8.blk HRB.out (fun h => h))
  have HS8 := Lib.hid (show w.heap.size + 2 ≤ w8.heap.size from by have := hf8.size; have := HS1.out; omega)
  have HCT := Lib.hid (show Cnt w8 (w8.alloc (.cells #[.int .i64 0] 3)) w8.heap.size 0 from ⟨heap_alloc_new _ _, (Fr.refl _ w8).alloc _, Nat.le_refl _⟩)
  have HW9 := Lib.hid (show (w8.alloc (.cells #[.int .i64 0] 3)).heap.size = w8.heap.size + 1 by simp)
  have hseq := vals1_stops Fence.wide (5 - 1) trivial rfl (by omega) p (fun k => k = w8.heap.size) A8 c8 X.L (by simp only [maxLen]; omega) (w8.alloc (.cells #[.int .i64 0] 3)) (((Fr.refl (fun _ => False) w8).alloc _).cell ((cell_of_blk hp2 0).trans (by simp)) (fun h => h))
    ((hp3.mono (T := fun k => k = w8.heap.size) (fun k hk e => absurd hk (by omega))).kept ((Fr.refl _ w8).alloc _))
  clear hp1 hp2 hp3 hf8 HBX HRB HAL HF1 HS1
  generalize w8.alloc (.cells #[.int .i64 0] 3) = w9 at *
  have hmx : Try.prog.follows .mixedOrders = true := by kernel_rfl
  refine' wpIn_rangeFunc_box rfl (by omega) (gf := 56) (lb := #[.pointer (some ⟨p, 0, none⟩)]) rfl trivial (enters_of Try.func56 (by kernel_rfl) rfl)
    hseq (fun h k => h.trans k) (fun W l o o' _ h ho _ => Ck.putObj W l o o' h ho) (fun W o => Ck.of_fr ((Fr.refl _ W).alloc o)) (Below.refl _ _) (fun _ => rfl)
    (fun pre W => Cnt w8 W w8.heap.size pre.length ∧ pre <+: X.L)
    (fun c pre W => c = .ret ∧ ¬ pre <+: X.L) ?own ?ownx ?sz ?atstart (fun x => #[.int .i64 x.1, .int .i64 x.2]) 33 _ ?assign ?body (fun W => Cnt w8 W w8.heap.size X.L.length) ?fd ?fs ?fin
  case own =>
    rintro pre X1 Y1 row ⟨h1, h2⟩ hg hr
    exact ⟨h1.grown hg (by have := HW9.out; omega) hr, h2⟩
  case ownx =>
    rintro c pre X1 Y1 row h1 hg hr
    exact h1
  case sz =>
    rintro pre W ⟨h1, _⟩
    have := lt_of_block h1.box
    have := HW9.out
    omega
  case atstart => exact ⟨HCT.out, List.nil_prefix⟩
  case assign =>
    intro l pre x W K q hq hI hK
    subst hq
    have HK := Lib.hid hK
    clear hK
    gi_wp2
    generalize W.heap.size = q at *
    exact HK.out
  case fd =>
    rintro xs W rfl ⟨h1, _⟩
    exact h1
  case fs =>
    rintro c pre W hp ⟨_, h1⟩
    exact absurd hp h1
  case body =>
    rintro lp pre x q W ⟨h1, h2⟩ hq hQ hpl
    have hfW : Fr0 w W := HF8.out.trans h1.fr
    have HFWW := Lib.hid hfW
    have HRW := Lib.hid (HR.out.kept hfW)
    have z0 := cell_of_blk hQ 0
    have z1 := cell_of_blk hQ 1
    simp only [List.getElem?_toArray, List.getElem?_cons_zero, List.getElem?_cons_succ] at z0 z1
    have o8 := (rs_cells (h1.fr.blk HBX8.out (fun h => h))).x8
    have hrb := h1.fr.blk HRB8.out (fun h => h)
    obtain ⟨p2, off, rfl⟩ := HRW.out.some_ (by rw [sends_length]; omega)
    obtain ⟨d0, d1⟩ := rdl_cells HRW.out pre.length hpl
    have H1 := Lib.hid h1
    have H2 := Lib.hid h2
    have HPL := Lib.hid hpl
    have hc1 := h1.cell.1
    have ra := cg_cell (W := W) z0
    have rb := cg_cell (W := W) z1
    have rd := cg_cell (W := W) o8
    have re := cg_cell (W := W) hc1
    have rf := cg_cell (W := W) d0
    have rg := cg_cell (W := W) d1
    have hi1 : (0 : Int) ≤ (pre.length : Int) := by omega
    have hi2 : (pre.length : Int) < (X.L.length : Int) := by omega
    have HZ := Lib.hid (show X.L[pre.length] = (at_ X.L pre.length, sz_ X.L pre.length) from Prod.ext (at_eq X.L _ hpl).symm (sz_eq X.L _ hpl).symm)
    have hwr : IntKind.i64.wrap ((pre.length : Int) + 1) = (pre.length : Int) + 1 := by rw [IntKind.wrap_i64]; omega
    have hcmp := wt_neq x (at_ X.L pre.length, sz_ X.L pre.length)
    dsimp only at hcmp
    generalize at_ X.L pre.length = e0 at *
    generalize sz_ X.L pre.length = e1 at *
    clear h1 h2 hpl z0 z1 o8 d0 d1 hc1 hQ
    gi_wp2
    refine wpIn_region_class (fun U => ∃ x : Wx W, U = x.u) 13 hmx (by kernel_rfl) (by kernel_rfl) (fun ⟨_, _, h⟩ => h) ⟨⟨W.drew, (Fr.refl _ W).drew⟩, rfl⟩ ?_
    simp only [List.take_succ_cons, List.take_zero, List.drop_succ_cons, List.drop_zero]
    have hi0 : decide (X.L.length ≤ pre.length) = false := decide_eq_false (by omega)
    repeat (go_big_quiet_step (fail))
    refine wpQuiet_nil ?_
    rintro U ⟨y, hy⟩
    have hf5 : Fr0 W U := hy ▸ y.fr
    clear hy y
    have HF5 := Lib.hid hf5
    have H5 := Lib.hid (H1.out.kept0 hf5)
    obtain ⟨hc5, hz5⟩ := H5.out.cell
    have hrb5 := hf5.blk hrb (fun h => h)
    have hb5 : U.cell? ⟨w.heap.size + 1, 0, none⟩ = some (.bool false) := cell_of_blk hrb5 0
    have hy5 : U.frozen? ⟨w.heap.size + 1, 0, none⟩ = false := free_of_blk hrb5 0
    clear ra rb rd re rf rg hrb hf5 hrb5 hcmp
    by_cases hxz : x = (e0, e1)
    · have hxz2 : decide (x = (e0, e1)) = true := decide_eq_true hxz
      have HPRE := Lib.hid ((pre_next H2.out HPL.out).2 (hxz.trans HZ.out.symm))
      have HSF := Lib.hid ((Fr0.any (S := fun k => k = w8.heap.size) HF5.out).setCell (p := ⟨w8.heap.size, 0, none⟩) (fun _ => rfl) (.int .i64 ((pre.length : Int) + 1)))
      have HST := Lib.hid (H5.out.set ((pre.length : Int) + 1))
      go_wp2_with fail
      gi_wp2
      refine ⟨keeps_of_fr HSF.out _ (fun k o hk _ _ e => by have := HW9.out; omega), Ck.of_fr HSF.out, ?_, HPRE.out⟩
      rw [show ((pre ++ [x]).length : Int) = (pre.length : Int) + 1 by simp]
      exact HST.out
    · have hxz2 : decide (x = (e0, e1)) = false := decide_eq_false hxz
      go_wp2_with fail
      gi_wp2
      refine ⟨keeps_of_fr ((Fr0.any (S := fun k => k = w.heap.size + 1) HF5.out).setCell (p := ⟨w.heap.size + 1, 0, none⟩) (fun _ => rfl) _) _ (fun k o hk _ _ e => by have := HW9.out; have := HS8.out; omega), rfl, fun hp => ?_⟩
      exact absurd (((pre_next H2.out HPL.out).1 hp).trans HZ.out) (by simpa using hxz2)
  case fin =>
    rintro D W hD hcnt hK
    have HW := Lib.hid (HF8.out.trans hcnt.fr)
    have HRBW := Lib.hid (hcnt.fr.blk HRB8.out (fun h => h))
    obtain ⟨k0, k1, k2, k3, k4, k5, k6, k7, k8⟩ := rs_cells (hcnt.fr.blk HBX8.out (fun h => h))
    have hc1 := hcnt.cell.1
    have ra := cg_cell (W := W) k0
    have rb := cg_cell (W := W) k1
    have rc := cg_cell (W := W) k2
    have rd := cg_cell (W := W) k3
    have re := cg_cell (W := W) k4
    have rf := cg_cell (W := W) k5
    have rg := cg_cell (W := W) k6
    have rh := cg_cell (W := W) k7
    have ri := cg_cell (W := W) k8
    have rj := cg_cell (W := W) hc1
    have HDN := Lib.hid (show w.heap.size + 1 ≠ D from by have := HS8.out; have := HW9.out; omega)
    have HDW := Lib.hid (show w.heap.size ≤ D from by have := HDN.out; have := HS8.out; have := HW9.out; omega)
    clear k0 k1 k2 k3 k4 k5 k6 k7 k8 hc1 hcnt
    gi_wp2
    refine wpIn_wide.2 ?_
    refine wp_region_class (fun V => ∃ x : Wx W, V = x.u) 12 hmx (by kernel_rfl) ⟨⟨W.drew, (Fr.refl _ W).drew⟩, rfl⟩ ?_
    simp only [List.take_succ_cons, List.take_zero, List.drop_succ_cons, List.drop_zero]
    repeat (first
      | go_big_quiet_step (fail)
      | go_big_quiet_step (first
        | (go_at_call 15; exact quiet_cg (HBY.out _ (HW.out.trans (Wx.fr _))))
        | (go_at_call 41; exact quiet_cg (HRY.out _ (HW.out.trans (Wx.fr _))))))
    refine wpQuiet_nil ?_
    rintro V ⟨x, hx⟩
    have hfx : Fr0 W V := hx ▸ x.fr
    have hKx : V.heap[D]? = some (.deferred (some [])) := hfx.blk hK (fun h => h)
    clear hx x ra rb rc rd re rf rg rh ri rj
    have hbl := hfx.blk HRBW.out (fun h => h)
    have cv : V.cell? ⟨w.heap.size + 1, 0, none⟩ = some (.bool false) := cell_of_blk hbl 0
    have fv : V.frozen? ⟨w.heap.size + 1, 0, none⟩ = false := free_of_blk hbl 0
    go_wp2_with fail
    gi_wp2
    have hb2 := blk_setCell hbl 0 (.bool true)
    have hK2 : (V.setCell ⟨w.heap.size + 1, 0, none⟩ (.bool true)).heap[D]? = some (.deferred (some [])) := blk_setCell_other hKx (p := ⟨w.heap.size + 1, 0, none⟩) HDN.out _
    refine ⟨by simp, .inl ⟨_, _, rfl, run_takeDeferred hK2, ?_⟩⟩
    have hcl : ((V.setCell ⟨w.heap.size + 1, 0, none⟩ (.bool true)).putObj D (.deferred none)).cell? ⟨w.heap.size + 1, 0, none⟩ = some (.bool true) := (World.cell?_of_block (World.putObj_heap_other HDN.out)).trans (cell_of_blk hb2 0)
    refine ⟨_, results_cell_bool (p := 4) rfl _ _ _ _ rfl hcl, rfl, ?_⟩
    exact ((HW.out.trans hfx).setCell (p := ⟨w.heap.size + 1, 0, none⟩) (fun h => absurd h (by show ¬ w.heap.size + 1 < w.heap.size; omega)) _).grown (grownBy_putObj' _ D _) (fun k hk e => by cases e; have := HDW.out; omega)
theorem same_yes (b m : Nat) (X : Sh) (v : Value) (w : World) (h : IsSh w b m X) (hg : IsRs w (ShS b m) v X.rs) (hl : X.L.length ≤ 1000) :
    Calls Try.prog 20 #[.pointer (some ⟨b, 0, none⟩), v] w fun e w' => e = .returned (.bool true) ∧ Fr0 w w' := by
  obtain ⟨A, c, A2, c2, rfl, hA, hc, hA2, hc2, hcm⟩ := hg.ex
  exact same_core b m X X.rs.s A X.rs.l.length c X.rs.now X.rs.room A2 c2 w h (hA2.mono (fun _ _ h => h.elim)) hl
end Go.Proofs.Ytmnadploikcljaa
