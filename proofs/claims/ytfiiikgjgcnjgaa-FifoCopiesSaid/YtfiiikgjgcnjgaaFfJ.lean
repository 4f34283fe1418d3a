/- Chapter 15: slices.IndexFunc, slices.DeleteFunc. -/
import Derived.Test.YtfiiikgjgcnjgaaFfI
set_option linter.unusedVariables false
set_option linter.unusedSimpArgs false
namespace Go.Proofs.Ytfiiikgjgcnjgaa
open Go.RowKit

/-- Is a packet of this flow? -/
def isFl (fl : Int) (x : Pk) : Bool := x.flow == fl
abbrev flFn (bx : Nat) : Value := .func (.func 38) #[] #[.pointer (some ⟨bx, 0, none⟩)]
theorem fisfl_calls (x : Pk) (bx : Nat) (fl : Int) (w : World) (h : w.cell? ⟨bx, 0, none⟩ = some (.int .i64 fl)) : Calls Try.prog 38 #[pkv x, .pointer (some ⟨bx, 0, none⟩)] w fun e w' => e = .returned (.bool (isFl fl x)) ∧ Fr0 w w' := by
  have hf := (Fr.refl (fun _ => False) w).alloc (.cells (pkc x).toArray 34)
  have h1 := hf.cell h (fun h => h)
  have HF := Lib.hid hf
  clear h hf
  go_enter Try.func38, Try.ntmps38
  go_wp2_with fail
  go_ret
  exact ⟨rfl, HF.out⟩
/-- The first of a flow. -/
def Idx (fl : Int) (l : List Pk) (r : Int) : Prop := (r = -1 ∧ ∀ x ∈ l, isFl fl x = false) ∨ ∃ k, ∃ h : k < l.length, r = k ∧ isFl fl l[k] = true ∧ ∀ x ∈ l.take k, isFl fl x = false
theorem take_snoc_all {l : List Pk} {P : Pk → Prop} {k : Nat} (h : k < l.length) (ha : ∀ x ∈ l.take k, P x) (hk : P l[k]) : ∀ x ∈ l.take (k + 1), P x := by
  rw [List.take_succ_eq_append_getElem h]
  intro x hx
  rcases List.mem_append.1 hx with hx | hx
  · exact ha x hx
  · have : x = l[k] := by simpa using hx
    rw [this]; exact hk
theorem rd_pk {S : Nat → Prop} {w : World} {b off : Nat} {l : List Pk} (h : Rd S w (some ⟨b, off, none⟩) (pks l)) (k : Nat) (hk : k < l.length) :
    w.cell? ⟨b, off + k * 3, none⟩ = some (.int .i64 l[k].id) ∧ w.cell? ⟨b, off + k * 3 + 1, none⟩ = some (.int .i64 l[k].flow) ∧ w.cell? ⟨b, off + k * 3 + 2, none⟩ = some (.int .i64 l[k].size) := by
  obtain ⟨e0, e1, e2⟩ := pks_at l k hk
  have key : ∀ j v, (pks l)[j]? = some v → w.cell? ⟨b, off + j, none⟩ = some v := fun j v hj => by
    obtain ⟨hj1, rfl⟩ := List.getElem?_eq_some_iff.1 hj
    exact h.at_ j hj1
  exact ⟨key _ _ e0, key _ _ e1, key _ _ e2⟩
def IdxPost (fl : Int) (l : List Pk) (w : World) (e : Ending) (w' : World) : Prop := (∃ r, e = .returned (.int .i64 r) ∧ Idx fl l r) ∧ Fr0 w w'
theorem findex_calls (A : Option Addr) (c : Nat) (l : List Pk) (bx : Nat) (fl : Int) (w : World) (hR : Rd (fun _ => False) w A (pks l)) (hl : l.length ≤ 1000000) (hb : w.cell? ⟨bx, 0, none⟩ = some (.int .i64 fl)) :
    Calls Try.prog 41 #[.slice A l.length c, flFn bx] w (IdxPost fl l w) := by
  have HR := Lib.hid hR
  have HB := Lib.hid hb
  clear hR hb
  go_enter Try.func41, Try.ntmps41
  go_wp2_with fail
  go_loopw [5, 8] (fun j i wr => ∃ (k : Nat), k ≤ l.length ∧ i = .int .i64 (k : Int) ∧ Hid (∀ x ∈ l.take k, isFl fl x = false) ∧ Hid (Fr0 w wr)) (fun _ i _ => l.length - (intOf i).toNat)
  case atStart => exact ⟨0, by omega, rfl, fun x hx => by simp at hx, Fr.refl _ _⟩
  case round =>
    obtain ⟨k, hk, rfl, HA, HF⟩ := hrel
    by_cases hlt : k < l.length
    · have hr := HR.out.kept HF.out
      obtain ⟨b, off, rfl⟩ := hr.some_ (by rw [pks_length]; omega)
      obtain ⟨d0, d1, d2⟩ := rd_pk hr k hlt
      have hi1 : (0 : Int) ≤ (k : Int) := by omega
      have hi2 : (k : Int) < (l.length : Int) := by omega
      have HBW := Lib.hid (HF.out.cell HB.out (fun h => h))
      have HTS := Lib.hid (fun (h : isFl fl l[k] = false) => take_snoc_all (P := fun x => isFl fl x = false) hlt HA.out h)
      have HTY := Lib.hid (fun (h : isFl fl l[k] = true) => show Idx fl l (k : Int) from .inr ⟨k, hlt, rfl, h, HA.out⟩)
      generalize l[k] = x at *
      clear hr
      cases hx : isFl fl x
      · go_wp2_with (go_at_call 38; refine (fisfl_calls _ _ _ _ HBW.out).mono ?_; rintro e w5 ⟨rfl, hf5⟩)
        have HF5 := Lib.hid (HF.out.trans hf5)
        have HT := Lib.hid (HTS.out hx)
        clear hf5
        go_wp2_with fail
        go_roundw
        case rel => exact ⟨k + 1, by omega, by go_num, HT.out, HF5.out⟩
        case measure => simp [intOf]; omega
      · go_wp2_with (go_at_call 38; refine (fisfl_calls _ _ _ _ HBW.out).mono ?_; rintro e w5 ⟨rfl, hf5⟩)
        have HF5 := Lib.hid (HF.out.trans hf5)
        have HT := Lib.hid (HTY.out hx)
        clear hf5
        go_wp2_with fail
        go_ret
        exact ⟨⟨_, rfl, HT.out⟩, HF5.out⟩
    · have hkm : k = l.length := by omega
      subst hkm
      go_wp2_with fail
      go_ret
      exact ⟨⟨_, rfl, .inl ⟨rfl, by have := HA.out; rwa [List.take_length] at this⟩⟩, HF.out⟩

/-- A row of packets while those of a flow are being dropped: j gone over, i kept. -/
structure Dropping (fl : Int) (l R : List Pk) (i j : Nat) : Prop where
  len : R.length = l.length
  le : i ≤ j
  kept : R.take i = (l.take j).filter fun x => !isFl fl x
  rest : R.drop j = l.drop j
theorem Dropping.start {fl : Int} {l : List Pk} {k : Nat} (h : k < l.length) (hk : isFl fl l[k] = true) (ha : ∀ x ∈ l.take k, isFl fl x = false) : Dropping fl l l k (k + 1) := by
  refine ⟨rfl, by omega, ?_, rfl⟩
  rw [List.take_succ_eq_append_getElem h, List.filter_append]
  have e1 : (l.take k).filter (fun x => !isFl fl x) = l.take k := List.filter_eq_self.2 fun x hx => by simp [ha x hx]
  rw [e1]
  simp [hk]
theorem Dropping.at_ {fl : Int} {l R : List Pk} {i j : Nat} (h : Dropping fl l R i j) (hj : j < l.length) : ∃ hj' : j < R.length, R[j] = l[j] := by
  have hj' : j < R.length := by rw [h.len]; exact hj
  refine ⟨hj', ?_⟩
  have e := congrArg (·[0]?) h.rest
  simpa [List.getElem?_drop, hj, hj'] using e
theorem Dropping.gone {fl : Int} {l R : List Pk} {i j : Nat} (h : Dropping fl l R i j) (hj : j < l.length) (hx : isFl fl l[j] = true) : Dropping fl l R i (j + 1) := by
  refine ⟨h.len, by have := h.le; omega, ?_, ?_⟩
  · rw [h.kept, List.take_succ_eq_append_getElem hj, List.filter_append]
    simp [hx]
  · rw [← List.drop_drop, ← List.drop_drop, h.rest]
theorem Dropping.stay {fl : Int} {l R : List Pk} {i j : Nat} (h : Dropping fl l R i j) (hj : j < l.length) (hx : isFl fl l[j] = false) : Dropping fl l (R.set i l[j]) (i + 1) (j + 1) := by
  have hi : i < R.length := by have := h.le; have := h.len; omega
  refine ⟨by rw [List.length_set]; exact h.len, by have := h.le; omega, ?_, ?_⟩
  · rw [List.take_succ_eq_append_getElem hj, List.filter_append, ← h.kept]
    have hi2 : i < (R.set i l[j]).length := by simpa using hi
    rw [List.take_succ_eq_append_getElem hi2]
    simp [hx, List.take_set_of_le]
  · rw [List.drop_set_of_lt (by have := h.le; omega), ← List.drop_drop, ← List.drop_drop, h.rest]
theorem filter_none {fl : Int} {l : List Pk} (h : ∀ x ∈ l, isFl fl x = false) : l.filter (fun x => !isFl fl x) = l := List.filter_eq_self.2 fun x hx => by simp [h x hx]
theorem Dropping.done {fl : Int} {l R : List Pk} {i : Nat} (h : Dropping fl l R i l.length) : R.take i = l.filter (fun x => !isFl fl x) ∧ (l.filter fun x => !isFl fl x).length = i := by
  have h1 := h.kept
  rw [List.take_length] at h1
  refine ⟨h1, ?_⟩
  rw [← h1, List.length_take, h.len]
  have := h.le
  omega
theorem row_set {w : World} {g : Nat} {R : List Pk} {sp : List Value} {t : TypeId} (h : w.heap[g]? = some (.cells (pks R ++ sp).toArray t (0, 0))) (i : Nat) (hi : i < R.length) (p : Pk) :
    (((w.setCell ⟨g, i * 3, none⟩ (.int .i64 p.id)).setCell ⟨g, i * 3 + 1, none⟩ (.int .i64 p.flow)).setCell ⟨g, i * 3 + 2, none⟩ (.int .i64 p.size)).heap[g]? = some (.cells (pks (R.set i p) ++ sp).toArray t (0, 0)) := by
  rw [blk_setCell (blk_setCell (blk_setCell h (i * 3) (.int .i64 p.id)) (i * 3 + 1) (.int .i64 p.flow)) (i * 3 + 2) (.int .i64 p.size)]
  have hlen := pks_length R
  rw [← pks_set R i p hi]
  congr 2
  apply Array.ext'
  simp only [Array.toList_setIfInBounds]
  rw [List.set_append_left _ _ (by omega), List.set_append_left _ _ (by simp; omega), List.set_append_left _ _ (by simp; omega)]
def DelPost (base : Nat) (fl : Int) (l : List Pk) (v : Value) (w : World) (e : Ending) (w' : World) : Prop :=
  (∃ A c, e = .returned (.slice A (l.filter fun x => !isFl fl x).length c) ∧ Rd (· < base) w' A (pks (l.filter fun x => !isFl fl x))) ∧ Fr (fun k => v.ownBlock = some k) w w'
set_option maxHeartbeats 1000000 in
theorem fdelete_calls (base : Nat) (v : Value) (l : List Pk) (bx : Nat) (fl : Int) (w : World) (hown : pkRow w base v l) (hl : l.length ≤ 1000000) (hb : w.cell? ⟨bx, 0, none⟩ = some (.int .i64 fl)) (hbx : v.ownBlock ≠ some bx) :
    Calls Try.prog 37 #[v, flFn bx] w (DelPost base fl l v w) := by
  obtain ⟨ti, tz, hti, htz, _, _, hzs⟩ : ∃ i z, Try.prog.info? 34 = some i ∧ i.zero = some z ∧ i.size = 3 ∧ i.bytes = 24 ∧ z = .agg #[.int .i64 0, .int .i64 0, .int .i64 0] := ⟨_, _, rfl, rfl, rfl, rfl, rfl⟩
  obtain ⟨A, c, rfl, hlc, hcm⟩ := own_form hown
  have hR := own_rd (fun _ => False) hown (fun _ _ _ h => h)
  have HR := Lib.hid hR
  have HB := Lib.hid hb
  have HO := Lib.hid hown
  have HIX := Lib.hid (findex_calls A c l bx fl w hR hl hb)
  clear hR hb hown
  go_enter Try.func37, Try.ntmps37
  go_wp2_with fail
  refine HIX.out.mono ?_
  rintro e w2 ⟨⟨r, rfl, hix⟩, hf2⟩
  have HF2 := Lib.hid hf2
  clear hf2
  rcases hix with ⟨rfl, hall⟩ | ⟨k0, hk0, rfl, hk1, hk2⟩
  · go_wp2_with fail
    go_ret
    refine ⟨⟨A, c, by rw [filter_none hall]; rfl, ?_⟩, HF2.out.any⟩
    rw [filter_none hall]
    exact own_rd _ (own_kept0 HO.out HF2.out) (fun q h1 h2 h3 => by omega)
  · obtain ⟨g, cap, hgv⟩ : ∃ g cap, A = some ⟨g, 0, none⟩ ∧ cap = c := by
      obtain ⟨g, cap, hv, _⟩ := HO.out.form (by omega)
      injection hv with hA
      exact ⟨g, c, hA, rfl⟩
    obtain ⟨rfl, rfl⟩ := hgv
    obtain ⟨hbg, sp, hrow⟩ := own_row HO.out
    have hD0 := Dropping.start hk0 hk1 hk2
    have HD0 := Lib.hid hD0
    have HW2 := Lib.hid (HF2.out.blk hrow (fun h => h))
    have HBG := Lib.hid hbg
    have hne : g ≠ bx := fun e => hbx (by rw [e]; rfl)
    have HNE := Lib.hid hne
    have hq0 : ((k0 : Int) == -1) = false := by simp
    clear hk1 hk2 hrow hD0 hbg hne
    go_wp2_with fail
    go_loopw [5, 6, 7] (fun i j _ wr => ∃ (R : List Pk) (a b : Nat), b ≤ l.length ∧ a < b ∧ i = .int .i64 (a : Int) ∧ j = .int .i64 (b : Int) ∧ Hid (Dropping fl l R a b) ∧ Hid (wr.heap[g]? = some (.cells (pks R ++ sp).toArray 34 (0, 0))) ∧ Hid (Fr (· = g) w wr)) (fun _ j _ _ => l.length - (intOf j).toNat)
    case atStart => exact ⟨l, k0, k0 + 1, by omega, by omega, rfl, by go_num, HD0.out, HW2.out, HF2.out.any⟩
    case round =>
      obtain ⟨R, a, b, hbl, hab, rfl, rfl, HD, HRW, HFR⟩ := hrel
      by_cases hlt : b < l.length
      · obtain ⟨hb', hRb⟩ := HD.out.at_ hlt
        have hRL := HD.out.len
        obtain ⟨d0, d1, d2⟩ := row_cells HRW.out b hb'
        have hgd : R.getD b pk0 = l[b] := by rw [← hRb]; simp [hb']
        rw [hgd] at d0 d1 d2
        have hi1 : (0 : Int) ≤ (b : Int) := by omega
        have hi2 : (b : Int) < (l.length : Int) := by omega
        have hi3 : (0 : Int) ≤ (a : Int) := by omega
        have hi4 : (a : Int) < (l.length : Int) := by omega
        have HBW := Lib.hid (HFR.out.cell HB.out (fun e : bx = g => HNE.out e.symm))
        have HGO := Lib.hid (fun h => HD.out.gone hlt h)
        have HST := Lib.hid (fun h => HD.out.stay hlt h)
        have HRS := Lib.hid (fun (W : World) (h : W.heap[g]? = some (.cells (pks R ++ sp).toArray 34 (0, 0))) => row_set h a (by omega) l[b])
        have HRC := Lib.hid (fun (W : World) (h : W.heap[g]? = some (.cells (pks R ++ sp).toArray 34 (0, 0))) => row_cells h a (by omega))
        have HLA := Lib.hid (fun (o : Obj) => (Fr.refl (fun _ => False) wr).alloc o)
        have HNW := Lib.hid (heap_alloc_new wr (.cells (pkc l[b]).toArray 34))
        have HLG := Lib.hid (lt_of_block HRW.out)
        generalize l[b] = x at *
        clear hgd hRb
        cases hx : isFl fl x
        · go_wp2_with fail
          refine (fisfl_calls _ _ _ _ ((HLA.out _).cell HBW.out (fun h => h))).mono ?_
          rintro e w5 ⟨rfl, hf5⟩
          have hr5 := hf5.blk (blk_alloc HRW.out (.cells (pkc x).toArray 34)) (fun h => h)
          obtain ⟨k0, k1, k2⟩ := HRC.out _ hr5
          obtain ⟨⟨z0, z1, z2⟩, _⟩ := pk_cells (hf5.blk HNW.out (fun h => h))
          have g0 : w5.frozen? ⟨g, a * 3, none⟩ = false := free_of_blk hr5 _
          have g1 : w5.frozen? ⟨g, a * 3 + 1, none⟩ = false := free_of_blk hr5 _
          have g2 : w5.frozen? ⟨g, a * 3 + 2, none⟩ = false := free_of_blk hr5 _
          have HS5 := Lib.hid (HRS.out _ hr5)
          have HF5 := Lib.hid (HFR.out.trans (Fr0.any ((HLA.out _).trans hf5)))
          have HT := Lib.hid (HST.out hx)
          clear hf5 hr5
          go_wp2_with fail
          go_roundw
          case rel => exact ⟨R.set a x, a + 1, b + 1, by omega, by omega, by go_num, by go_num, HT.out, HS5.out, fset (b := g) (fset (b := g) (fset (b := g) HF5.out _ _) _ _) _ _⟩
          case measure => simp [intOf]; omega
        · go_wp2_with fail
          refine (fisfl_calls _ _ _ _ ((HLA.out _).cell HBW.out (fun h => h))).mono ?_
          rintro e w5 ⟨rfl, hf5⟩
          have hr5 := hf5.blk (blk_alloc HRW.out (.cells (pkc x).toArray 34)) (fun h => h)
          have HR5 := Lib.hid hr5
          have HF5 := Lib.hid (HFR.out.trans (Fr0.any ((HLA.out _).trans hf5)))
          have HT := Lib.hid (HGO.out hx)
          clear hf5 hr5
          go_wp2_with fail
          go_roundw
          case rel => exact ⟨R, a, b + 1, by omega, by omega, rfl, by go_num, HT.out, HR5.out, HF5.out⟩
          case measure => simp [intOf]; omega
      · have hbl2 : b = l.length := by omega
        subst hbl2
        go_wp2_with fail
        have hlen := HD.out.len
        have hdn := HD.out.done
        have hzc : tz.cells.size = 3 := by rw [hzs]; rfl
        have hrun := run_clearN (P := Try.prog) wr 28 0 34 ti tz g (a * 3) (l.length - a) (cap - a) _ _ Try.underlying28 hti htz HRW.out (by omega) (by rw [hzc]; simp [pks_length]; omega) (by rw [hzs]; intro v hv; have hv' : v ∈ (#[.int .i64 0, .int .i64 0, .int .i64 0] : Array Value) := hv; simp at hv'; subst hv'; rfl)
        have hg6 := setRow_heap wr g _ ((pks R ++ sp).toArray.toList.take (a * 3) ++ (Builtin.zeroCells tz.cells (l.length - a)).toList ++ (pks R ++ sp).toArray.toList.drop (a * 3 + (l.length - a) * tz.cells.size)).toArray _ (0, 0) HRW.out
        have hf6 : Fr (· = g) w (wr.setRow g ((pks R ++ sp).toArray.toList.take (a * 3) ++ (Builtin.zeroCells tz.cells (l.length - a)).toList ++ (pks R ++ sp).toArray.toList.drop (a * 3 + (l.length - a) * tz.cells.size)).toArray) := Fr.setRow (S := (· = g)) HFR.out (fun _ => rfl) _
        generalize hw6 : wr.setRow g ((pks R ++ sp).toArray.toList.take (a * 3) ++ (Builtin.zeroCells tz.cells (l.length - a)).toList ++ (pks R ++ sp).toArray.toList.drop (a * 3 + (l.length - a) * tz.cells.size)).toArray = w6 at *
        clear hw6
        have HG6 := Lib.hid hg6
        have HF6 := Lib.hid hf6
        clear hg6 hf6
        go_wp2_with fail
        go_ret
        refine ⟨⟨some ⟨g, 0, none⟩, cap, ?_, ?_⟩, HF6.out.mono (fun k _ e => by subst e; rfl)⟩
        · rw [hdn.2]; rfl
        · rw [← hdn.1]
          refine .inr ⟨g, 0, rfl, by have := HBG.out; show ¬ g < base; omega, fun i hi => ?_⟩
          rw [Nat.zero_add, cell_of_blk HG6.out i]
          have hp : pks (R.take a) = (pks R).take (a * 3) := by
            have e : pks R = pks (R.take a) ++ pks (R.drop a) := by rw [← pks_append, List.take_append_drop]
            have hl2 : (pks (R.take a)).length = a * 3 := by rw [pks_length, List.length_take]; congr 1; omega
            rw [e, ← hl2, List.take_left]
          have hl3 : a * 3 ≤ (pks R).length := by rw [pks_length]; omega
          have hi' := hi
          rw [hp, List.length_take] at hi'
          simp only [List.append_assoc, List.getElem?_toArray]
          rw [List.getElem?_append_left (by rw [List.length_take, List.length_append]; omega)]
          rw [List.getElem?_take, if_pos (by omega), List.getElem?_append_left (by omega)]
          rw [List.getElem?_eq_getElem (by omega)]
          congr 1
          simp only [hp, List.getElem_take]
end Go.Proofs.Ytfiiikgjgcnjgaa
