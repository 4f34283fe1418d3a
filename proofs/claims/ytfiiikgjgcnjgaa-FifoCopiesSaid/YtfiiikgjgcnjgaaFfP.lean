/- Chapter 15: the document's Take, Drop. -/
import Derived.Test.YtfiiikgjgcnjgaaFfO
set_option linter.unusedVariables false
set_option linter.unusedSimpArgs false
namespace Go.Proofs.Ytfiiikgjgcnjgaa
open Go.RowKit

theorem results_row_row_tmp {P : Program} {fn : Func} {p p2 u : Tmp} {ty ty2 : TypeId} (h : fn.results = #[.cell p ty, .cell p2 ty2, .tmp u]) (tmps : Array Value) (w : World) (g g2 : Nat) (t t2 : TypeId) (cs cs2 : Array Value) (fr fr2 : Nat × Nat) (d d2 : TypeDesc)
    (hp : tmps.getD p undef = .pointer (some ⟨g, 0, none⟩)) (hp2 : tmps.getD p2 undef = .pointer (some ⟨g2, 0, none⟩)) (hg : w.heap[g]? = some (.cells cs t fr)) (hg2 : w.heap[g2]? = some (.cells cs2 t2 fr2))
    (hu : P.underlying ty = some d) (hd : (match d with | .struct _ | .array _ _ => true | _ => false) = true) (hi : (P.info? ty).map (·.size) = some cs.size)
    (hu2 : P.underlying ty2 = some d2) (hd2 : (match d2 with | .struct _ | .array _ _ => true | _ => false) = true) (hi2 : (P.info? ty2).map (·.size) = some cs2.size) :
    (results fn tmps).run P w = .ok (.tuple #[.agg cs, .agg cs2, tmps.getD u undef]) w := by
  have h1 := run_loadVar_row (P := P) w g t ty cs fr d hg hu hd hi
  have h2 := run_loadVar_row (P := P) w g2 t2 ty2 cs2 fr2 d2 hg2 hu2 hd2 hi2
  simp only [Array.getD_eq_getD_getElem?] at hp hp2
  simp only [results, h]
  simp [Sem.run_bind, Result.andThen, hp, hp2, asAddr, h1, h2]

abbrev rlz : Array Value := rlc 0 none 0 0 0 0
def rtakeW (w : World) (room : Int) (A : Option Addr) (n c : Nat) (p b : Int) : World := ((w.alloc (.cells (rlc room A n c p b) 30)).alloc (.cells rlz 30)).alloc (.cells (pkc pk0).toArray 34)
structure RtakeB (w W : World) (room : Int) (A : Option Addr) (n c : Nat) (p b : Int) : Prop where
  b0 : W.heap[w.heap.size]? = some (.cells (rlc room A n c p b) 30 (0, 0))
  b1 : W.heap[w.heap.size + 1]? = some (.cells rlz 30 (0, 0))
  b2 : W.heap[w.heap.size + 2]? = some (.cells (pkc pk0).toArray 34 (0, 0))
  sz : W.heap.size = w.heap.size + 3
  fr : Fr0 w W
theorem rtakeW_b (w : World) (room : Int) (A : Option Addr) (n c : Nat) (p b : Int) : RtakeB w (rtakeW w room A n c p b) room A n c p b :=
  ⟨blk_alloc (blk_alloc (heap_alloc_new _ _) _) _, blk_alloc (heap_alloc_nn (by simp)) _, heap_alloc_nn (by simp), by simp [rtakeW], (((Fr.refl _ w).alloc _).alloc _).alloc _⟩
theorem rtake_empty (room : Int) (A : Option Addr) (c : Nat) (p b : Int) (w : World) :
    Calls Try.prog 25 #[rlv room A 0 c p b] w fun e w' => e = .returned (.tuple #[rlv room A 0 c p b, pkv pk0, .bool false]) ∧ Fr0 w w' := by
  go_enter Try.func25, Try.ntmps25
  go_wp2_with fail
  exact bodyPost_ret (results_row_row_tmp rfl _ _ (w.heap.size + 1) (w.heap.size + 1 + 1) _ _ _ _ _ _ _ _ rfl rfl (blk_alloc (heap_alloc_nn (by simp)) _) (heap_alloc_nn (by simp)) Try.underlying30 rfl (by kernel_rfl) Try.underlying34 rfl (by kernel_rfl)) rfl ⟨rfl, (((Fr.refl _ w).alloc _).alloc _).alloc _⟩
set_option maxHeartbeats 1000000 in
theorem rtake_some (room : Int) (g off c : Nat) (x : Pk) (l : List Pk) (p b : Int) (w : World) (hR : Rd (fun _ => False) w (some ⟨g, off, none⟩) (pks (x :: l))) (hc : l.length + 1 ≤ c) (hcm : c ≤ maxLen) :
    Calls Try.prog 25 #[rlv room (some ⟨g, off, none⟩) (l.length + 1) c p b] w fun e w' => e = .returned (.tuple #[rlv room (some ⟨g, if c = 1 then off else off + 3, none⟩) l.length (c - 1) p b, pkv x, .bool true]) ∧ Fr0 w w' := by
  obtain ⟨d0, d1, d2⟩ := rd_pk hR 0 (by simp)
  have key : ∀ i v, w.cell? ⟨g, i, none⟩ = some v → ∀ o1 o2 o3, (((w.alloc o1).alloc o2).alloc o3).cell? ⟨g, i, none⟩ = some v := fun i v h o1 o2 o3 => ((((Fr.refl (fun _ => False) w).alloc o1).alloc o2).alloc o3).cell h (fun h => h)
  have k0 := key _ _ d0
  have k1 := key _ _ d1
  have k2 := key _ _ d2
  have hm : ((l.length : Int) + 1 == 0) = false := by simp; omega
  have hi : (0 : Int) < (l.length : Int) + 1 := by omega
  simp only [List.getElem_cons_zero, Nat.zero_mul, Nat.add_zero] at k0 k1 k2
  clear d0 d1 d2 key hR
  unfold maxLen at hcm
  by_cases h1 : c = 1
  · subst h1
    obtain rfl : l = [] := List.length_eq_zero_iff.1 (by omega)
    simp only [List.length_nil, Nat.zero_add, ↓reduceIte]
    go_enter Try.func25, Try.ntmps25
    go_wp2_with fail
    go_region
    all_goals
      go_wp2_with fail
      exact bodyPost_ret (results_row_row_tmp rfl _ _ (w.heap.size + 1) (w.heap.size + 1 + 1) _ _ _ _ _ _ _ _ rfl rfl (blk_drew (blk_alloc (blk_alloc (heap_alloc_nn (by simp)) _) _)) (blk_drew (blk_alloc (heap_alloc_nn (by simp)) _)) Try.underlying30 rfl (by kernel_rfl) Try.underlying34 rfl (by kernel_rfl)) rfl ⟨rfl, ((((Fr.refl _ w).alloc _).alloc _).alloc _).alloc _ |>.drew⟩
  · simp only [h1, ↓reduceIte]
    go_enter Try.func25, Try.ntmps25
    go_wp2_with fail
    go_region
    all_goals
      go_wp2_with fail
      exact bodyPost_ret (results_row_row_tmp rfl _ _ (w.heap.size + 1) (w.heap.size + 1 + 1) _ _ _ _ _ _ _ _ rfl rfl (blk_drew (blk_alloc (blk_alloc (heap_alloc_nn (by simp)) _) _)) (blk_drew (blk_alloc (heap_alloc_nn (by simp)) _)) Try.underlying30 rfl (by kernel_rfl) Try.underlying34 rfl (by kernel_rfl)) rfl ⟨rfl, ((((Fr.refl _ w).alloc _).alloc _).alloc _).alloc _ |>.drew⟩
theorem rd_tail {S : Nat → Prop} {w : World} {g off : Nat} {x : Pk} {l : List Pk} (h : Rd S w (some ⟨g, off, none⟩) (pks (x :: l))) (c : Nat) (hc : l.length + 1 ≤ c) : Rd S w (some ⟨g, if c = 1 then off else off + 3, none⟩) (pks l) := by
  by_cases h1 : c = 1
  · obtain rfl : l = [] := List.length_eq_zero_iff.1 (by omega)
    exact Rd.nil _ _ _
  · simp only [h1, ↓reduceIte]
    rcases h with h | ⟨b, o, e, hs, h⟩
    · simp [pks] at h
    · cases e
      refine .inr ⟨g, off + 3, rfl, hs, fun i hi => ?_⟩
      have hl : (pks (x :: l)).length = (pks l).length + 3 := by rw [pks_length, pks_length, List.length_cons]; omega
      have h2 := h (3 + i) (by omega)
      rw [show off + 3 + i = off + (3 + i) by omega, h2]
      congr 1
      have e : pks (x :: l) = pkc x ++ pks l := rfl
      simp only [e]
      rw [List.getElem_append_right (by simp)]
      congr 1
      simp
/-- What Drop answers. -/
def RdropPost (room : Int) (l : List Pk) (fl : Int) (p b : Int) (w : World) (e : Ending) (w' : World) : Prop :=
  (∃ A' c', e = .returned (.tuple #[rlv room A' (l.filter fun x => !isFl fl x).length c' p b, .int .i64 ((l.length : Int) - (l.filter fun x => !isFl fl x).length)]) ∧ (l.filter fun x => !isFl fl x).length ≤ c' ∧ c' ≤ maxLen ∧ (A' = none → (l.filter fun x => !isFl fl x).length = 0) ∧ ∀ S, (∀ k, w.heap.size ≤ k → ¬ S k) → Rd S w' A' (pks (l.filter fun x => !isFl fl x))) ∧ Fr0 w w'
set_option maxHeartbeats 1000000 in
theorem rdrop_calls (room : Int) (A : Option Addr) (c : Nat) (l : List Pk) (fl : Int) (p b : Int) (w : World) (hR : Rd (fun _ => False) w A (pks l)) (hl : l.length ≤ 1000000) :
    Calls Try.prog 26 #[rlv room A l.length c p b, .int .i64 fl] w (RdropPost room l fl p b w) := by
  have HB := Lib.hid (show ((w.alloc (.cells (rlc room A l.length c p b) 30)).alloc (.cells rlz 30)).heap[w.heap.size]? = some (.cells (rlc room A l.length c p b) 30 (0, 0)) from blk_alloc (heap_alloc_new _ _) _)
  have HZ := Lib.hid (show ((w.alloc (.cells (rlc room A l.length c p b) 30)).alloc (.cells rlz 30)).heap[w.heap.size + 1]? = some (.cells rlz 30 (0, 0)) from heap_alloc_nn (by simp))
  have HF := Lib.hid (((Fr.refl (fun _ => False) w).alloc (.cells (rlc room A l.length c p b) 30)).alloc (.cells rlz 30))
  have HSZ := Lib.hid (show ((w.alloc (.cells (rlc room A l.length c p b) 30)).alloc (.cells rlz 30)).heap.size = w.heap.size + 2 by simp)
  have HR := Lib.hid (hR.kept HF.out)
  clear hR
  go_enter Try.func26, Try.ntmps26
  go_wp2_with fail
  generalize (w.alloc (.cells (rlc room A l.length c p b) 30)).alloc (.cells rlz 30) = W at *
  go_loopw [6, 7] (fun v i wr => ∃ (k : Nat), k ≤ l.length ∧ i = .int .i64 (k : Int) ∧ Hid (pkRow wr W.heap.size v ((l.take k).filter fun x => !isFl fl x)) ∧ Hid (Fr0 W wr)) (fun _ i _ => l.length - (intOf i).toNat)
  case atStart => exact ⟨0, by omega, rfl, own_nil _ _ _ _, Fr.refl _ _⟩
  case round =>
    obtain ⟨k, hk, rfl, HO, HFR⟩ := hrel
    obtain ⟨AL, cL, rfl, hlc, hcm⟩ := own_form HO.out
    have hb := HFR.out.blk HB.out (fun h => h)
    obtain ⟨⟨c0, c1, c2, c3⟩, f0, f1, f2, f3⟩ := rl_cells hb
    by_cases hlt : k < l.length
    · have hr := HR.out.kept HFR.out
      obtain ⟨g, off, rfl⟩ := hr.some_ (by rw [pks_length]; omega)
      obtain ⟨d0, d1, d2⟩ := rd_pk hr k hlt
      have hi1 : (0 : Int) ≤ (k : Int) := by omega
      have hi2 : (k : Int) < (l.length : Int) := by omega
      have hln : ((l.take k).filter fun x => !isFl fl x).length ≤ k := by have := List.length_filter_le (fun x => !isFl fl x) (l.take k); rw [List.length_take] at this; omega
      have HTF := Lib.hid (show (l.take (k + 1)).filter (fun x => !isFl fl x) = (l.take k).filter (fun x => !isFl fl x) ++ (if isFl fl l[k] then [] else [l[k]]) by
        rw [List.take_succ_eq_append_getElem hlt, List.filter_append]
        cases h : isFl fl l[k] <;> simp [h])
      generalize l[k] = x at *
      generalize (l.take k).filter (fun x => !isFl fl x) = L at *
      obtain ⟨x0, x1, x2⟩ := x
      clear hr hb
      dsimp only at d0 d1 d2
      by_cases hx : x1 = fl
      · have hi : isFl fl ⟨x0, x1, x2⟩ = true := by simpa [isFl] using hx
        rw [hi] at HTF
        have hq : (x1 == fl) = true := by simpa using hx
        have hq2 : (x1 != fl) = false := by simpa using hx
        clear hi hx
        go_wp2_with fail
        go_roundw
        case rel => exact ⟨k + 1, by omega, by go_num, by rw [HTF.out]; simpa using HO, HFR.out⟩
        case measure => simp [intOf]; omega
      · have hi : isFl fl ⟨x0, x1, x2⟩ = false := by simpa [isFl] using hx
        rw [hi] at HTF
        have hq : (x1 == fl) = false := by simpa using hx
        have hq2 : (x1 != fl) = true := by simpa using hx
        clear hi hx
        go_wp2_with (at_builtin; refine wpList_app rfl (.tmp 24) (.tmp 30) _ rfl Try.underlying28 pk_elem (base := W.heap.size) (.slice AL L.length cL) L.length (pks L) rfl (own_kept0 HO.out ((Fr.refl _ wr).alloc _)) (fun _ => False) _ 1 1 (pks [⟨x0, x1, x2⟩]) rfl (rd_pk1 _ wr ⟨x0, x1, x2⟩ _ (fun h => h)) rfl (pks_one _) (by simp only [maxLen]; omega) (by omega) (by have := HFR.out.size; simp; omega) (by simp) ?_; intro v6 w6 hown hg hat; rw [← pks_append] at hown; have HO6 := Lib.hid hown; have HF6 := Lib.hid ((HFR.out.alloc (.cells #[.int .i64 x0, .int .i64 x1, .int .i64 x2] 34)).grown hg (fun q hq e => by have := (own_blk HO.out e).1; omega)); clear hown hg hat)
        go_roundw
        case rel => exact ⟨k + 1, by omega, by go_num, by rw [HTF.out]; simp only [Bool.false_eq_true, ↓reduceIte]; show World.ownsRow _ _ _ _ _ _ _; rw [List.length_append]; exact HO6.out, HF6.out⟩
        case measure => simp [intOf]; omega
    · have hkm : k = l.length := by omega
      subst hkm
      rw [List.take_length] at HO hlc
      have hfl := List.length_filter_le (fun x => !isFl fl x) l
      have HAN := Lib.hid (show AL = none → (l.filter fun x => !isFl fl x).length = 0 from fun e => by
        subst e
        rcases Nat.eq_zero_or_pos (l.filter fun x => !isFl fl x).length with h | h
        · exact h
        · obtain ⟨g, cap, e, _⟩ := HO.out.form h
          cases e)
      have HRF := Lib.hid (own_rd (fun k => k < W.heap.size) HO.out (fun k h1 _ h2 => by omega))
      have hz := HFR.out.blk HZ.out (fun h => h)
      rw [List.take_length]
      generalize hLL : (l.filter fun x => !isFl fl x) = L at *
      have HLL := Lib.hid hLL
      clear hLL
      have HB1 := Lib.hid (blk_setCell hb 1 (.slice AL L.length cL))
      have HZ1 := Lib.hid (blk_setCell_other hz (p := ⟨w.heap.size, 1, none⟩) (by simp) (.slice AL L.length cL))
      have HF1 := Lib.hid ((HF.out.trans HFR.out).setCell (p := ⟨w.heap.size, 1, none⟩) (fun h => absurd h (Nat.lt_irrefl _)) (.slice AL L.length cL))
      have HR1 := Lib.hid (HRF.out.kept ((Fr.refl (fun k => k < W.heap.size) wr).setCell (p := ⟨w.heap.size, 1, none⟩) (fun _ => by have := HSZ.out; show w.heap.size < W.heap.size; omega) (.slice AL L.length cL)))
      clear hb hz
      go_upto_region 9 with fail
      clear c0 c1 c2 c3 f0 f1 f2 f3
      generalize wr.setCell ⟨w.heap.size, 1, none⟩ (.slice AL L.length cL) = w7 at *
      obtain ⟨⟨c0, c1, c2, c3⟩, _⟩ := rl_cells (show w7.heap[w.heap.size]? = some (.cells (rlc room AL L.length cL p b) 30 (0, 0)) from HB1.out)
      obtain ⟨_, f0, f1, f2, f3⟩ := rl_cells HZ1.out
      obtain ⟨⟨x0, x1, x2, x3⟩, _⟩ := rl_cells HZ1.out
      go_wp2_with fail
      refine bodyPost_ret (results_row_tmp rfl _ _ (w.heap.size + 1) _ _ _ _ rfl (putRl_blk HZ1.out room AL L.length cL p b) Try.underlying30 rfl (by kernel_rfl)) rfl ?_
      show RdropPost room l fl p b w _ _
      unfold RdropPost
      rw [HLL.out]
      refine ⟨⟨AL, cL, rfl, hlc, hcm, HAN.out, fun S hS => ?_⟩, putRl_fr HF1.out (fun h => by omega) room AL L.length cL p b⟩
      have h1 := HR1.out.kept (putRl_fr (Fr.refl (fun k => k < W.heap.size) w7) (k := w.heap.size + 1) (fun _ => by have := HSZ.out; show w.heap.size + 1 < W.heap.size; omega) room AL L.length cL p b)
      rcases h1 with h1 | ⟨g, off, h1, h2, h3⟩
      · exact .inl h1
      · exact .inr ⟨g, off, h1, hS g (by have := HSZ.out; have h2' : ¬ g < W.heap.size := h2; omega), h3⟩
end Go.Proofs.Ytfiiikgjgcnjgaa
