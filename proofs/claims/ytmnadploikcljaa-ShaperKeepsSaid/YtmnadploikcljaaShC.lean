/- Chapter 13: All: the iterator over what waits; Spec, Copy. -/
import Derived.Test.YtmnadploikcljaaShB
set_option linter.unusedVariables false
set_option linter.unusedSimpArgs false
namespace Go.Proofs.Ytmnadploikcljaa
open Go.RowKit
attribute [local go_sem] Oper.semAt_some

/-- An iterator over waiting packets that lie in blocks from base on. -/
def IsSeqW (base : Nat) (w : World) (f : Value) (l : List (Int × Int)) : Prop :=
  ∃ p A c, f = .func (.func 56) #[] #[.pointer (some ⟨p, 0, none⟩)] ∧ base ≤ p ∧ w.heap[p]? = some (.cells #[.slice A l.length c] 30 (0, 0)) ∧ Rd (· < base) w A (sends l)
theorem IsSeqW.kept {base : Nat} {w w' : World} {f : Value} {l : List (Int × Int)} {S : Nat → Prop} (h : IsSeqW base w f l) (hf : Fr S w w') (hS : ∀ k, S k → k < base) : IsSeqW base w' f l := by
  obtain ⟨p, A, c, h1, h2, h3, h4⟩ := h
  exact ⟨p, A, c, h1, h2, hf.blk h3 (fun hs => by have := hS _ hs; omega), h4.kept (hf.mono (fun k _ hk => hS k hk))⟩
theorem IsSeqW.kept0 {base : Nat} {w w' : World} {f : Value} {l : List (Int × Int)} (h : IsSeqW base w f l) (hf : Fr0 w w') : IsSeqW base w' f l := h.kept hf (fun _ h => h.elim)
theorem values_calls (A : Option Addr) (n c : Nat) (w : World) : Calls Try.prog 45 #[.slice A n c] w fun e w' =>
    e = .returned (.func (.func 56) #[] #[.pointer (some ⟨w.heap.size, 0, none⟩)]) ∧ w.alloc (.cells #[.slice A n c] 30) = w' := by
  have hmf : ∀ (fn : Fn) (first cap : Array Value) (w : World), (Instr.makeFunc fn first cap).run Try.prog w = .ok (.func fn first cap) w := fun _ _ _ _ => rfl
  go_enter Try.func45, Try.ntmps45
  go_wp2_with fail
  go_ret
  exact ⟨rfl, rfl⟩
theorem sallw_calls (b m : Nat) (X : Sh) (w : World) (h : IsSh w b m X) : Calls Try.prog 23 #[.pointer (some ⟨b, 0, none⟩)] w fun e w' => (∃ f, e = .returned f ∧ IsSeqW w.heap.size w' f X.L) ∧ Fr0 w w' := by
  have HN := Lib.hid (snone_calls b m X w h)
  obtain ⟨A, c, h⟩ := h
  have c2 := h.cells.c2
  have HS := Lib.hid (sclone_calls A c X.L w ⟨h.ls.rd.mono (fun _ _ h => h.elim), h.ls.nil, h.ls.cap⟩ h.ok.len)
  clear h
  go_enter Try.func23, Try.ntmps23
  go_wp2_with (first
    | (go_at_call 27; refine HN.out.mono ?_; rintro e w5 ⟨rfl, rfl⟩)
    | (go_at_call 29; refine HS.out.mono ?_; rintro e w5 ⟨⟨A', c', rfl, hown, _⟩, hf5⟩)
    | (go_at_call 45; refine (values_calls A' X.L.length c' w5).mono ?_; rintro e w6 ⟨rfl, rfl⟩))
  go_ret
  exact ⟨⟨_, rfl, _, _, _, rfl, hf5.size, heap_alloc_new _ _, (own_rd _ hown (fun k hk _ => by omega)).kept ((Fr.refl _ w5).alloc _)⟩, hf5.alloc _⟩
theorem sallw_no (v : Value) (w : World) (h : NoSh w v) : Calls Try.prog 23 #[v] w fun e w' => e = .returned (.func (.func 44) #[] #[]) ∧ w = w' := by
  have HN := Lib.hid (snone_no v w h)
  clear h
  go_enter Try.func23, Try.ntmps23
  go_wp2_with (go_at_call 27; refine HN.out.mono ?_; rintro e w5 ⟨rfl, rfl⟩)
  go_ret
  exact ⟨rfl, rfl⟩
abbrev wtv (p : Int × Int) : Value := .agg #[.int .i64 p.1, .int .i64 p.2]
abbrev wtEnc (x : Int × Int) : Array Value := #[wtv x]
set_option maxHeartbeats 1000000 in
theorem vals1_in (F : Fence) (n : Nat) (hF : F.fn 56) (hro : F.round = none) (hn : 1 ≤ n) (lp p : Nat) (S : Nat → Prop) (A : Option Addr) (c : Nat) (l : List (Int × Int)) (J Jx : List (Int × Int) → World → Prop)
    (hJ : ∀ pre W o, J pre W → J pre (W.alloc o))
    (hY : ∀ pre x W, J pre W → pre.length < l.length → YieldAt F (n - 1) Try.prog lp (wtEnc x) W fun e W' =>
      (e = .returned (.bool true) ∧ J (pre ++ [x]) W' ∧ Ck S W W') ∨ (e = .returned (.bool false) ∧ Jx (pre ++ [x]) W'))
    (hl : l.length ≤ maxLen)
    (W : World) (hp : W.cell? ⟨p, 0, none⟩ = some (.slice A l.length c)) (hR : Rd S W A (sends l)) (h0 : J [] W) :
    CallsIn F n Try.prog 56 #[.func (.yield lp) #[] #[], .pointer (some ⟨p, 0, none⟩)] W fun e W' => (∃ v, e = .returned v) ∧
      ((∃ ys, ys = l ∧ J ys W') ∨ (∃ pre, pre <+: l ∧ Jx pre W')) := by
  unfold maxLen at hl
  refine callsIn_of_wp Try.func56 rfl hF ?_ hro
  simp only [Try.ntmps56, List.size_toArray, List.length_cons, List.length_nil, Nat.reduceAdd, Nat.reduceSub, Array.replicate_succ, Array.replicate_zero, List.push_toArray, List.append_toArray, List.nil_append, List.cons_append]
  gi_wp2
  gi_loopw [7] (fun i wr => ∃ k : Nat, k ≤ l.length ∧ i = .int .i64 k ∧ J (l.take k) wr ∧ Ck S W wr)
    (fun i wr => l.length - (intOf i).toNat)
  case atStart => exact ⟨0, Nat.zero_le _, rfl, by simpa using h0, Ck.refl _ _⟩
  case round =>
    obtain ⟨k, hk, rfl, hJ0, hck⟩ := hrel
    by_cases hlt : k < l.length
    · have hR' := hR.ck hck
      obtain ⟨b, off, rfl⟩ := hR'.some_ (by rw [sends_length]; omega)
      obtain ⟨d0, d1⟩ := rdl_cells hR' k hlt
      have hi1 : (0 : Int) ≤ (k : Int) := by omega
      have hi2 : (k : Int) < (l.length : Int) := by omega
      have H3 := Lib.hid (take_snoc l k hlt)
      have hJ1 := hJ _ _ (.cells #[.int .i64 (at_ l k), .int .i64 (sz_ l k)] 33) hJ0
      obtain ⟨fn, tmps, assign, body, hy, hRR⟩ := hY (l.take k) (at_ l k, sz_ l k) _ hJ1 (by simp; omega)
      have HR := Lib.hid hRR
      have HW := Lib.hid (fun o => Ck.of_fr ((Fr.refl S wr).alloc o))
      clear hJ0 hJ1 hRR hR'
      gi_wp2
      refine HR.out.mono ?_
      rintro e W3 (⟨rfl, hJ3, hk3⟩ | ⟨rfl, hJx3⟩)
      · gi_wp2
        go_roundw
        case rel => exact ⟨k + 1, by omega, by go_num, by rw [H3.out]; exact hJ3, hck.trans ((HW.out _).trans hk3)⟩
        case measure => simp [intOf]; omega
      · gi_wp2
        refine bodyPost_ret (results_none rfl _ _ _) rfl ?_
        exact ⟨⟨_, rfl⟩, .inr ⟨_, by rw [← H3.out]; exact List.take_prefix _ _, hJx3⟩⟩
    · have hk2 : k = l.length := by omega
      subst hk2
      gi_wp2
      go_end0
      exact ⟨⟨_, rfl⟩, .inl ⟨_, rfl, by simpa using hJ0⟩⟩
/-- The iterator's word, for whoever ranges over it. -/
theorem vals1_stops (F : Fence) (n : Nat) (hF : F.fn 56) (hro : F.round = none) (hn : 1 ≤ n) (p : Nat) (S : Nat → Prop) (A : Option Addr) (c : Nat) (l : List (Int × Int)) (hl : l.length ≤ maxLen)
    (w : World) (hp : w.cell? ⟨p, 0, none⟩ = some (.slice A l.length c)) (hR : Rd S w A (sends l)) :
    SeqStopsK F n Try.prog 56 #[.pointer (some ⟨p, 0, none⟩)] wtEnc (Ck S) (fun xs => xs = l) (fun pre => pre <+: l) l.length w := by
  intro lp J Jx W hW hJ hJx hY h0
  have hf := Fr0.of_below hW
  exact vals1_in F n hF hro hn lp p S A c l J Jx (fun pre W1 o h => hJ pre W1 _ none h (World.grownBy_alloc W1 o none) (fun r e => by cases e)) hY hl W (hf.cell hp (fun h => h)) (hR.kept hf.any) h0
theorem sp_free {w : World} {b : Nat} {s : Sp} (h : w.heap[b]? = some (.cells (spc s) 23 (0, 0))) :
    w.frozen? ⟨b, 0, none⟩ = false ∧ w.frozen? ⟨b, 1, none⟩ = false ∧ w.frozen? ⟨b, 2, none⟩ = false ∧ w.frozen? ⟨b, 3, none⟩ = false ∧ w.frozen? ⟨b, 4, none⟩ = false :=
  ⟨free_of_blk h 0, free_of_blk h 1, free_of_blk h 2, free_of_blk h 3, free_of_blk h 4⟩
/-- A spec stored over another one. -/
def putS (w : World) (b : Nat) (s : Sp) : World := ((((w.setCell ⟨b, 0, none⟩ (.int .i64 s.peak)).setCell ⟨b, 1, none⟩ (.int .i64 s.rate)).setCell ⟨b, 2, none⟩ (.int .i64 s.burst)).setCell ⟨b, 3, none⟩ (.int .i64 s.most)).setCell ⟨b, 4, none⟩ (.int .i64 s.least)
theorem putS_blk {w : World} {b : Nat} {s : Sp} (h : w.heap[b]? = some (.cells (spc s) 23 (0, 0))) (s' : Sp) : (putS w b s').heap[b]? = some (.cells (spc s') 23 (0, 0)) := by
  have := blk_setCell (blk_setCell (blk_setCell (blk_setCell (blk_setCell h 0 (.int .i64 s'.peak)) 1 (.int .i64 s'.rate)) 2 (.int .i64 s'.burst)) 3 (.int .i64 s'.most)) 4 (.int .i64 s'.least)
  exact this
theorem putS_other {w : World} {b x : Nat} {o : Obj} (h : w.heap[x]? = some o) (hne : b ≠ x) (s' : Sp) : (putS w b s').heap[x]? = some o :=
  blk_setCell_other (blk_setCell_other (blk_setCell_other (blk_setCell_other (blk_setCell_other h (p := ⟨b, 0, none⟩) hne _) (p := ⟨b, 1, none⟩) hne _) (p := ⟨b, 2, none⟩) hne _) (p := ⟨b, 3, none⟩) hne _) (p := ⟨b, 4, none⟩) hne _
theorem putS_fr {S : Nat → Prop} {a w : World} (h : Fr S a w) {b : Nat} (hb : b < a.heap.size → S b) (s' : Sp) : Fr S a (putS w b s') :=
  ((((h.setCell (p := ⟨b, 0, none⟩) hb _).setCell (p := ⟨b, 1, none⟩) hb _).setCell (p := ⟨b, 2, none⟩) hb _).setCell (p := ⟨b, 3, none⟩) hb _).setCell (p := ⟨b, 4, none⟩) hb _
/-- Spec. -/
theorem sspec_calls (b m : Nat) (X : Sh) (w : World) (h : IsSh w b m X) : Calls Try.prog 21 #[.pointer (some ⟨b, 0, none⟩)] w fun e w' => e = .returned (spv X.s) ∧ Fr0 w w' := by
  have hf := (Fr.refl (fun _ => False) w).alloc (.cells (spc ⟨0, 0, 0, 0, 0⟩) 23)
  have HN := Lib.hid (snone_calls b m X _ (h.kept0 hf))
  obtain ⟨A, c, h⟩ := h.kept0 hf
  have c0 := h.cells.c0
  have hb := spec_calls m X.B _ h.bk h.ok.of.rate
  rw [h.ok.of.spec] at hb
  have HB := Lib.hid hb
  have HZ := Lib.hid (heap_alloc_new w (.cells (spc ⟨0, 0, 0, 0, 0⟩) 23))
  have HF := Lib.hid hf
  clear h hf hb
  go_enter Try.func21, Try.ntmps21
  go_wp2_with (first
    | (go_at_call 27; refine HN.out.mono ?_; rintro e w5 ⟨rfl, rfl⟩)
    | (go_at_call 28; refine HB.out.mono ?_; rintro e w5 ⟨rfl, hf5⟩; have HZ5 := Lib.hid (hf5.blk HZ.out (fun h => h)); obtain ⟨f0, f1, f2, f3, f4⟩ := sp_free HZ5.out; obtain ⟨g0, g1, g2, g3, g4⟩ := sp_cells HZ5.out))
  have hE : ((((w5.setCell ⟨w.heap.size, 0, none⟩ (.int .i64 X.s.peak)).setCell ⟨w.heap.size, 1, none⟩ (.int .i64 X.s.rate)).setCell ⟨w.heap.size, 2, none⟩ (.int .i64 X.s.burst)).setCell ⟨w.heap.size, 3, none⟩ (.int .i64 X.s.most)).setCell ⟨w.heap.size, 4, none⟩ (.int .i64 X.s.least) = putS w5 w.heap.size X.s := rfl
  have hb6 := putS_blk HZ5.out X.s
  have hf6 := putS_fr (HF.out.trans hf5) (fun h => absurd h (Nat.lt_irrefl _)) X.s
  rw [hE]
  generalize putS w5 w.heap.size X.s = w6 at *
  exact bodyPost_ret (results_cell_row rfl _ _ w.heap.size _ _ _ _ rfl hb6 Try.underlying23 rfl (by kernel_rfl)) rfl ⟨rfl, hf6⟩
theorem sspec_no (v : Value) (w : World) (h : NoSh w v) : Calls Try.prog 21 #[v] w fun e w' => e = .returned (spv ⟨0, 0, 0, 0, 0⟩) ∧ Fr0 w w' := by
  have hf := (Fr.refl (fun _ => False) w).alloc (.cells (spc ⟨0, 0, 0, 0, 0⟩) 23)
  have HN := Lib.hid (snone_no v _ (h.kept hf))
  have HZ := Lib.hid (heap_alloc_new w (.cells (spc ⟨0, 0, 0, 0, 0⟩) 23))
  have HF := Lib.hid hf
  clear h hf
  obtain ⟨f0, f1, f2, f3, f4⟩ := sp_free HZ.out
  obtain ⟨g0, g1, g2, g3, g4⟩ := sp_cells HZ.out
  go_enter Try.func21, Try.ntmps21
  go_wp2_with (go_at_call 27; refine HN.out.mono ?_; rintro e w5 ⟨rfl, rfl⟩)
  exact bodyPost_ret (results_cell_row rfl _ _ w.heap.size _ _ _ _ rfl (heap_alloc_new w (.cells (spc ⟨0, 0, 0, 0, 0⟩) 23)) Try.underlying23 rfl (by kernel_rfl)) rfl ⟨rfl, HF.out⟩
set_option maxHeartbeats 4000000 in
/-- Copy. -/
theorem scopy_calls (b m : Nat) (X : Sh) (w : World) (h : IsSh w b m X) :
    Calls Try.prog 18 #[.pointer (some ⟨b, 0, none⟩)] w fun e w' => (∃ b' m', e = .returned (.pointer (some ⟨b', 0, none⟩)) ∧ w.heap.size ≤ b' ∧ w.heap.size ≤ m' ∧ IsSh w' b' m' X) ∧ Fr0 w w' := by
  have HX := Lib.hid h
  have HN := Lib.hid (snone_calls b m X w h)
  obtain ⟨A, c, h⟩ := h
  have HA := Lib.hid h
  have HK := Lib.hid (fun U (hf : Fr0 w U) => (h.kept hf).cells)
  obtain ⟨k0, k1, k2⟩ := HK.out _ (Fr.refl _ w).drew
  have HC := Lib.hid (fun U (hf : Fr0 w U) => (copy_calls m X.B U (h.bk.kept0 hf) h.ok.of.rate).mono fun e w' q => (show (∃ g, e = .returned (.pointer (some ⟨g, 0, none⟩)) ∧ U.heap.size ≤ g ∧ IsBk w' g X.B) ∧ Fr0 U w' from ⟨⟨_, q.1, Nat.le_refl _, q.2 ▸ heap_alloc_new _ _⟩, q.2 ▸ (Fr.refl _ U).alloc _⟩))
  have HL := Lib.hid (fun U (hf : Fr0 w U) => sclone_calls A c X.L U ⟨(h.kept hf).ls.rd.mono (fun _ _ h => h.elim), h.ls.nil, h.ls.cap⟩ h.ok.len)
  have hmx : Try.prog.follows .mixedOrders = true := by kernel_rfl
  clear h
  go_enter Try.func18, Try.ntmps18
  go_wp2_with (go_at_call 27; refine HN.out.mono ?_; rintro e w' ⟨rfl, rfl⟩)
  go_region_law ((first
    | (go_simp; go_at_call 39; (with_reducible refine (HC.out _ (Fr.refl _ w).drew).mono ?_); rintro e wC ⟨⟨g, rfl, hg, hbC⟩, hfC⟩; have hfC2 := (Fr.refl (fun _ => False) w).drew.trans hfC; obtain ⟨k0, k1, k2⟩ := HK.out _ hfC2)
    | (go_simp; go_at_call 29; (with_reducible refine (HL.out _ hfC2).mono ?_); rintro e w5 ⟨⟨A5, c5, rfl, hown5, hnil5⟩, hf5⟩; have hf52 := hfC2.trans hf5; obtain ⟨k0, k1, k2⟩ := HK.out _ hf52)))
  all_goals
    go_wp2_with fail
    go_ret
    have hs := hf52.size
    have hsC := hfC2.size
    have hgl := hbC.lt
    obtain ⟨A6, c6, e6, hc6, hm6⟩ := own_form hown5
    cases e6
    have hg' : w.heap.size ≤ g := hg
    refine ⟨⟨_, g, rfl, hs, hg', A5, c5, heap_alloc_new _ _, (hbC.kept0 hf5).kept0 ((Fr.refl _ w5).alloc _), ⟨(own_rd _ hown5 (fun k hk hk2 hS => ?_)).kept (Fr0.any ((Fr.refl _ w5).alloc _)), hnil5, hc6, hm6⟩, HX.out.ok⟩, hf52.alloc _⟩
    rcases hS with e | e <;> omega
theorem scopy_no (v : Value) (w : World) (h : NoSh w v) : Calls Try.prog 18 #[v] w fun e w' => e = .returned (.pointer none) ∧ w = w' := by
  have HN := Lib.hid (snone_no v w h)
  clear h
  go_enter Try.func18, Try.ntmps18
  go_wp2_with (go_at_call 27; refine HN.out.mono ?_; rintro e w5 ⟨rfl, rfl⟩)
  go_ret
  exact ⟨rfl, rfl⟩
end Go.Proofs.Ytmnadploikcljaa
