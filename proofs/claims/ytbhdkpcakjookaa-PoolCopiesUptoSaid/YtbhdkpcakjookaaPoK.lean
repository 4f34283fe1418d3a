/- Chapter 24: the iterator's word. -/
import Derived.Test.YtbhdkpcakjookaaPoJ
import Derived.Test.YtbhdkpcakjookaaPoK0
set_option linter.unusedVariables false
set_option linter.unusedSimpArgs false
namespace Go.Proofs.Ytbhdkpcakjookaa
open Go.RowKit
attribute [local go_sem] Oper.semAt_some

/-- A message whose bytes lie in a block of bytes that lies behind B. -/
def OwnB (B : Nat) (w : World) (r : Rm) : Prop := BArg w r.A r.m.bytes ∧ (r.m.bytes = [] ∨ ∃ b off cs, r.A = some ⟨b, off, none⟩ ∧ B ≤ b ∧ w.heap[b]? = some (.cells cs 5 (0, 0)))
theorem OwnB.kept {B : Nat} {S : Nat → Prop} {w w' : World} {r : Rm} (h : OwnB B w r) (hf : Fr S w w') (hS : ∀ k cs, w.heap[k]? = some (.cells cs 5 (0, 0)) → ¬ S k) : OwnB B w' r := by
  obtain ⟨hb, h⟩ := h
  rcases h with h | ⟨b, off, cs, h1, hB, h2⟩
  · exact ⟨⟨.inl (by rw [h]; rfl), hb.nil, hb.len⟩, .inl h⟩
  · refine ⟨⟨?_, hb.nil, hb.len⟩, .inr ⟨b, off, cs, h1, hB, hf.blk h2 (hS _ _ h2)⟩⟩
    rcases hb.rd with h | ⟨b', off', h3, _, h4⟩
    · exact .inl h
    · obtain ⟨rfl, rfl⟩ : b = b' ∧ off = off' := by rw [h1] at h3; cases h3; exact ⟨rfl, rfl⟩
      exact .inr ⟨b, off, h1, fun h => h, fun i hi => hf.cell (h4 i hi) (hS _ _ h2)⟩
theorem OwnB.kept0 {B : Nat} {w w' : World} {r : Rm} (h : OwnB B w r) (hf : Fr0 w w') : OwnB B w' r := h.kept hf (fun _ _ _ h => h)
theorem OwnB.of_own {B : Nat} {w : World} {base : Nat} {r : Rm} (h : w.ownsRow base 5 1 (.slice r.A r.m.bytes.length r.c) r.m.bytes.length (u8s r.m.bytes)) (hl : r.m.bytes.length ≤ 1000000) (hB : B ≤ base) : OwnB B w r := by
  refine ⟨.own h hl, ?_⟩
  rcases h.2 with ⟨e, _⟩ | ⟨g, cap, cur, e, hb, hh, _⟩
  · injection e with h1 h2 h3
    exact .inl (List.length_eq_zero_iff.1 h2)
  · injection e with h1 h2 h3
    exact .inr ⟨g, 0, _, h1, Nat.le_trans hB hb, hh⟩
theorem OwnB.mono {B B' : Nat} {w : World} {r : Rm} (h : OwnB B w r) (hB : B' ≤ B) : OwnB B' w r := by
  obtain ⟨hb, h⟩ := h
  exact ⟨hb, h.imp (fun h => h) (fun ⟨b, off, cs, h1, h2, h3⟩ => ⟨b, off, cs, h1, Nat.le_trans hB h2, h3⟩)⟩
/-- What a round keeps: whatever lies outside S, and the heap's size. -/
def KpS (S : Nat → Prop) (W W' : World) : Prop := Ck S W W' ∧ W.heap.size ≤ W'.heap.size
theorem KpS.trans {S : Nat → Prop} {A B C : World} (h : KpS S A B) (k : KpS S B C) : KpS S A C := ⟨h.1.trans k.1, Nat.le_trans h.2 k.2⟩
theorem KpS.of_fr {S : Nat → Prop} {A B : World} (h : Fr S A B) : KpS S A B := ⟨.of_fr h, h.size⟩
theorem KpS.put {S : Nat → Prop} (W : World) (l : Nat) (o o' : Obj) (h : W.heap[l]? = some o) (ho : o.isCells = false) : KpS S W (W.putObj l o') := ⟨Ck.putObj W l o o' h ho, (grownBy_putObj' W l o').size⟩
abbrev mEnc (x : Rm) : Array Value := #[rmv x]
set_option maxHeartbeats 1000000 in
theorem pall1_in (n lp p B : Nat) (S : Nat → Prop) (A : Option Addr) (c : Nat) (L : List Rm) (J Jx : List Rm → World → Prop)
    (hJ : ∀ pre W W', J pre W → Fr0 W W' → J pre W')
    (hY : ∀ pre x W, J pre W → OwnB B W x → pre.length < L.length → YieldAt Fence.wide (n - 1) Try.prog lp (mEnc x) W fun e W' =>
      (e = .returned (.bool true) ∧ J (pre ++ [x]) W' ∧ KpS S W W') ∨ (e = .returned (.bool false) ∧ Jx (pre ++ [x]) W'))
    (W : World) (hp : W.cell? ⟨p, 0, none⟩ = some (.slice A L.length c)) (hR : LsS S W A c L) (h0 : J [] W) (hB : B ≤ W.heap.size) :
    CallsIn Fence.wide n Try.prog 36 #[.func (.yield lp) #[] #[], .pointer (some ⟨p, 0, none⟩)] W fun e W' => (∃ v, e = .returned v) ∧
      ((∃ ys, msgs ys = msgs L ∧ J ys W') ∨ (∃ pre, msgs pre <+: msgs L ∧ Jx pre W')) := by
  have hl := hR.ls.most
  refine callsIn_of_wp Try.func36 rfl trivial ?_ rfl
  simp only [Try.ntmps36, List.size_toArray, List.length_cons, List.length_nil, Nat.reduceAdd, Nat.reduceSub, Array.replicate_succ, Array.replicate_zero, List.push_toArray, List.append_toArray, List.nil_append, List.cons_append]
  refine wpIn_scope_straight ?_
  gi_wp2
  refine wpIn_label ?_
  gi_wp2
  gi_loopw [7] (fun i wr => ∃ k : Nat, ∃ pre, k ≤ L.length ∧ i = .int .i64 k ∧ pre.length = k ∧ msgs pre = msgs (L.take k) ∧ J pre wr ∧ Ck S W wr ∧ B ≤ wr.heap.size)
    (fun i wr => L.length - (intOf i).toNat)
  case atStart => exact ⟨0, [], Nat.zero_le _, rfl, rfl, by simp, h0, Ck.refl _ _, hB⟩
  case round =>
    obtain ⟨k, pre, hk, rfl, hpl, hpm, hJ0, hck, hBr⟩ := hrel
    by_cases hlt : k < L.length
    · have hR' := hR.ck hck
      obtain ⟨b, off, rfl⟩ := hR'.rd.some_ (by rw [rms_length]; omega)
      obtain ⟨d0, d1, d2, d3⟩ := rd_rm hR'.rd k hlt
      have hok := hR'.ls.at_ k hlt
      have hi1 : (0 : Int) ≤ (k : Int) := by omega
      have hi2 : (k : Int) < (L.length : Int) := by omega
      have H3 := Lib.hid (show msgs (L.take (k + 1)) = msgs (L.take k) ++ [L[k].m] by rw [List.take_succ_eq_append_getElem hlt, msgs, List.map_append]; rfl)
      have HMS := Lib.hid hpm
      have HPL := Lib.hid hpl
      generalize hx : L[k] = x at *
      have hf1 := (Fr.refl (fun _ => False) wr).alloc (.cells (rmc x).toArray 31)
      have HO := Lib.hid (own_calls x _ (hok.kept hf1))
      have HJ := Lib.hid (fun w' (h : Fr0 (wr.alloc (.cells (rmc x).toArray 31)) w') => hJ pre wr w' hJ0 (hf1.trans h))
      have HC := Lib.hid (fun w' (h : Fr0 (wr.alloc (.cells (rmc x).toArray 31)) w') => Ck.of_fr (S := S) (Fr0.any (hf1.trans h)))
      have HXL := Lib.hid hok.len
      have HN := Lib.hid hx
      clear hR' hJ0 hf1 hok hx hpm hpl
      gi_wp2
      refine ⟨trivial, ?_⟩
      refine ⟨(fun h => (by cases h)), ?_⟩
      refine (callsIn_wide.2 HO.out).mono ?_
      rintro e w5 ⟨⟨A5, c5, rfl, hown5⟩, hf5⟩
      obtain ⟨fn, tmps, assign, body, hy, hRR⟩ := hY pre ⟨x.m, A5, c5⟩ w5 (HJ.out w5 hf5) (OwnB.of_own hown5 HXL.out (Nat.le_trans hBr (by simp))) (by rw [HPL.out]; omega)
      have HR := Lib.hid hRR
      have HCK := Lib.hid (HC.out w5 hf5)
      have HBS := Lib.hid (show B ≤ w5.heap.size from Nat.le_trans hBr (Nat.le_trans (by simp) hf5.size))
      have HEQ := Lib.hid (show msgs (pre ++ [⟨x.m, A5, c5⟩]) = msgs (L.take (k + 1)) by rw [H3.out, ← HMS.out]; simp [msgs])
      clear hRR HJ HC HO hown5 hf5
      gi_wp2
      refine ⟨(fun h => (by cases h)), HR.out.mono ?_⟩
      rintro e W3 (⟨rfl, hJ3, hk3⟩ | ⟨rfl, hJx3⟩)
      · gi_wp2
        go_roundw
        case rel => exact ⟨k + 1, pre ++ [⟨x.m, A5, c5⟩], by omega, by go_num, by simp [HPL.out], HEQ.out, hJ3, hck.trans (HCK.out.trans hk3.1), Nat.le_trans HBS.out hk3.2⟩
        case measure => simp [intOf]; omega
      · gi_wp2
        rw [Exit.noGoto_normal]
        go_end0
        exact ⟨⟨_, rfl⟩, .inr ⟨_, by rw [HEQ.out]; exact (List.take_prefix _ _).map _, hJx3⟩⟩
    · have hk2 : k = L.length := by omega
      subst hk2
      gi_wp2
      rw [Exit.noGoto_normal]
      go_end0
      exact ⟨⟨_, rfl⟩, .inl ⟨_, by simpa using hpm, hJ0⟩⟩
/-- The iterator's word, for whoever ranges over it. -/
theorem pall1_stops (n : Nat) (S : Nat → Prop) (B base : Nat) (f : Value) (L : List Rm) (w : World) (h : IsSeqM B base w f L) (hS : ∀ k, S k → B ≤ k) :
    ∃ p, base ≤ p ∧ f = .func (.func 36) #[] #[.pointer (some ⟨p, 0, none⟩)] ∧
    SeqStopsY Fence.wide n Try.prog 36 #[.pointer (some ⟨p, 0, none⟩)] mEnc (KpS S) (fun x W => OwnB w.heap.size W x) (fun xs => msgs xs = msgs L) (fun pre => msgs pre <+: msgs L) L.length w := by
  obtain ⟨p, A, c, rfl, hb, hp, hl⟩ := h
  refine ⟨p, hb, rfl, ?_⟩
  intro lp J Jx W hW hJ hJx hY h0
  have hf := Fr0.of_below hW
  exact pall1_in n lp p w.heap.size S A c L J Jx (fun pre W1 W2 h hf => hJ pre W1 W2 none h ⟨hf.os, hf.tape, hf.output, hf.size, fun k hk _ => hf.block k hk (fun h => h)⟩ (fun r e => by cases e)) hY W (hf.cell (cell_of_blk hp 0) (fun h => h)) ((hl.mono hS).ck (Ck.of_fr (Fr0.any hf))) h0 hf.size
end Go.Proofs.Ytbhdkpcakjookaa
