/- Chapter 24: All: the iterator over the messages of a pool. -/
import Derived.Test.YtbhdkpcakjookaaPoI
import Derived.Test.YtbhdkpcakjookaaScp
set_option linter.unusedVariables false
set_option linter.unusedSimpArgs false
namespace Go.Proofs.Ytbhdkpcakjookaa
open Go.RowKit
attribute [local go_sem] Oper.semAt_some

/-- Messages that lie, all of it outside S. -/
structure LsS (S : Nat → Prop) (w : World) (A : Option Addr) (c : Nat) (L : List Rm) : Prop where
  rd : Rd S w A (rms L)
  rb : ∀ r ∈ L, Rd S w r.A (u8s r.m.bytes)
  ls : IsLs w A c L
theorem LsS.ck {S : Nat → Prop} {w w' : World} {A : Option Addr} {c : Nat} {L : List Rm} (h : LsS S w A c L) (hf : Ck S w w') : LsS S w' A c L :=
  ⟨h.rd.ck hf, fun r hr => (h.rb r hr).ck hf, ⟨(h.rd.ck hf).mono (fun _ _ h => h.elim), fun r hr => ⟨((h.rb r hr).ck hf).mono (fun _ _ h => h.elim), (h.ls.ok r hr).nil, (h.ls.ok r hr).len⟩, h.ls.len, h.ls.nil, h.ls.most⟩⟩
theorem LsS.of {S : Nat → Prop} {w : World} {A : Option Addr} {c : Nat} {L : List Rm} (h : IsLs w A c L) (hS : ∀ k, k < w.heap.size → ¬ S k) : LsS S w A c L :=
  ⟨h.rd.mono (fun k hk e => hS k hk e), fun r hr => (h.ok r hr).rd.mono (fun k hk e => hS k hk e), h⟩
theorem LsS.mono {S T : Nat → Prop} {w : World} {A : Option Addr} {c : Nat} {L : List Rm} (h : LsS S w A c L) (hS : ∀ k, T k → S k) : LsS T w A c L :=
  ⟨h.rd.mono (fun k _ e => hS k e), fun r hr => (h.rb r hr).mono (fun k _ e => hS k e), h.ls⟩
theorem LsS.nil_ (S : Nat → Prop) (w : World) : LsS S w none 0 [] := ⟨.inl rfl, by simp, .nil_ w⟩
/-- An iterator over messages: its variable's box lies behind base, all else ahead of B. -/
def IsSeqM (B base : Nat) (w : World) (f : Value) (L : List Rm) : Prop :=
  ∃ p A c, f = .func (.func 36) #[] #[.pointer (some ⟨p, 0, none⟩)] ∧ base ≤ p ∧ w.heap[p]? = some (.cells #[.slice A L.length c] 36 (0, 0)) ∧ LsS (fun k => B ≤ k) w A c L
theorem pall_calls (b : Nat) (most last : Int) (L : List Rm) (w0 w : World) (h0 : IsPool w0 b most last L) (hw : Fr0 w0 w) : Calls Try.prog 24 #[.pointer (some ⟨b, 0, none⟩)] w fun e w' => (∃ f, e = .returned f ∧ IsSeqM w0.heap.size w.heap.size w' f L) ∧ Fr0 w w' := by
  have hmf : ∀ (fn : Fn) (first cap : Array Value) (w : World), (Instr.makeFunc fn first cap).run Try.prog w = .ok (.func fn first cap) w := fun _ _ _ _ => rfl
  have hf := (Fr.refl (fun _ => False) w).alloc (.cells #[.slice none 0 0] 36)
  have HN := Lib.hid (pnone_calls b most last L _ (h0.kept (hw.trans hf)))
  obtain ⟨A0, c0, hb0, hls0⟩ := h0.ex
  have hls := (LsS.of (S := fun k => w0.heap.size ≤ k) hls0 (fun k hk e => Nat.lt_irrefl _ (Nat.lt_of_lt_of_le hk e))).ck (Ck.of_fr (Fr0.any hw))
  have hb := hw.blk hb0 (fun h => h)
  obtain ⟨⟨_, _, k2⟩, _⟩ := po_cells (hf.blk hb (fun h => h))
  have hlt := lt_of_block hb
  have HLS := Lib.hid hls
  have HF := Lib.hid hf
  clear h0 hb hb0 hls hls0 hf
  go_enter Try.func24, Try.ntmps24
  go_wp2_with (go_at_call 27; refine HN.out.mono ?_; rintro e w' ⟨rfl, rfl⟩)
  go_ret
  have hf2 := (Fr.refl (fun _ => False) w).alloc (.cells #[.slice A0 L.length c0] 36)
  exact ⟨⟨_, rfl, _, A0, c0, rfl, Nat.le_refl _, heap_alloc_new _ _, HLS.out.ck (Ck.of_fr (Fr0.any hf2))⟩, hf2⟩
theorem pall_no (B : Nat) (v : Value) (w : World) (h : NoPo w v) : Calls Try.prog 24 #[v] w fun e w' => (∃ f, e = .returned f ∧ IsSeqM B w.heap.size w' f []) ∧ Fr0 w w' := by
  have hmf : ∀ (fn : Fn) (first cap : Array Value) (w : World), (Instr.makeFunc fn first cap).run Try.prog w = .ok (.func fn first cap) w := fun _ _ _ _ => rfl
  have hf := (Fr.refl (fun _ => False) w).alloc (.cells #[.slice none 0 0] 36)
  have HN := Lib.hid (pnone_no v _ (h.kept hf))
  have HF := Lib.hid hf
  clear h hf
  go_enter Try.func24, Try.ntmps24
  go_wp2_with (go_at_call 27; refine HN.out.mono ?_; rintro e w' ⟨rfl, rfl⟩)
  go_ret
  exact ⟨⟨_, rfl, _, none, 0, rfl, Nat.le_refl _, heap_alloc_new _ _, .nil_ _ _⟩, HF.out⟩
end Go.Proofs.Ytbhdkpcakjookaa
