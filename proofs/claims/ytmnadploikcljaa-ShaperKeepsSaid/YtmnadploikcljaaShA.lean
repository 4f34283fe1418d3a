/- Chapter 13: a shaper: the plain words, and how it lies in memory; the small functions. -/
import Derived.Test.YtmnadploikcljaaBkC
import Derived.Test.YtmnadploikcljaaScp
set_option linter.unusedVariables false
set_option linter.unusedSimpArgs false
namespace Go.Proofs.Ytmnadploikcljaa
open Go.RowKit
attribute [local go_sem] Oper.semAt_some

/-- What a law's walk says: true, and whatever was there is as before. -/
def Yes (w : World) (e : Ending) (w' : World) : Prop := e = .returned (.bool true) ∧ Fr0 w w'
/-- The bytes of what waits. -/
def bytesW (l : List (Int × Int)) : Int := (l.map Prod.snd).sum
theorem bytesW_app (a b : List (Int × Int)) : bytesW (a ++ b) = bytesW a + bytesW b := by simp [bytesW]
theorem bytesW_one (p : Int × Int) : bytesW [p] = p.2 := by simp [bytesW]
theorem bytesW_cons (p : Int × Int) (l : List (Int × Int)) : bytesW (p :: l) = p.2 + bytesW l := by simp [bytesW]
/-- Packets of some size. -/
def Pos (l : List (Int × Int)) : Prop := ∀ p ∈ l, 1 ≤ p.2 ∧ p.2 ≤ 2000
theorem Pos.range {l : List (Int × Int)} (h : Pos l) : (l.length : Int) ≤ bytesW l ∧ bytesW l ≤ 2000 * (l.length : Int) := by
  induction l with
  | nil => simp [bytesW]
  | cons p l ih =>
    have h1 := h p (by simp)
    have h2 := ih (fun q hq => h q (by simp [hq]))
    rw [bytesW_cons]
    simp only [List.length_cons]
    omega
theorem Pos.pre {a b : List (Int × Int)} (h : Pos b) (k : a <+: b) : Pos a := fun p hp => h p (k.subset hp)
theorem take_snoc (l : List (Int × Int)) (k : Nat) (h : k < l.length) : l.take (k + 1) = l.take k ++ [(at_ l k, sz_ l k)] := by
  rw [List.take_succ_eq_append_getElem h, at_eq l k h, sz_eq l k h]
/-- A shaper: its spec, what went, its bucket, its room, what waits. -/
structure Sh where
  s : Sp
  t : List (Int × Int)
  B : Bk
  room : Int
  L : List (Int × Int)
structure Sh.Ok (X : Sh) : Prop where
  of : BkOf X.s X.t X.B
  size : ∀ p ∈ X.L, X.s.least ≤ p.2 ∧ p.2 ≤ X.s.most
  room : 0 ≤ X.room ∧ X.room ≤ 1000000000
  fits : bytesW X.L ≤ X.room
theorem Sh.Ok.pos {X : Sh} (h : X.Ok) : Pos X.L := fun p hp => by
  have h1 := h.size p hp
  obtain ⟨q1, q2, q3, q4, q5, q6, q7, q8⟩ := h.of.right
  omega
theorem Sh.Ok.len {X : Sh} (h : X.Ok) : X.L.length ≤ 1000000000 := by
  have h1 := h.pos.range
  have h2 := h.room
  have h3 := h.fits
  omega
/-- A list of waiting packets in memory, apart from some blocks. -/
structure IsW (S : Nat → Prop) (w : World) (A : Option Addr) (c : Nat) (l : List (Int × Int)) : Prop where
  rd : Rd S w A (sends l)
  nil : A = none → l = []
  cap : l.length ≤ c ∧ c ≤ maxLen
theorem IsW.kept {S : Nat → Prop} {w w' : World} {A : Option Addr} {c : Nat} {l : List (Int × Int)} (h : IsW S w A c l) (hf : Fr S w w') : IsW S w' A c l := ⟨h.rd.kept hf, h.nil, h.cap⟩
theorem IsW.kept0 {S : Nat → Prop} {w w' : World} {A : Option Addr} {c : Nat} {l : List (Int × Int)} (h : IsW S w A c l) (hf : Fr0 w w') : IsW S w' A c l := h.kept hf.any
abbrev shc (m : Nat) (room : Int) (A : Option Addr) (n c : Nat) : Array Value := #[.pointer (some ⟨m, 0, none⟩), .int .i64 room, .slice A n c]
/-- The blocks of a shaper. -/
def ShS (b m : Nat) : Nat → Prop := fun k => k = b ∨ k = m
structure IsShAt (w : World) (b m : Nat) (A : Option Addr) (c : Nat) (X : Sh) : Prop where
  blk : w.heap[b]? = some (.cells (shc m X.room A X.L.length c) 65 (0, 0))
  bk : IsBk w m X.B
  ls : IsW (ShS b m) w A c X.L
  ok : X.Ok
def IsSh (w : World) (b m : Nat) (X : Sh) : Prop := ∃ A c, IsShAt w b m A c X
theorem IsShAt.kept {w w' : World} {b m : Nat} {A : Option Addr} {c : Nat} {X : Sh} (h : IsShAt w b m A c X) (hf : Fr0 w w') : IsShAt w' b m A c X := ⟨hf.blk h.blk (fun h => h), h.bk.kept0 hf, h.ls.kept0 hf, h.ok⟩
theorem IsShAt.ne {w : World} {b m : Nat} {A : Option Addr} {c : Nat} {X : Sh} (h : IsShAt w b m A c X) : b ≠ m := by
  rintro rfl
  have h1 := h.blk
  have h2 : w.heap[b]? = some (.cells (bkc X.B) 97 (0, 0)) := h.bk
  rw [h1] at h2
  simp at h2
theorem IsSh.kept0 {w w' : World} {b m : Nat} {X : Sh} (h : IsSh w b m X) (hf : Fr0 w w') : IsSh w' b m X := by
  obtain ⟨A, c, h⟩ := h
  exact ⟨A, c, h.kept hf⟩
theorem IsSh.ok {w : World} {b m : Nat} {X : Sh} (h : IsSh w b m X) : X.Ok := by
  obtain ⟨A, c, h⟩ := h
  exact h.ok
theorem IsSh.lt {w : World} {b m : Nat} {X : Sh} (h : IsSh w b m X) : b < w.heap.size ∧ m < w.heap.size := by
  obtain ⟨A, c, h⟩ := h
  exact ⟨lt_of_block h.blk, h.bk.lt⟩
structure ShCells (w : World) (b m : Nat) (room : Int) (A : Option Addr) (n c : Nat) : Prop where
  c0 : w.cell? ⟨b, 0, none⟩ = some (.pointer (some ⟨m, 0, none⟩))
  c1 : w.cell? ⟨b, 1, none⟩ = some (.int .i64 room)
  c2 : w.cell? ⟨b, 2, none⟩ = some (.slice A n c)
theorem IsShAt.cells {w : World} {b m : Nat} {A : Option Addr} {c : Nat} {X : Sh} (h : IsShAt w b m A c X) : ShCells w b m X.room A X.L.length c := ⟨cell_of_blk h.blk 0, cell_of_blk h.blk 1, cell_of_blk h.blk 2⟩
theorem snone_calls (b m : Nat) (X : Sh) (w : World) (h : IsSh w b m X) : Calls Try.prog 27 #[.pointer (some ⟨b, 0, none⟩)] w fun e w' => e = .returned (.bool false) ∧ w = w' := by
  obtain ⟨A, c, h⟩ := h
  have c0 := h.cells.c0
  clear h
  go_enter Try.func27, Try.ntmps27
  go_wp2_with fail
  go_ret
  exact ⟨rfl, rfl⟩
/-- A shaper that is not there. -/
def NoSh (w : World) (v : Value) : Prop := v = .pointer none ∨ ∃ b, v = .pointer (some ⟨b, 0, none⟩) ∧ w.cell? ⟨b, 0, none⟩ = some (.pointer none)
theorem NoSh.kept {w w' : World} {v : Value} (h : NoSh w v) (hf : Fr0 w w') : NoSh w' v := by
  rcases h with h | ⟨b, h1, h2⟩
  · exact .inl h
  · exact .inr ⟨b, h1, hf.cell h2 (fun h => h)⟩
theorem snone_no (v : Value) (w : World) (h : NoSh w v) : Calls Try.prog 27 #[v] w fun e w' => e = .returned (.bool true) ∧ w = w' := by
  rcases h with rfl | ⟨b, rfl, c0⟩
  · go_enter Try.func27, Try.ntmps27
    go_wp2_with fail
    go_ret
    exact ⟨rfl, rfl⟩
  · go_enter Try.func27, Try.ntmps27
    go_wp2_with fail
    go_ret
    exact ⟨rfl, rfl⟩
/-- Truths in memory. -/
def bls (l : List Bool) : List Value := l.map .bool
theorem bls_length (l : List Bool) : (bls l).length = l.length := by simp [bls]
theorem all_take_true {l : List Bool} {k : Nat} (h : k < l.length) (ht : (l.take k).all id = true) (hx : l[k] = true) : (l.take (k + 1)).all id = true := by
  rw [List.take_succ_eq_append_getElem h, List.all_append, ht]
  simp [hx]
theorem bindex_calls (A : Option Addr) (c : Nat) (l : List Bool) (w : World) (hR : Rd (fun _ => False) w A (bls l)) (hl : l.length ≤ 1000) :
    Calls Try.prog 60 #[.slice A l.length c, .bool false] w fun e w' => (∃ i : Int, e = .returned (.int .i64 i) ∧ decide (0 ≤ i) = !(l.all id)) ∧ Fr0 w w' := by
  have HR := Lib.hid hR
  clear hR
  go_enter Try.func60, Try.ntmps60
  go_wp2_with fail
  go_loopw [5, 8] (fun j i wr => ∃ (k : Nat), k ≤ l.length ∧ i = .int .i64 (k : Int) ∧ Hid ((l.take k).all id = true) ∧ Hid (Fr0 w wr)) (fun _ i _ => l.length - (intOf i).toNat)
  case atStart => exact ⟨0, by omega, rfl, by simp [Hid], Fr.refl _ _⟩
  case round =>
    obtain ⟨k, hk, rfl, HT, HF⟩ := hrel
    by_cases hlt : k < l.length
    · have hr := HR.out.kept HF.out
      obtain ⟨b, off, rfl⟩ := hr.some_ (by rw [bls_length]; omega)
      have d0 := hr.at_ k (by rw [bls_length]; omega)
      have hi1 : (0 : Int) ≤ (k : Int) := by omega
      have hi2 : (k : Int) < (l.length : Int) := by omega
      rw [show (bls l)[k]'(by rw [bls_length]; omega) = .bool l[k] by simp [bls]] at d0
      have HX := Lib.hid (show l[k] = l[k] from rfl)
      clear hr
      by_cases hx : l[k] = true
      · have HS := Lib.hid (all_take_true hlt HT.out hx)
        rw [hx] at d0
        clear HX hx
        go_wp2_with fail
        go_roundw
        case rel => exact ⟨k + 1, by omega, by go_num, HS.out, HF.out⟩
        case measure => simp [intOf]; omega
      · have hx2 : l[k] = false := by simpa using hx
        have HS := Lib.hid (show l.all id = false from by
          rw [List.all_eq_false]
          exact ⟨l[k], List.getElem_mem hlt, by simp [hx2]⟩)
        rw [hx2] at d0
        clear HX hx hx2
        go_wp2_with fail
        go_ret
        exact ⟨⟨_, rfl, by rw [HS.out]; simp⟩, HF.out⟩
    · have hkm : k = l.length := by omega
      subst hkm
      go_wp2_with fail
      go_ret
      exact ⟨⟨_, rfl, by have := HT.out; rw [List.take_length] at this; rw [this]; rfl⟩, HF.out⟩
theorem bcontains_calls (A : Option Addr) (c : Nat) (l : List Bool) (w : World) (hR : Rd (fun _ => False) w A (bls l)) (hl : l.length ≤ 1000) :
    Calls Try.prog 47 #[.slice A l.length c, .bool false] w fun e w' => e = .returned (.bool (!(l.all id))) ∧ Fr0 w w' := by
  have HI := Lib.hid (bindex_calls A c l w hR hl)
  clear hR
  go_enter Try.func47, Try.ntmps47
  go_wp2_with (go_at_call 60; refine HI.out.mono ?_; rintro e w5 ⟨⟨i, rfl, hi⟩, hf5⟩)
  go_ret
  exact ⟨rfl, hf5⟩
theorem sall_calls (A : Option Addr) (c : Nat) (l : List Bool) (w : World) (hR : Rd (fun _ => False) w A (bls l)) (hl : l.length ≤ 1000) :
    Calls Try.prog 26 #[.slice A l.length c] w fun e w' => e = .returned (.bool (l.all id)) ∧ Fr0 w w' := by
  have HI := Lib.hid (bcontains_calls A c l w hR hl)
  clear hR
  go_enter Try.func26, Try.ntmps26
  go_wp2_with (go_at_call 47; refine HI.out.mono ?_; rintro e w5 ⟨rfl, hf5⟩)
  go_ret
  exact ⟨rfl, hf5⟩
theorem rd_bls (w : World) (l : List Bool) (t : TypeId) : Rd (fun _ => False) (w.alloc (.cells (bls l).toArray t)) (some ⟨w.heap.size, 0, none⟩) (bls l) := by
  refine .inr ⟨_, 0, rfl, fun h => h, fun i hi => ?_⟩
  have := cell_of_blk (heap_alloc_new w (.cells (bls l).toArray t)) (0 + i)
  rw [this, Nat.zero_add]
  simp [hi]
theorem sall2_calls (a b : Bool) (w : World) (t : TypeId) : Calls Try.prog 26 #[.slice (some ⟨w.heap.size, 0, none⟩) 2 2] (w.alloc (.cells #[.bool a, .bool b] t)) fun e w' => e = .returned (.bool (a && b)) ∧ Fr0 (w.alloc (.cells #[.bool a, .bool b] t)) w' := by
  have h := sall_calls _ 2 [a, b] _ (rd_bls w [a, b] t) (by simp)
  simpa [bls] using h
theorem sall3_calls (a b d : Bool) (w : World) (t : TypeId) : Calls Try.prog 26 #[.slice (some ⟨w.heap.size, 0, none⟩) 3 3] (w.alloc (.cells #[.bool a, .bool b, .bool d] t)) fun e w' => e = .returned (.bool (a && (b && d))) ∧ Fr0 (w.alloc (.cells #[.bool a, .bool b, .bool d] t)) w' := by
  have h := sall_calls _ 3 [a, b, d] _ (rd_bls w [a, b, d] t) (by simp)
  simpa [bls] using h
end Go.Proofs.Ytmnadploikcljaa
