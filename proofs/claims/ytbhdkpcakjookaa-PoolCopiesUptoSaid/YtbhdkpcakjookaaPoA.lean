/- Chapter 24: messages, lists of them, a pool; bytes that came in. -/
import Derived.Test.YtbhdkpcakjookaaMem
import Derived.Test.YtbhdkpcakjookaaRegion
import Derived.Test.YtbhdkpcakjookaaRegB
import Derived.Test.YtbhdkpcakjookaaRegC
import Derived.Test.YtbhdkpcakjookaaOpen
import Derived.Test.YtbhdkpcakjookaaCpy
import Derived.Test.YtbhdkpcakjookaaProg
import Derived.Laws.BytesArg
import Derived.Deep.RegionHeld3
import Derived.BigRegion
import Derived.Deep.DeepCutAuto
import Derived.Laws.Rows
set_option linter.unusedVariables false
set_option linter.unusedSimpArgs false
namespace Go.Proofs.Ytbhdkpcakjookaa
open Go.RowKit

def str (bs : List UInt8) : ByteArray := ⟨bs.toArray⟩
theorem strOfNums_str (bs : List UInt8) : strOfNums (bs.map fun x => (x.toNat : Int)) = str bs := by
  unfold strOfNums str
  rw [List.map_map]
  congr 2
  have : (fun n : Int => UInt8.ofNat n.toNat) ∘ (fun x : UInt8 => (x.toNat : Int)) = id := by
    funext x
    simp
  rw [this, List.map_id]
theorem str_inj {a b : List UInt8} : str a = str b ↔ a = b := by
  constructor
  · intro h
    have h2 : a.toArray = b.toArray := congrArg ByteArray.data h
    simpa using h2
  · rintro rfl; rfl
theorem toList_loop (b : ByteArray) : ∀ (n i : Nat) (r : List UInt8), b.size - i = n → i ≤ b.size → ByteArray.toList.loop b i r = r.reverse ++ b.data.toList.drop i
  | 0, i, r, h, hi => by
    unfold ByteArray.toList.loop
    rw [if_neg (by omega)]
    have : b.data.toList.length = b.size := by simp
    rw [List.drop_of_length_le (by omega)]
    simp
  | n + 1, i, r, h, hi => by
    have hlt : i < b.size := by omega
    unfold ByteArray.toList.loop
    rw [if_pos hlt, toList_loop b n (i + 1) _ (by omega) (by omega)]
    have hl : i < b.data.toList.length := by simpa using hlt
    rw [List.drop_eq_getElem_cons hl]
    have : b.get! i = b.data.toList[i] := by
      have h2 : i < b.data.size := hlt
      show b.data[i]! = _
      rw [getElem!_pos b.data i h2]
      simp
    rw [this]
    simp
theorem str_toList (l : List UInt8) : (str l).toList = l := by
  unfold ByteArray.toList
  rw [toList_loop _ _ 0 [] rfl (Nat.zero_le _)]
  simp [str]
theorem str_beq (a b : List UInt8) : ((str a).toList == (str b).toList) = decide (a = b) := by
  rw [str_toList, str_toList, Bool.eq_iff_iff]
  simp
theorem conv_str {P : Program} {S : Nat → Prop} {w : World} {A : Option Addr} {bs : List UInt8} (hR : Rd S w A (u8s bs)) (hA : A = none → bs = []) (c : Nat) {src e dst : TypeId} (hs : P.underlying src = some (.slice e)) (he : P.underlying e = some (.int .u8)) (hd : P.underlying dst = some .string) :
    (convert src dst (.slice A bs.length c)).run P w = .ok (.string (str bs)) w := by
  rcases hR with h | ⟨b, off, rfl, _, h⟩
  · obtain rfl : bs = [] := by simpa [u8s] using h
    rw [run_convert_bytes_string w src dst e _ _ c hs he hd]
    cases A with
    | none => simp [Conv.bytesToString, str, ByteArray.empty, ByteArray.emptyWithCapacity]; rfl
    | some a =>
      have hl := run_loadCells_list (P := P) w a [] (fun j v hj => by simp at hj) 
      simp only [List.length_nil] at hl
      simp [Conv.bytesToString, str, hl, ByteArray.empty, ByteArray.emptyWithCapacity]
      rfl
  · rw [← strOfNums_str]
    refine run_convert_bytes_arg w src e hs he b off bs.length c _ (by simp) (fun i hi => ?_) dst hd
    have := h i (by rw [u8s_length]; exact hi)
    rw [this]
    simp [u8s, hi]
theorem u8_elem : Elem Try.prog 5 1 1 := Elem.of (.int .u8 0) (by kernel_rfl) rfl (by decide)
/-- Bytes that lie somewhere: a slice's. -/
structure BArg (w : World) (A : Option Addr) (bs : List UInt8) : Prop where
  rd : Rd (fun _ => False) w A (u8s bs)
  nil : A = none → bs = []
  len : bs.length ≤ 1000000
theorem BArg.of_rd {w : World} {A : Option Addr} {bs : List UInt8} (h : Rd (fun _ => False) w A (u8s bs)) (hl : bs.length ≤ 1000000) : BArg w A bs :=
  ⟨h, (fun e => by
    rcases h with h | ⟨_, _, h, _⟩
    · simpa [u8s] using h
    · rw [h] at e; cases e), hl⟩
theorem BArg.kept {w w' : World} {A : Option Addr} {bs : List UInt8} (h : BArg w A bs) (hf : Fr0 w w') : BArg w' A bs := ⟨h.rd.kept hf, h.nil, h.len⟩
theorem BArg.own {w : World} {base : Nat} {e : TypeId} {A : Option Addr} {n m c : Nat} {bs : List UInt8} (h : w.ownsRow base e 1 (.slice A m c) n (u8s bs)) (hl : bs.length ≤ 1000000) : BArg w A bs :=
  .of_rd (own_rd _ h (fun _ _ _ h => h)) hl
theorem BArg.str {w : World} {A : Option Addr} {bs : List UInt8} (h : BArg w A bs) (c : Nat) : (convert 22 9 (.slice A bs.length c)).run Try.prog w = .ok (.string (str bs)) w :=
  conv_str (P := Try.prog) h.rd h.nil c Try.underlying22 Try.underlying5 Try.underlying9

/-- A message. -/
structure Msg where
  num : Int
  link : Int
  since : Int
  bytes : List UInt8
deriving DecidableEq
/-- A message as it lies: where its bytes are. -/
structure Rm where
  m : Msg
  A : Option Addr
  c : Nat
abbrev rmc (r : Rm) : List Value := [.int .i64 r.m.num, .int .i64 r.m.link, .int .i64 r.m.since, .slice r.A r.m.bytes.length r.c]
abbrev rmv (r : Rm) : Value := .agg #[.int .i64 r.m.num, .int .i64 r.m.link, .int .i64 r.m.since, .slice r.A r.m.bytes.length r.c]
def rms (l : List Rm) : List Value := l.flatMap rmc
def Rm.Ok (w : World) (r : Rm) : Prop := BArg w r.A r.m.bytes
theorem Rm.Ok.kept {w w' : World} {r : Rm} (h : r.Ok w) (hf : Fr0 w w') : r.Ok w' := BArg.kept h hf
theorem rms_cons (r : Rm) (l : List Rm) : rms (r :: l) = .int .i64 r.m.num :: .int .i64 r.m.link :: .int .i64 r.m.since :: .slice r.A r.m.bytes.length r.c :: rms l := rfl
theorem rms_append (a b : List Rm) : rms (a ++ b) = rms a ++ rms b := by simp [rms]
theorem rms_length (l : List Rm) : (rms l).length = l.length * 4 := by
  induction l with
  | nil => rfl
  | cons r l ih => rw [rms_cons]; simp only [List.length_cons, ih]; omega
theorem rms_at : ∀ (l : List Rm) (i : Nat) (h : i < l.length), (rms l)[i * 4]? = some (.int .i64 l[i].m.num) ∧ (rms l)[i * 4 + 1]? = some (.int .i64 l[i].m.link) ∧ (rms l)[i * 4 + 2]? = some (.int .i64 l[i].m.since) ∧ (rms l)[i * 4 + 3]? = some (.slice l[i].A l[i].m.bytes.length l[i].c)
  | p :: l, 0, _ => ⟨rfl, rfl, rfl, rfl⟩
  | p :: l, i + 1, h => by
    have := rms_at l i (by simpa using h)
    rw [rms_cons, show (i + 1) * 4 = i * 4 + 1 + 1 + 1 + 1 by omega]
    simpa using this
theorem rms_one (l : List Rm) : ∀ u ∈ rms l, u.oneCell' = true := by
  intro u hu
  simp only [rms, List.mem_flatMap] at hu
  obtain ⟨r, _, hu⟩ := hu
  simp only [rmc, List.mem_cons, List.not_mem_nil, or_false] at hu
  rcases hu with rfl | rfl | rfl | rfl <;> rfl
theorem rd_rm {S : Nat → Prop} {w : World} {b off : Nat} {l : List Rm} (h : Rd S w (some ⟨b, off, none⟩) (rms l)) (k : Nat) (hk : k < l.length) :
    w.cell? ⟨b, off + k * 4, none⟩ = some (.int .i64 l[k].m.num) ∧ w.cell? ⟨b, off + k * 4 + 1, none⟩ = some (.int .i64 l[k].m.link) ∧ w.cell? ⟨b, off + k * 4 + 2, none⟩ = some (.int .i64 l[k].m.since) ∧ w.cell? ⟨b, off + k * 4 + 3, none⟩ = some (.slice l[k].A l[k].m.bytes.length l[k].c) := by
  obtain ⟨e0, e1, e2, e3⟩ := rms_at l k hk
  have key : ∀ j v, (rms l)[j]? = some v → w.cell? ⟨b, off + j, none⟩ = some v := fun j v hj => by
    obtain ⟨hj1, rfl⟩ := List.getElem?_eq_some_iff.1 hj
    exact h.at_ j hj1
  exact ⟨key _ _ e0, key _ _ e1, key _ _ e2, key _ _ e3⟩
theorem rm_elem : Elem Try.prog 31 4 48 := Elem.of (.agg #[.int .i64 0, .int .i64 0, .int .i64 0, .slice none 0 0]) (by kernel_rfl) rfl (by decide)
/-- Stores of a message, cell by cell. -/
def putM (w : World) (k : Nat) (r : Rm) : World := (((w.setCell ⟨k, 0, none⟩ (.int .i64 r.m.num)).setCell ⟨k, 1, none⟩ (.int .i64 r.m.link)).setCell ⟨k, 2, none⟩ (.int .i64 r.m.since)).setCell ⟨k, 3, none⟩ (.slice r.A r.m.bytes.length r.c)
theorem putM_blk {w : World} {k : Nat} {a b c : Int} {v : Value} {t : TypeId} (h : w.heap[k]? = some (.cells #[.int .i64 a, .int .i64 b, .int .i64 c, v] t (0, 0))) (r : Rm) :
    (putM w k r).heap[k]? = some (.cells (rmc r).toArray t (0, 0)) := by
  have := blk_setCell (blk_setCell (blk_setCell (blk_setCell h 0 (.int .i64 r.m.num)) 1 (.int .i64 r.m.link)) 2 (.int .i64 r.m.since)) 3 (.slice r.A r.m.bytes.length r.c)
  exact this
theorem putM_fr {S : Nat → Prop} {a w : World} (h : Fr S a w) {k : Nat} (hb : k < a.heap.size → S k) (r : Rm) : Fr S a (putM w k r) :=
  (((h.setCell (p := ⟨k, 0, none⟩) hb _).setCell (p := ⟨k, 1, none⟩) hb _).setCell (p := ⟨k, 2, none⟩) hb _).setCell (p := ⟨k, 3, none⟩) hb _
theorem m_cells {w : World} {q : Nat} {a b c : Int} {v : Value} {t : TypeId} (h : w.heap[q]? = some (.cells #[.int .i64 a, .int .i64 b, .int .i64 c, v] t (0, 0))) :
    (w.cell? ⟨q, 0, none⟩ = some (.int .i64 a) ∧ w.cell? ⟨q, 1, none⟩ = some (.int .i64 b) ∧ w.cell? ⟨q, 2, none⟩ = some (.int .i64 c) ∧ w.cell? ⟨q, 3, none⟩ = some v) ∧ w.frozen? ⟨q, 0, none⟩ = false ∧ w.frozen? ⟨q, 1, none⟩ = false ∧ w.frozen? ⟨q, 2, none⟩ = false ∧ w.frozen? ⟨q, 3, none⟩ = false :=
  ⟨⟨cell_of_blk h 0, cell_of_blk h 1, cell_of_blk h 2, cell_of_blk h 3⟩, free_of_blk h 0, free_of_blk h 1, free_of_blk h 2, free_of_blk h 3⟩
/-- Messages that lie somewhere: a slice's. -/
structure IsLs (w : World) (A : Option Addr) (c : Nat) (L : List Rm) : Prop where
  rd : Rd (fun _ => False) w A (rms L)
  ok : ∀ r ∈ L, r.Ok w
  len : L.length ≤ c ∧ c ≤ maxLen
  nil : A = none → L = []
  most : L.length ≤ 1000000
theorem IsLs.kept {w w' : World} {A : Option Addr} {c : Nat} {L : List Rm} (h : IsLs w A c L) (hf : Fr0 w w') : IsLs w' A c L := ⟨h.rd.kept hf, fun r hr => (h.ok r hr).kept hf, h.len, h.nil, h.most⟩
theorem IsLs.nil_ (w : World) : IsLs w none 0 [] := ⟨.inl rfl, by simp, by simp [maxLen], fun _ => rfl, by simp⟩
abbrev msgs (L : List Rm) : List Msg := L.map Rm.m
/-- A pool in its block. -/
abbrev poc (most last : Int) (A : Option Addr) (n c : Nat) : Array Value := #[.int .i64 most, .int .i64 last, .slice A n c]
structure IsPool (w : World) (b : Nat) (most last : Int) (L : List Rm) : Prop where
  ex : ∃ A c, w.heap[b]? = some (.cells (poc most last A L.length c) 63 (0, 0)) ∧ IsLs w A c L
  most : 1 ≤ most ∧ most ≤ 4096
theorem IsPool.kept {w w' : World} {b : Nat} {most last : Int} {L : List Rm} (h : IsPool w b most last L) (hf : Fr0 w w') : IsPool w' b most last L := by
  obtain ⟨A, c, h1, h2⟩ := h.ex
  exact ⟨⟨A, c, hf.blk h1 (fun h => h), h2.kept hf⟩, h.most⟩
theorem po_cells {w : World} {b : Nat} {most last : Int} {A : Option Addr} {n c : Nat} (h : w.heap[b]? = some (.cells (poc most last A n c) 63 (0, 0))) :
    (w.cell? ⟨b, 0, none⟩ = some (.int .i64 most) ∧ w.cell? ⟨b, 1, none⟩ = some (.int .i64 last) ∧ w.cell? ⟨b, 2, none⟩ = some (.slice A n c)) ∧ w.frozen? ⟨b, 0, none⟩ = false ∧ w.frozen? ⟨b, 1, none⟩ = false ∧ w.frozen? ⟨b, 2, none⟩ = false :=
  ⟨⟨cell_of_blk h 0, cell_of_blk h 1, cell_of_blk h 2⟩, free_of_blk h 0, free_of_blk h 1, free_of_blk h 2⟩
/-- Bytes do not lie in a pool's block, nor do messages. -/
theorem u8_apart {w : World} {A : Option Addr} {bs : List UInt8} {b : Nat} {most last : Int} {A' : Option Addr} {n c : Nat} {t : TypeId} {fr : Nat × Nat} (h : Rd (fun _ => False) w A (u8s bs)) (hb : w.heap[b]? = some (.cells (poc most last A' n c) t fr)) : Rd (fun k => k = b) w A (u8s bs) := by
  rcases h with h | ⟨g, off, rfl, hs, h⟩
  · exact .inl h
  · cases bs with
    | nil => exact .inl rfl
    | cons x bs =>
      refine .inr ⟨g, off, rfl, fun e => ?_, h⟩
      subst e
      have h0 := h 0 (by simp [u8s])
      rw [cell_of_blk hb] at h0
      simp only [u8s, List.map_cons, List.getElem_cons_zero] at h0
      rcases Nat.lt_or_ge off 3 with ho | ho
      · have : off = 0 ∨ off = 1 ∨ off = 2 := by omega
        rcases this with rfl | rfl | rfl <;> simp at h0
      · rw [Array.getElem?_eq_none (by simp; omega)] at h0; cases h0
theorem rms_apart {w : World} {A : Option Addr} {L : List Rm} {b : Nat} {most last : Int} {A' : Option Addr} {n c : Nat} {t : TypeId} {fr : Nat × Nat} (h : Rd (fun _ => False) w A (rms L)) (hb : w.heap[b]? = some (.cells (poc most last A' n c) t fr)) : Rd (fun k => k = b) w A (rms L) := by
  rcases h with h | ⟨g, off, rfl, hs, h⟩
  · exact .inl h
  · cases L with
    | nil => exact .inl rfl
    | cons x L =>
      refine .inr ⟨g, off, rfl, fun e => ?_, h⟩
      subst e
      have h0 := h 3 (by rw [rms_cons]; simp)
      rw [cell_of_blk hb] at h0
      rw [Array.getElem?_eq_none (by simp)] at h0
      cases h0
/-- What lies, behind stores into a pool's block. -/
theorem BArg.keptB {w w' : World} {A : Option Addr} {bs : List UInt8} {b : Nat} {most last : Int} {A' : Option Addr} {n c : Nat} {t : TypeId} {fr : Nat × Nat} (h : BArg w A bs) (hb : w.heap[b]? = some (.cells (poc most last A' n c) t fr)) (hf : Fr (fun k => k = b) w w') : BArg w' A bs :=
  ⟨((u8_apart h.rd hb).kept hf).mono (fun _ _ h => h.elim), h.nil, h.len⟩
theorem IsLs.keptB {w w' : World} {A : Option Addr} {ca : Nat} {L : List Rm} {b : Nat} {most last : Int} {A' : Option Addr} {n c : Nat} {t : TypeId} {fr : Nat × Nat} (h : IsLs w A ca L) (hb : w.heap[b]? = some (.cells (poc most last A' n c) t fr)) (hf : Fr (fun k => k = b) w w') : IsLs w' A ca L :=
  ⟨((rms_apart h.rd hb).kept hf).mono (fun _ _ h => h.elim), fun r hr => BArg.keptB (h.ok r hr) hb hf, h.len, h.nil, h.most⟩
/-- No pool: nil, or made by nobody. -/
def NoPo (w : World) (v : Value) : Prop := v = .pointer none ∨ ∃ b, v = .pointer (some ⟨b, 0, none⟩) ∧ w.cell? ⟨b, 0, none⟩ = some (.int .i64 0)
theorem NoPo.kept {w w' : World} {v : Value} (h : NoPo w v) (hf : Fr0 w w') : NoPo w' v := h.elim .inl (fun ⟨b, h1, h2⟩ => .inr ⟨b, h1, hf.cell h2 (fun h => h)⟩)
end Go.Proofs.Ytbhdkpcakjookaa
