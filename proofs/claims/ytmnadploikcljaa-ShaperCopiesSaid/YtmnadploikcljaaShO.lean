/- Chapter 13: the document's shaper: its words, New, Bytes. -/
import Derived.Test.YtmnadploikcljaaBkQ
import Derived.Test.YtmnadploikcljaaShA
import Derived.Test.YtmnadploikcljaaRegC
set_option linter.unusedVariables false
set_option linter.unusedSimpArgs false
namespace Go.Proofs.Ytmnadploikcljaa
open Go.RowKit
attribute [local go_sem] Oper.semAt_some

/-- The document's shaper: its spec, what went, its tick, its room, what waits. -/
structure Rs where
  s : Sp
  l : List (Int × Int)
  now : Int
  room : Int
  L : List (Int × Int)
abbrev rsc (s : Sp) (A : Option Addr) (n c : Nat) (now room : Int) (A2 : Option Addr) (n2 c2 : Nat) : Array Value := #[.int .i64 s.peak, .int .i64 s.rate, .int .i64 s.burst, .int .i64 s.most, .int .i64 s.least, .slice A n c, .int .i64 now, .int .i64 room, .slice A2 n2 c2]
abbrev rsv (s : Sp) (A : Option Addr) (n c : Nat) (now room : Int) (A2 : Option Addr) (n2 c2 : Nat) : Value := .agg (rsc s A n c now room A2 n2 c2)
abbrev rsz : Array Value := rsc ⟨0, 0, 0, 0, 0⟩ none 0 0 0 0 none 0 0
structure RsCells (w : World) (b : Nat) (s : Sp) (A : Option Addr) (n c : Nat) (now room : Int) (A2 : Option Addr) (n2 c2 : Nat) : Prop where
  x0 : w.cell? ⟨b, 0, none⟩ = some (.int .i64 s.peak)
  x1 : w.cell? ⟨b, 1, none⟩ = some (.int .i64 s.rate)
  x2 : w.cell? ⟨b, 2, none⟩ = some (.int .i64 s.burst)
  x3 : w.cell? ⟨b, 3, none⟩ = some (.int .i64 s.most)
  x4 : w.cell? ⟨b, 4, none⟩ = some (.int .i64 s.least)
  x5 : w.cell? ⟨b, 5, none⟩ = some (.slice A n c)
  x6 : w.cell? ⟨b, 6, none⟩ = some (.int .i64 now)
  x7 : w.cell? ⟨b, 7, none⟩ = some (.int .i64 room)
  x8 : w.cell? ⟨b, 8, none⟩ = some (.slice A2 n2 c2)
theorem rs_cells {w : World} {b : Nat} {s : Sp} {A : Option Addr} {n c : Nat} {now room : Int} {A2 : Option Addr} {n2 c2 : Nat} (h : w.heap[b]? = some (.cells (rsc s A n c now room A2 n2 c2) 51 (0, 0))) : RsCells w b s A n c now room A2 n2 c2 :=
  ⟨cell_of_blk h 0, cell_of_blk h 1, cell_of_blk h 2, cell_of_blk h 3, cell_of_blk h 4, cell_of_blk h 5, cell_of_blk h 6, cell_of_blk h 7, cell_of_blk h 8⟩
theorem rs_free {w : World} {b : Nat} {cs : Array Value} {t : TypeId} (h : w.heap[b]? = some (.cells cs t (0, 0))) :
    w.frozen? ⟨b, 0, none⟩ = false ∧ w.frozen? ⟨b, 1, none⟩ = false ∧ w.frozen? ⟨b, 2, none⟩ = false ∧ w.frozen? ⟨b, 3, none⟩ = false ∧ w.frozen? ⟨b, 4, none⟩ = false ∧ w.frozen? ⟨b, 5, none⟩ = false ∧ w.frozen? ⟨b, 6, none⟩ = false ∧ w.frozen? ⟨b, 7, none⟩ = false ∧ w.frozen? ⟨b, 8, none⟩ = false :=
  ⟨free_of_blk h 0, free_of_blk h 1, free_of_blk h 2, free_of_blk h 3, free_of_blk h 4, free_of_blk h 5, free_of_blk h 6, free_of_blk h 7, free_of_blk h 8⟩
/-- A document's shaper stored over another one. -/
def putRs (w : World) (b : Nat) (s : Sp) (A : Option Addr) (n c : Nat) (now room : Int) (A2 : Option Addr) (n2 c2 : Nat) : World := ((putR w b s A n c now).setCell ⟨b, 7, none⟩ (.int .i64 room)).setCell ⟨b, 8, none⟩ (.slice A2 n2 c2)
theorem putRs_blk {w : World} {b : Nat} {s' : Sp} {A' : Option Addr} {n' c' : Nat} {now' room' : Int} {A2' : Option Addr} {n2' c2' : Nat} (h : w.heap[b]? = some (.cells (rsc s' A' n' c' now' room' A2' n2' c2') 51 (0, 0))) (s : Sp) (A : Option Addr) (n c : Nat) (now room : Int) (A2 : Option Addr) (n2 c2 : Nat) :
    (putRs w b s A n c now room A2 n2 c2).heap[b]? = some (.cells (rsc s A n c now room A2 n2 c2) 51 (0, 0)) := by
  unfold putRs putR
  have h := show (World.setCell _ ⟨b, 0, none⟩ (.int .i64 s.peak)).heap[b]? = some (.cells #[(.int .i64 s.peak), (.int .i64 s'.rate), (.int .i64 s'.burst), (.int .i64 s'.most), (.int .i64 s'.least), (.slice A' n' c'), (.int .i64 now'), (.int .i64 room'), (.slice A2' n2' c2')] 51 (0, 0)) from blk_setCell h 0 (.int .i64 s.peak)
  have h := show (World.setCell _ ⟨b, 1, none⟩ (.int .i64 s.rate)).heap[b]? = some (.cells #[(.int .i64 s.peak), (.int .i64 s.rate), (.int .i64 s'.burst), (.int .i64 s'.most), (.int .i64 s'.least), (.slice A' n' c'), (.int .i64 now'), (.int .i64 room'), (.slice A2' n2' c2')] 51 (0, 0)) from blk_setCell h 1 (.int .i64 s.rate)
  have h := show (World.setCell _ ⟨b, 2, none⟩ (.int .i64 s.burst)).heap[b]? = some (.cells #[(.int .i64 s.peak), (.int .i64 s.rate), (.int .i64 s.burst), (.int .i64 s'.most), (.int .i64 s'.least), (.slice A' n' c'), (.int .i64 now'), (.int .i64 room'), (.slice A2' n2' c2')] 51 (0, 0)) from blk_setCell h 2 (.int .i64 s.burst)
  have h := show (World.setCell _ ⟨b, 3, none⟩ (.int .i64 s.most)).heap[b]? = some (.cells #[(.int .i64 s.peak), (.int .i64 s.rate), (.int .i64 s.burst), (.int .i64 s.most), (.int .i64 s'.least), (.slice A' n' c'), (.int .i64 now'), (.int .i64 room'), (.slice A2' n2' c2')] 51 (0, 0)) from blk_setCell h 3 (.int .i64 s.most)
  have h := show (World.setCell _ ⟨b, 4, none⟩ (.int .i64 s.least)).heap[b]? = some (.cells #[(.int .i64 s.peak), (.int .i64 s.rate), (.int .i64 s.burst), (.int .i64 s.most), (.int .i64 s.least), (.slice A' n' c'), (.int .i64 now'), (.int .i64 room'), (.slice A2' n2' c2')] 51 (0, 0)) from blk_setCell h 4 (.int .i64 s.least)
  have h := show (World.setCell _ ⟨b, 5, none⟩ (.slice A n c)).heap[b]? = some (.cells #[(.int .i64 s.peak), (.int .i64 s.rate), (.int .i64 s.burst), (.int .i64 s.most), (.int .i64 s.least), (.slice A n c), (.int .i64 now'), (.int .i64 room'), (.slice A2' n2' c2')] 51 (0, 0)) from blk_setCell h 5 (.slice A n c)
  have h := show (World.setCell _ ⟨b, 6, none⟩ (.int .i64 now)).heap[b]? = some (.cells #[(.int .i64 s.peak), (.int .i64 s.rate), (.int .i64 s.burst), (.int .i64 s.most), (.int .i64 s.least), (.slice A n c), (.int .i64 now), (.int .i64 room'), (.slice A2' n2' c2')] 51 (0, 0)) from blk_setCell h 6 (.int .i64 now)
  have h := show (World.setCell _ ⟨b, 7, none⟩ (.int .i64 room)).heap[b]? = some (.cells #[(.int .i64 s.peak), (.int .i64 s.rate), (.int .i64 s.burst), (.int .i64 s.most), (.int .i64 s.least), (.slice A n c), (.int .i64 now), (.int .i64 room), (.slice A2' n2' c2')] 51 (0, 0)) from blk_setCell h 7 (.int .i64 room)
  have h := show (World.setCell _ ⟨b, 8, none⟩ (.slice A2 n2 c2)).heap[b]? = some (.cells #[(.int .i64 s.peak), (.int .i64 s.rate), (.int .i64 s.burst), (.int .i64 s.most), (.int .i64 s.least), (.slice A n c), (.int .i64 now), (.int .i64 room), (.slice A2 n2 c2)] 51 (0, 0)) from blk_setCell h 8 (.slice A2 n2 c2)
  exact h
theorem putRs_fr {S : Nat → Prop} {a w : World} (h : Fr S a w) {b : Nat} (hb : b < a.heap.size → S b) (s : Sp) (A : Option Addr) (n c : Nat) (now room : Int) (A2 : Option Addr) (n2 c2 : Nat) : Fr S a (putRs w b s A n c now room A2 n2 c2) :=
  ((putR_fr h hb s A n c now).setCell (p := ⟨b, 7, none⟩) hb _).setCell (p := ⟨b, 8, none⟩) hb _
theorem putRs_other {w : World} {b x : Nat} {o : Obj} (h : w.heap[x]? = some o) (hne : b ≠ x) (s : Sp) (A : Option Addr) (n c : Nat) (now room : Int) (A2 : Option Addr) (n2 c2 : Nat) : (putRs w b s A n c now room A2 n2 c2).heap[x]? = some o := by
  have := (putRs_fr (S := (· = b)) (Fr.refl _ w) (b := b) (fun _ => rfl) s A n c now room A2 n2 c2).blk h (fun e => hne e.symm)
  exact this
/-- Packets of some size, or of none. -/
def Siz (l : List (Int × Int)) : Prop := ∀ p ∈ l, 0 ≤ p.2 ∧ p.2 ≤ 2000
theorem Siz.range {l : List (Int × Int)} (h : Siz l) : 0 ≤ bytesW l ∧ bytesW l ≤ 2000 * (l.length : Int) := by
  induction l with
  | nil => simp [bytesW]
  | cons p l ih =>
    have h1 := h p (by simp)
    have h2 := ih (fun q hq => h q (by simp [hq]))
    rw [bytesW_cons]
    simp only [List.length_cons]
    omega
theorem Siz.take {l : List (Int × Int)} (h : Siz l) (k : Nat) : Siz (l.take k) := fun p hp => h p (List.mem_of_mem_take hp)
theorem Siz.drop {l : List (Int × Int)} (h : Siz l) (k : Nat) : Siz (l.drop k) := fun p hp => h p (List.mem_of_mem_drop hp)
theorem Siz.snoc {l : List (Int × Int)} (h : Siz l) {p : Int × Int} (hp : 0 ≤ p.2 ∧ p.2 ≤ 2000) : Siz (l ++ [p]) := by
  intro q hq
  rcases List.mem_append.1 hq with hq | hq
  · exact h q hq
  · have : q = p := by simpa using hq
    rw [this]; exact hp
theorem Pos.siz {l : List (Int × Int)} (h : Pos l) : Siz l := fun p hp => by have := h p hp; omega
set_option maxHeartbeats 1000000 in
theorem rsbytes_calls (s : Sp) (A : Option Addr) (n c : Nat) (now room : Int) (A2 : Option Addr) (c2 : Nat) (L : List (Int × Int)) (w : World) (hR : Rd (fun _ => False) w A2 (sends L)) (hs : Siz L) (hl : L.length ≤ 1000000000) :
    Calls Try.prog 41 #[rsv s A n c now room A2 L.length c2] w fun e w' => e = .returned (.int .i64 (bytesW L)) ∧ Fr0 w w' := by
  have hf := (Fr.refl (fun _ => False) w).alloc (.cells (rsc s A n c now room A2 L.length c2) 51)
  have HF := Lib.hid hf
  have HR := Lib.hid (hR.kept hf)
  have HS := Lib.hid hs
  have c8 := (rs_cells (heap_alloc_new w (.cells (rsc s A n c now room A2 L.length c2) 51))).x8
  clear hR hs hf
  go_enter Try.func41, Try.ntmps41
  go_wp2_with fail
  generalize w.alloc (.cells (rsc s A n c now room A2 L.length c2) 51) = W at *
  go_loop [3, 4] (fun n i => ∃ k : Nat, k ≤ L.length ∧ i = .int .i64 (k : Int) ∧ n = .int .i64 (bytesW (L.take k))) (fun _ i => L.length - (intOf i).toNat)
  case atStart => exact ⟨0, Nat.zero_le _, rfl, by simp [bytesW]⟩
  case round =>
    obtain ⟨k, hk, rfl, rfl⟩ := hrel
    have hb := (HS.out.take k).range
    have hlt' : ((L.take k).length : Int) ≤ 1000000000 := by rw [List.length_take]; omega
    by_cases hlt : k < L.length
    · have hr := HR.out
      obtain ⟨g, off, rfl⟩ := hr.some_ (by rw [sends_length]; omega)
      obtain ⟨d0, d1⟩ := rdl_cells hr k hlt
      have hi1 : (0 : Int) ≤ (k : Int) := by omega
      have hi2 : (k : Int) < (L.length : Int) := by omega
      have hz := HS.out (at_ L k, sz_ L k) (by rw [at_eq L k hlt, sz_eq L k hlt]; exact List.getElem_mem hlt)
      have HTB := Lib.hid (show bytesW (L.take (k + 1)) = bytesW (L.take k) + sz_ L k by rw [take_snoc L k hlt, bytesW_app, bytesW_one])
      generalize bytesW (L.take k) = sm at *
      generalize sz_ L k = x at *
      obtain ⟨z1, z2⟩ := hz
      dsimp only at z1 z2
      clear hr
      go_wp2_with fail
      go_round
      case rel => exact ⟨k + 1, by omega, by go_num, by rw [HTB.out]⟩
      case measure => simp [intOf]; omega
    · have hkm : k = L.length := by omega
      subst hkm
      clear hb
      go_wp2_with fail
      go_ret
      exact ⟨ret_int (by simp), HF.out⟩
theorem results_row_tmp {P : Program} {fn : Func} {p u : Tmp} {ty : TypeId} (h : fn.results = #[.cell p ty, .tmp u]) (tmps : Array Value) (w : World) (g : Nat) (t : TypeId) (cs : Array Value) (fr : Nat × Nat) (d : TypeDesc)
    (hp : tmps.getD p undef = .pointer (some ⟨g, 0, none⟩)) (hg : w.heap[g]? = some (.cells cs t fr))
    (hu : P.underlying ty = some d) (hd : (match d with | .struct _ | .array _ _ => true | _ => false) = true) (hi : (P.info? ty).map (·.size) = some cs.size) :
    (results fn tmps).run P w = .ok (.tuple #[.agg cs, tmps.getD u undef]) w := by
  rw [results_cell_tmp h, hp]
  simp [asAddr, Result.andThen, run_loadVar_row w g t ty cs fr d hg hu hd hi]
end Go.Proofs.Ytmnadploikcljaa
