/- Chapter 15: the statement FifoPlay walked. -/
import Derived.Test.YtfiiikgjgcnjgaaFfU
set_option linter.unusedVariables false
set_option linter.unusedSimpArgs false
namespace Go.Proofs.Ytfiiikgjgcnjgaa
open Go.RowKit

def Yes (w : World) (e : Ending) (w' : World) : Prop := e = .returned (.bool true) ∧ Fr0 w w'
/-- Packets do not lie in a document's line. -/
theorem rd_apart {S : Nat → Prop} {w : World} {A : Option Addr} {l : List Pk} {r : Nat} {room : Int} {A0 : Option Addr} {n c : Nat} {p b : Int} {t : TypeId} {fr : Nat × Nat} (h : Rd S w A (pks l)) (hr : w.heap[r]? = some (.cells (rlc room A0 n c p b) t fr)) : Rd (fun k => S k ∨ k = r) w A (pks l) := by
  rcases h with h | ⟨g, off, rfl, hs, h⟩
  · exact .inl h
  · cases l with
    | nil => exact Rd.nil _ _ _
    | cons x l =>
      refine .inr ⟨g, off, rfl, fun e => ?_, h⟩
      rcases e with e | rfl
      · exact hs e
      · have e : pks (x :: l) = .int .i64 x.id :: .int .i64 x.flow :: .int .i64 x.size :: pks l := rfl
        have h0 := h 0 (by rw [e]; simp)
        have h1 := h 1 (by rw [e]; simp)
        have h2 := h 2 (by rw [e]; simp)
        simp only [e, List.getElem_cons_zero, List.getElem_cons_succ] at h0 h1 h2
        rw [cell_of_blk hr] at h0 h1 h2
        have h3 : off < 4 := by
          rcases Nat.lt_or_ge off 4 with h | h
          · exact h
          · rw [Nat.add_zero, Array.getElem?_eq_none (by simp; omega)] at h0; cases h0
        have h4 : off = 0 ∨ off = 1 ∨ off = 2 ∨ off = 3 := by omega
        rcases h4 with rfl | rfl | rfl | rfl <;> simp at h0 h1 h2
theorem IsRl.apart {w : World} {S : Nat → Prop} {v : Value} {s : Fs} {r : Nat} {room : Int} {A0 : Option Addr} {n c : Nat} {p b : Int} {t : TypeId} {fr : Nat × Nat} (h : IsRl w S v s) (hr : w.heap[r]? = some (.cells (rlc room A0 n c p b) t fr)) : IsRl w (fun k => S k ∨ k = r) v s := by
  obtain ⟨A, c, h1, h2, h3⟩ := h.ex
  exact ⟨A, c, h1, rd_apart h2 hr, h3⟩
theorem Two.kept0 {w w' : World} {b g : Nat} {v : Value} {s : Fs} {K : Nat} (h : Two w b g v s K) (hf : Fr0 w w') : Two w' b g v s K := ⟨h.ln.kept0 hf, h.rl.kept (Fr0.any hf), h.ok⟩
/-- A store into a document's line's box. -/
theorem Two.put {w : World} {b g r : Nat} {v : Value} {s : Fs} {K : Nat} {room0 : Int} {A0 : Option Addr} {n0 c0 : Nat} {p0 b0 : Int} (h : Two w b g v s K) (hr : w.heap[r]? = some (.cells (rlc room0 A0 n0 c0 p0 b0) 30 (0, 0))) (hb : r ≠ b) (hg : r ≠ g) (room : Int) (A : Option Addr) (n c : Nat) (p b' : Int) :
    Two (putRl w r room A n c p b') b g v s K :=
  have hf : Fr (fun k => k = r) w (putRl w r room A n c p b') := putRl_fr (S := fun k => k = r) (k := r) (Fr.refl _ w) (fun _ => rfl) _ _ _ _ _ _
  ⟨h.ln.kept hf (fun e => hb e.symm) (fun e => hg e.symm), ((h.rl.apart hr).kept (hf.mono (fun _ _ e => .inr e))).mono (fun _ _ e => .inl e), h.ok⟩
theorem lsame_any (b g : Nat) (v : Value) (s : Fs) (K : Nat) (w : World) (h : Two w b g v s K) : Calls Try.prog 11 #[.pointer (some ⟨b, 0, none⟩), v] w fun e w' => e = .returned (.bool true) ∧ Fr0 w w' := by
  obtain ⟨⟨X, hX, rfl, _⟩, hrl, hok⟩ := h
  obtain ⟨A, c, rfl, hR, _⟩ := hrl.ex
  exact lsame_calls b g X A c w hX (hR.mono (T := fun _ => False) (fun _ _ h => h.elim)) hok.small
/-- Acts that came in. -/
def acts (l : List (Int × Pk)) : List Value := l.flatMap fun x => (actc x.1 x.2).toList
theorem acts_length (l : List (Int × Pk)) : (acts l).length = l.length * 4 := by
  induction l with
  | nil => rfl
  | cons p l ih =>
    have e : acts (p :: l) = .int .i64 p.1 :: .int .i64 p.2.id :: .int .i64 p.2.flow :: .int .i64 p.2.size :: acts l := rfl
    rw [e]
    simp only [List.length_cons, ih]
    omega
theorem acts_at : ∀ (l : List (Int × Pk)) (i : Nat) (h : i < l.length), (acts l)[i * 4]? = some (.int .i64 l[i].1) ∧ (acts l)[i * 4 + 1]? = some (.int .i64 l[i].2.id) ∧ (acts l)[i * 4 + 2]? = some (.int .i64 l[i].2.flow) ∧ (acts l)[i * 4 + 3]? = some (.int .i64 l[i].2.size)
  | p :: l, 0, _ => ⟨rfl, rfl, rfl, rfl⟩
  | p :: l, i + 1, h => by
    have := acts_at l i (by simpa using h)
    have e : acts (p :: l) = .int .i64 p.1 :: .int .i64 p.2.id :: .int .i64 p.2.flow :: .int .i64 p.2.size :: acts l := rfl
    rw [e, show (i + 1) * 4 = i * 4 + 1 + 1 + 1 + 1 by omega]
    simpa using this
theorem rd_act {S : Nat → Prop} {w : World} {b off : Nat} {l : List (Int × Pk)} (h : Rd S w (some ⟨b, off, none⟩) (acts l)) (k : Nat) (hk : k < l.length) :
    w.cell? ⟨b, off + k * 4, none⟩ = some (.int .i64 l[k].1) ∧ w.cell? ⟨b, off + k * 4 + 1, none⟩ = some (.int .i64 l[k].2.id) ∧ w.cell? ⟨b, off + k * 4 + 2, none⟩ = some (.int .i64 l[k].2.flow) ∧ w.cell? ⟨b, off + k * 4 + 3, none⟩ = some (.int .i64 l[k].2.size) := by
  obtain ⟨e0, e1, e2, e3⟩ := acts_at l k hk
  have key : ∀ j v, (acts l)[j]? = some v → w.cell? ⟨b, off + j, none⟩ = some v := fun j v hj => by
    obtain ⟨hj1, rfl⟩ := List.getElem?_eq_some_iff.1 hj
    exact h.at_ j hj1
  exact ⟨key _ _ e0, key _ _ e1, key _ _ e2, key _ _ e3⟩
theorem fnew_no (room : Int) (w : World) (hr : ¬ (0 ≤ room ∧ room ≤ 1000000000)) : Calls Try.prog 9 #[.int .i64 room] w fun e w' => e = .returned (.tuple #[.pointer none, .int .i64 2]) ∧ Fr0 w w' := by
  have HW := Lib.hid (fwithin_calls room 0 1000000000)
  rw [decide_eq_false hr] at HW
  clear hr
  go_enter Try.func9, Try.ntmps9
  go_wp2_with (go_at_call 23; refine (HW.out _).mono ?_; rintro e w' ⟨rfl, rfl⟩)
  go_ret2
  exact ⟨rfl, Fr.refl _ _⟩
set_option maxRecDepth 100000 in
set_option maxHeartbeats 4000000 in
theorem fplay_walk (room : Int) (A : Option Addr) (c : Nat) (l : List (Int × Pk)) (w : World) (hR : Rd (fun _ => False) w A (acts l)) (hl : l.length ≤ 140737488351232) :
    Calls Try.prog 3 #[.int .i64 room, .slice A l.length c] w (Yes w) := by
  have HR := Lib.hid hR
  clear hR
  have HKN := Lib.hid known15_calls
  by_cases h60 : 60 < l.length
  · go_enter Try.func3, Try.ntmps3
    go_wp2_with (go_at_call 8; refine (HKN.out _).mono ?_; rintro e w6 ⟨rfl, hf6⟩)
    go_ret
    exact ⟨rfl, hf6⟩
  by_cases hr : 0 ≤ room ∧ room ≤ 1000000000
  · have HN := Lib.hid (lw_new room w w (Fr.refl _ _) hr)
    obtain ⟨hr1, hr2⟩ := hr
    go_enter Try.func3, Try.ntmps3
    go_wp2_with fail
    refine HN.out.mono ?_
    rintro e w2 ⟨b, rfl, ⟨g0, hln, hg0⟩, hb, hf2, hok⟩
    have HLN := Lib.hid hln
    have HBG := Lib.hid (show w.heap.size ≤ b ∧ w.heap.size ≤ g0 ∧ b < w2.heap.size ∧ g0 < w2.heap.size from ⟨hb, hg0, hln.lt.1, hln.lt.2.1⟩)
    have HOK := Lib.hid hok
    have HF2 := Lib.hid hf2
    clear hln hg0 hb hf2 hok HN
    have HTW := Lib.hid (show Two (w2.alloc (.cells (rlc room none 0 0 0 0) 30)) b g0 (rlv room none 0 0 0 0) ⟨[], 0, 0, room⟩ 0 from ⟨HLN.out.kept0 ((Fr.refl _ w2).alloc _), ⟨none, 0, rfl, Rd.nil _ _ _, Nat.le_refl _, by simp [maxLen], fun _ => rfl⟩, HOK.out⟩)
    have HRB := Lib.hid (heap_alloc_new w2 (.cells (rlc room none 0 0 0 0) 30))
    have HF4 := Lib.hid (HF2.out.alloc (.cells (rlc room none 0 0 0 0) 30))
    go_wp2_with fail
    generalize w2.alloc (.cells (rlc room none 0 0 0 0) 30) = w4 at *
    have HRL := Lib.hid (show w2.heap.size < w4.heap.size from lt_of_block HRB.out)
    generalize w2.heap.size = r at *
    go_loopw [8] (fun i wr => ∃ (k : Nat) (s : Fs) (g : Nat) (A2 : Option Addr) (c2 : Nat), k ≤ l.length ∧ i = .int .i64 (k : Int) ∧ Hid (Two wr b g (rlv s.room A2 s.l.length c2 s.lp s.lb) s k) ∧ Hid (wr.heap[r]? = some (.cells (rlc s.room A2 s.l.length c2 s.lp s.lb) 30 (0, 0))) ∧ Hid (w.heap.size ≤ g ∧ g ≠ r) ∧ Hid (Fr0 w wr)) (fun i _ => l.length - (intOf i).toNat)
    case atStart => exact ⟨0, ⟨[], 0, 0, room⟩, g0, none, 0, by omega, rfl, HTW.out, HRB.out, ⟨HBG.out.2.1, by have := HBG.out; omega⟩, HF4.out⟩
    case round =>
      obtain ⟨k, s, g, A2, c2, hk, rfl, HT, HB, HG, HF⟩ := hrel
      by_cases hlt : k < l.length
      · have HRW := Lib.hid (HR.out.kept HF.out)
        obtain ⟨p, off, rfl⟩ := HRW.out.some_ (by rw [acts_length]; omega)
        have hi1 : (0 : Int) ≤ (k : Int) := by omega
        have hi2 : (k : Int) < (l.length : Int) := by omega
        have HRR := Lib.hid (lt_of_block HB.out)
        have HBR := Lib.hid (show b ≠ r from by have := HBG.out; omega)
        have HK := Lib.hid (fun U (h : Fr0 wr U) => (show (U.cell? ⟨r, 0, none⟩ = some (.int .i64 s.room) ∧ U.cell? ⟨r, 1, none⟩ = some (.slice A2 s.l.length c2) ∧ U.cell? ⟨r, 2, none⟩ = some (.int .i64 s.lp) ∧ U.cell? ⟨r, 3, none⟩ = some (.int .i64 s.lb)) ∧ (U.cell? ⟨p, off + k * 4, none⟩ = some (.int .i64 l[k].1) ∧ U.cell? ⟨p, off + k * 4 + 1, none⟩ = some (.int .i64 l[k].2.id) ∧ U.cell? ⟨p, off + k * 4 + 2, none⟩ = some (.int .i64 l[k].2.flow) ∧ U.cell? ⟨p, off + k * 4 + 3, none⟩ = some (.int .i64 l[k].2.size)) from
          ⟨(rl_cells (h.blk HB.out (fun h => h))).1, rd_act (HR.out.kept (HF.out.trans h)) k hlt⟩))
        have HK2 := Lib.hid (fun U (h : Fr (fun k => k = b ∨ k = g) wr U) => (show (U.cell? ⟨r, 0, none⟩ = some (.int .i64 s.room) ∧ U.cell? ⟨r, 1, none⟩ = some (.slice A2 s.l.length c2) ∧ U.cell? ⟨r, 2, none⟩ = some (.int .i64 s.lp) ∧ U.cell? ⟨r, 3, none⟩ = some (.int .i64 s.lb)) ∧ (U.cell? ⟨p, off + k * 4, none⟩ = some (.int .i64 l[k].1) ∧ U.cell? ⟨p, off + k * 4 + 1, none⟩ = some (.int .i64 l[k].2.id) ∧ U.cell? ⟨p, off + k * 4 + 2, none⟩ = some (.int .i64 l[k].2.flow) ∧ U.cell? ⟨p, off + k * 4 + 3, none⟩ = some (.int .i64 l[k].2.size)) from
          ⟨(rl_cells (h.blk HB.out (fun e => by have h1 := HBR.out; have h2 := HG.out; omega))).1, rd_act (HR.out.kept ((HF.out.then h (fun i hi e => by have h1 := HBG.out; have h2 := HG.out; omega)))) k hlt⟩))
        have HDO := Lib.hid (fun w' (hf : Fr0 wr w') => does_any b g _ s k l[k].1 l[k].2 w' (HT.out.kept0 hf) (by omega))
        generalize l[k].1 = ak at *
        generalize l[k].2 = ap at *
        generalize s.act ak ap = s2 at *
        go_upto_region 10 with fail
        go_cut [9, 10] (fun s9 s10 wx => ∃ (ob g2 : Nat) (A3 : Option Addr) (c3 : Nat), s9 = .pointer (some ⟨ob, 0, none⟩) ∧ s10 = .bool true ∧ wr.heap.size ≤ ob ∧ Hid (wx.heap[ob]? = some (.cells (rlc s2.room A3 s2.l.length c3 s2.lp s2.lb) 30 (0, 0))) ∧ Hid (Two wx b g2 (rlv s2.room A3 s2.l.length c3 s2.lp s2.lb) s2 (k + 1)) ∧ Hid (g2 = g ∨ wr.heap.size ≤ g2) ∧ Hid (Fr (fun k => k = b ∨ k = g) wr wx))
        case first =>
          go_region_held3 (fun U => (U.cell? ⟨r, 0, none⟩ = some (.int .i64 s.room) ∧ U.cell? ⟨r, 1, none⟩ = some (.slice A2 s.l.length c2) ∧ U.cell? ⟨r, 2, none⟩ = some (.int .i64 s.lp) ∧ U.cell? ⟨r, 3, none⟩ = some (.int .i64 s.lb)) ∧ (U.cell? ⟨p, off + k * 4, none⟩ = some (.int .i64 ak) ∧ U.cell? ⟨p, off + k * 4 + 1, none⟩ = some (.int .i64 ap.id) ∧ U.cell? ⟨p, off + k * 4 + 2, none⟩ = some (.int .i64 ap.flow) ∧ U.cell? ⟨p, off + k * 4 + 3, none⟩ = some (.int .i64 ap.size)))
            ((refine HK2.out _ ?_; with_reducible repeat (first | exact hfB | exact Fr.refl _ _ | refine Fr.drew ?_ | refine Fr.alloc ?_ _ | refine Fr.setCell ?_ (fun h => by exfalso; have hs := Fr.size hfB; dsimp only at h; omega) _)))
            ((go_at_call 10; (with_reducible refine (HDO.out _ (by with_reducible repeat (first | exact Fr.refl _ _ | refine Fr.drew ?_ | refine Fr.alloc ?_ _))).mono ?_); rintro e wA ⟨⟨u, g2, rfl, htw, hg2⟩, hfA⟩; obtain ⟨A3, c3, rfl, hrest⟩ := htw.rl.ex; have hfB : Fr (fun k => k = b ∨ k = g) wr wA := Fr.trans (by repeat (first | exact Fr.refl _ _ | refine Fr.drew ?_ | refine Fr.alloc ?_ _)) hfA; try (have hzz : wA.heap[wr.heap.size]? = some (.cells rlz 30 (0, 0)) := hfA.blk (heap_alloc_new _ _) (fun e => by have h1 := HT.out.ln.lt; omega); obtain ⟨⟨z0, z1, z2, z3⟩, f0, f1, f2, f3⟩ := rl_cells hzz)))
          · have HX := Lib.hid (heap_alloc_new wA (.cells (rlc s2.room A3 s2.l.length c3 s2.lp s2.lb) 30))
            have HY := Lib.hid (htw.kept0 ((Fr.refl _ wA).alloc (.cells (rlc s2.room A3 s2.l.length c3 s2.lp s2.lb) 30)))
            have HZ := Lib.hid (hfB.alloc (.cells (rlc s2.room A3 s2.l.length c3 s2.lp s2.lb) 30))
            have HS := Lib.hid hfB.size
            have HG2 := Lib.hid (show g2 = g ∨ wr.heap.size ≤ g2 from hg2)
            clear htw hfB hfA hg2
            go_wp2_with fail
            go_meet
            exact ⟨wA.heap.size, g2, A3, c3, rfl, rfl, HS.out, HX, HY, HG2, HZ⟩
          · have h3 := HT.out.ln.lt
            have hg2' : g2 = g ∨ wr.heap.size + 1 ≤ g2 := by simpa using hg2
            have HX := Lib.hid (putRl_blk hzz s2.room A3 s2.l.length c3 s2.lp s2.lb)
            have HY := Lib.hid (htw.put hzz (by omega) (by omega) s2.room A3 s2.l.length c3 s2.lp s2.lb)
            have HZ := Lib.hid (putRl_fr hfB (k := wr.heap.size) (fun h => absurd h (Nat.lt_irrefl _)) s2.room A3 s2.l.length c3 s2.lp s2.lb)
            have HG2 := Lib.hid (show g2 = g ∨ wr.heap.size ≤ g2 from by omega)
            clear htw hfB hfA hg2 hg2' h3 hzz
            generalize hch : ((((wA.setCell ⟨wr.heap.size, 0, none⟩ (.int .i64 s2.room)).setCell ⟨wr.heap.size, 1, none⟩ (.slice A3 s2.l.length c3)).setCell ⟨wr.heap.size, 2, none⟩ (.int .i64 s2.lp)).setCell ⟨wr.heap.size, 3, none⟩ (.int .i64 s2.lb)) = Wf at *
            have hW : putRl wA wr.heap.size s2.room A3 s2.l.length c3 s2.lp s2.lb = Wf := hch
            rw [hW] at HX HY HZ
            clear hW hch z0 z1 z2 z3 f0 f1 f2 f3
            go_wp2_with fail
            go_meet
            exact ⟨wr.heap.size, g2, A3, c3, rfl, rfl, Nat.le_refl _, HX, HY, HG2, HZ⟩
        case rest =>
          obtain ⟨ob, g2, A3, c3, rfl, rfl, hob, HOB, HTC, HGC, HFC⟩ := hcut
          have HRC := Lib.hid (HFC.out.blk HB.out (fun e => by have h1 := HBR.out; have h2 := HG.out; omega))
          have HSM := Lib.hid (fun w' (hf : Fr0 wc w') => lsame_any b g2 _ s2 (k + 1) w' (HTC.out.kept0 hf))
          obtain ⟨⟨o0, o1, o2, o3⟩, _⟩ := rl_cells HOB.out
          go_wp2_with fail
          refine (HSM.out _ (Fr.refl _ _)).mono ?_
          rintro e w5 ⟨rfl, hf5⟩
          have HOB5 := Lib.hid (hf5.blk HOB.out (fun h => h))
          have HRC5 := Lib.hid (hf5.blk HRC.out (fun h => h))
          have HTC5 := Lib.hid (HTC.out.kept0 hf5)
          have HFC5 := Lib.hid (HFC.out.trans (Fr0.any hf5))
          clear o0 o1 o2 o3 hf5
          obtain ⟨⟨o0, o1, o2, o3⟩, _⟩ := rl_cells HOB5.out
          obtain ⟨⟨q0, q1, q2, q3⟩, y0, y1, y2, y3⟩ := rl_cells HRC5.out
          have HX := Lib.hid (putRl_blk HRC5.out s2.room A3 s2.l.length c3 s2.lp s2.lb)
          have HNE := Lib.hid (show w.heap.size ≤ g2 ∧ g2 ≠ r from by have h1 := HGC.out; have h2 := HG.out; have h3 := HRR.out; have h4 := HF.out.size; omega)
          have HY := Lib.hid (HTC5.out.put HRC5.out HBR.out.symm HNE.out.2.symm s2.room A3 s2.l.length c3 s2.lp s2.lb)
          have HZ := Lib.hid (putRl_fr (HF.out.then HFC5.out (fun i hi e => by have h1 := HBG.out; have h2 := HG.out; omega)) (k := r) (fun h => by have h1 := HBG.out; have h2 := HF2.out.size; omega) s2.room A3 s2.l.length c3 s2.lp s2.lb)
          go_wp2_with fail
          go_roundw
          case rel => exact ⟨k + 1, s2, g2, A3, c3, by omega, by go_num, HY.out, HX.out, HNE.out, HZ.out⟩
          case measure => simp [intOf]; omega
      · go_wp2_with (go_at_call 8; refine (HKN.out _).mono ?_; rintro e w6 ⟨rfl, hf6⟩)
        go_ret
        exact ⟨rfl, HF.out.trans hf6⟩
  · have HN := Lib.hid (fnew_no room w hr)
    have hq : room < 0 ∨ 1000000000 < room := by omega
    clear hr
    rcases hq with hq | hq
    · go_enter Try.func3, Try.ntmps3
      go_wp2_with (first
        | (go_at_call 9; refine HN.out.mono ?_; rintro e w2 ⟨rfl, hf2⟩)
        | (go_at_call 8; refine (HKN.out _).mono ?_; rintro e w6 ⟨rfl, hf6⟩))
      go_ret
      exact ⟨rfl, hf2.trans hf6⟩
    · have hq0 : ¬ room < 0 := by omega
      go_enter Try.func3, Try.ntmps3
      go_wp2_with (first
        | (go_at_call 9; refine HN.out.mono ?_; rintro e w2 ⟨rfl, hf2⟩)
        | (go_at_call 8; refine (HKN.out _).mono ?_; rintro e w6 ⟨rfl, hf6⟩))
      go_ret
      exact ⟨rfl, hf2.trans hf6⟩
end Go.Proofs.Ytfiiikgjgcnjgaa
