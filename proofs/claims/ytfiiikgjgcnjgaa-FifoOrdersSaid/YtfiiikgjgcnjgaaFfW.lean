/- Chapter 15: the statement FifoOrders walked. -/
import Derived.Test.YtfiiikgjgcnjgaaFfV
set_option linter.unusedVariables false
set_option linter.unusedSimpArgs false
namespace Go.Proofs.Ytfiiikgjgcnjgaa
open Go.RowKit

theorem put_cases (s : Fs) (p : Pk) : ((s.put p).2 = 0 ∧ (s.put p).1.l = s.l ++ [p] ∧ bytesOf (s.put p).1.l ≤ s.room) ∨ (((s.put p).2 = 2 ∨ (s.put p).2 = 230) ∧ (s.put p).1.l = s.l) := by
  unfold Fs.put
  split
  · split
    · exact .inr ⟨.inr rfl, rfl⟩
    · refine .inl ⟨rfl, rfl, ?_⟩
      simp only [bytesOf_app, bytesOf_one]; omega
  · exact .inr ⟨.inl rfl, rfl⟩
theorem put_room (s : Fs) (p : Pk) : (s.put p).1.room = s.room := by unfold Fs.put; split <;> (try split) <;> rfl
/-- A line and two rows, all of the law's own. -/
structure Ord (w wr : World) (b g : Nat) (s : Fs) (K : Nat) (v1 : Value) (C : List Pk) (v2 : Value) (D : List Pk) : Prop where
  ln : LnAt wr b g s K
  ok : s.Ok K
  hb : w.heap.size ≤ b
  hg : w.heap.size ≤ g
  o1 : pkRow wr w.heap.size v1 C
  o2 : pkRow wr w.heap.size v2 D
  fr : Fr0 w wr
  a1 : ∀ q, v1.ownBlock = some q → q ≠ b ∧ q ≠ g ∧ v2.ownBlock ≠ some q
  a2 : ∀ q, v2.ownBlock = some q → q ≠ b ∧ q ≠ g
  len : C = D ++ s.l
  bytes : bytesOf s.l ≤ s.room
theorem own_lt {w : World} {base : Nat} {v : Value} {l : List Pk} (h : pkRow w base v l) {q : Nat} (hq : v.ownBlock = some q) : q < w.heap.size := by
  obtain ⟨_, cs, hb⟩ := own_blk h hq
  exact lt_of_block hb
theorem Ord.kept0 {w wr w' : World} {b g : Nat} {s : Fs} {K : Nat} {v1 : Value} {C : List Pk} {v2 : Value} {D : List Pk} (h : Ord w wr b g s K v1 C v2 D) (hf : Fr0 wr w') : Ord w w' b g s K v1 C v2 D :=
  ⟨h.ln.kept0 hf, h.ok, h.hb, h.hg, own_kept0 h.o1 hf, own_kept0 h.o2 hf, h.fr.trans hf, h.a1, h.a2, h.len, h.bytes⟩
/-- Behind a call: the rows stand, whatever became of the line; what the row C is to be is told apart. -/
structure OrdN (w w' : World) (b g : Nat) (s : Fs) (K : Nat) (v1 : Value) (C : List Pk) (v2 : Value) (D : List Pk) : Prop where
  ln : LnAt w' b g s K
  hb : w.heap.size ≤ b
  hg : w.heap.size ≤ g
  o1 : pkRow w' w.heap.size v1 C
  o2 : pkRow w' w.heap.size v2 D
  fr : Fr0 w w'
  a1 : ∀ q, v1.ownBlock = some q → q ≠ b ∧ q ≠ g ∧ v2.ownBlock ≠ some q
  a2 : ∀ q, v2.ownBlock = some q → q ≠ b ∧ q ≠ g
theorem Ord.next {w wr w' : World} {b g : Nat} {s s' : Fs} {K K' : Nat} {v1 : Value} {C : List Pk} {v2 : Value} {D : List Pk} (h : Ord w wr b g s K v1 C v2 D) (hn : LnNext wr w' b g s' K') : ∃ g', OrdN w w' b g' s' K' v1 C v2 D := by
  obtain ⟨⟨g', h1, h2⟩, h3⟩ := hn
  have hs := h.fr.size
  refine ⟨g', h1, h.hb, ?_, own_kept h.o1 h3 (fun q hq e => ?_), own_kept h.o2 h3 (fun q hq e => ?_), h.fr.then h3 (fun i hi e => ?_), fun q hq => ?_, fun q hq => ?_⟩
  · have := h.hg; omega
  · have := h.a1 q hq; omega
  · have := h.a2 q hq; omega
  · have := h.hb; have := h.hg; omega
  · have h4 := h.a1 q hq
    have h5 := own_lt h.o1 hq
    exact ⟨h4.1, by omega, h4.2.2⟩
  · have h4 := h.a2 q hq
    have h5 := own_lt h.o2 hq
    exact ⟨h4.1, by omega⟩
/-- One more in the first row. -/
theorem OrdN.app1 {w wr w5 w6 : World} {b g : Nat} {s : Fs} {K : Nat} {v1 v1' : Value} {C : List Pk} {v2 : Value} {D : List Pk} {x : Pk} {o : Obj} (h : OrdN w wr b g s K v1 C v2 D) (hw5 : w5 = wr.alloc o)
    (hown : w6.ownsRow w.heap.size 34 3 v1' (C.length + 1) (pks C ++ pks [x])) (hg : w5.grownBy w6 v1.ownBlock) (hat : v1'.ownBlock = v1.ownBlock ∨ v1'.ownBlock = some w5.heap.size) : OrdN w w6 b g s K v1' (C ++ [x]) v2 D := by
  subst hw5
  have hf5 : Fr0 wr (wr.alloc o) := (Fr.refl _ wr).alloc o
  have hf6 : Fr (fun k => v1.ownBlock = some k) wr w6 := (Fr0.any hf5).grown hg (fun k _ e => e)
  have hlt := h.ln.lt
  refine ⟨h.ln.kept hf6 (fun e => (h.a1 _ e).1 rfl) (fun e => (h.a1 _ e).2.1 rfl), h.hb, h.hg, by rw [← pks_append] at hown; show World.ownsRow _ _ _ _ _ _ _; rw [List.length_append]; exact hown, own_kept h.o2 hf6 (fun q hq e => (h.a1 q e).2.2 hq), h.fr.then hf6 (fun i hi e => by have := (own_blk h.o1 e).1; omega), fun q hq => ?_, h.a2⟩
  rcases hat with e | e
  · exact h.a1 q (by rw [← e]; exact hq)
  · have : q = wr.heap.size + 1 := by rw [e] at hq; simpa using hq.symm
    subst this
    exact ⟨by omega, by omega, fun e => by have := own_lt h.o2 e; omega⟩
/-- One more, or some more, in the second row. -/
theorem OrdN.app2 {w wr w5 w6 : World} {b g : Nat} {s : Fs} {K : Nat} {v1 v2' : Value} {C : List Pk} {v2 : Value} {D : List Pk} {L : List Pk} (h : OrdN w wr b g s K v1 C v2 D) (hw5 : Fr0 wr w5)
    (hown : w6.ownsRow w.heap.size 34 3 v2' (D.length + L.length) (pks D ++ pks L)) (hg : w5.grownBy w6 v2.ownBlock) (hat : v2'.ownBlock = v2.ownBlock ∨ v2'.ownBlock = some w5.heap.size) : OrdN w w6 b g s K v1 C v2' (D ++ L) := by
  have hf6 : Fr (fun k => v2.ownBlock = some k) wr w6 := (Fr0.any hw5).grown hg (fun k _ e => e)
  have hlt := h.ln.lt
  have hs5 := hw5.size
  refine ⟨h.ln.kept hf6 (fun e => (h.a2 _ e).1 rfl) (fun e => (h.a2 _ e).2 rfl), h.hb, h.hg, own_kept h.o1 hf6 (fun q hq e => (h.a1 q hq).2.2 e), by rw [← pks_append] at hown; show World.ownsRow _ _ _ _ _ _ _; rw [List.length_append]; exact hown, h.fr.then hf6 (fun i hi e => by have := (own_blk h.o2 e).1; omega), fun q hq => ?_, fun q hq => ?_⟩
  · have h1 := h.a1 q hq
    refine ⟨h1.1, h1.2.1, fun e2 => ?_⟩
    rcases hat with e | e
    · exact h1.2.2 (by rw [← e]; exact e2)
    · have h2 := own_lt h.o1 hq
      rw [e] at e2
      have : w5.heap.size = q := by simpa using e2
      omega
  · rcases hat with e | e
    · exact h.a2 q (by rw [← e]; exact hq)
    · rw [e] at hq
      have : w5.heap.size = q := by simpa using hq
      omega
theorem OrdN.kept0 {w wr w' : World} {b g : Nat} {s : Fs} {K : Nat} {v1 : Value} {C : List Pk} {v2 : Value} {D : List Pk} (h : OrdN w wr b g s K v1 C v2 D) (hf : Fr0 wr w') : OrdN w w' b g s K v1 C v2 D :=
  ⟨h.ln.kept0 hf, h.hb, h.hg, own_kept0 h.o1 hf, own_kept0 h.o2 hf, h.fr.trans hf, h.a1, h.a2⟩
theorem lnat_bytes {W : World} {b g : Nat} {s : Fs} {K : Nat} (h : LnAt W b g s K) (hs : Small s.l) : Calls Try.prog 13 #[.pointer (some ⟨b, 0, none⟩)] W fun e W' => e = .returned (.int .i64 (bytesOf s.l)) ∧ Fr0 W W' := by
  obtain ⟨X, h1, rfl, _⟩ := h
  exact fbytes_calls b g X W h1 hs
theorem lnat_list {W : World} {b g : Nat} {s : Fs} {K : Nat} (h : LnAt W b g s K) : Calls Try.prog 15 #[.pointer (some ⟨b, 0, none⟩)] W fun e W' => (∃ u, e = .returned u ∧ pkRow W' W.heap.size u s.l ∧ (s.l = [] → u = .slice none 0 0)) ∧ Fr0 W W' := by
  obtain ⟨X, h1, rfl, _⟩ := h
  exact flist_calls b g X W h1
set_option maxRecDepth 100000 in
set_option maxHeartbeats 4000000 in
theorem forders_walk (room : Int) (A : Option Addr) (c : Nat) (l : List Pk) (n : Int) (w : World) (hR : Rd (fun _ => False) w A (pks l)) (hl : l.length ≤ 140737488351232) (hn : -9223372036854775808 ≤ n ∧ n ≤ 9223372036854775807) :
    Calls Try.prog 4 #[.int .i64 room, .slice A l.length c, .int .i64 n] w (Yes w) := by
  have HR := Lib.hid hR
  clear hR
  have HKN := Lib.hid known15_calls
  by_cases h60 : 60 < l.length
  · go_enter Try.func4, Try.ntmps4
    go_wp2_with (go_at_call 8; refine (HKN.out _).mono ?_; rintro e w6 ⟨rfl, hf6⟩)
    all_goals
      go_ret
      exact ⟨rfl, hf6⟩
  by_cases hn1 : n < 1
  · have h60' : ¬ 60 < (l.length : Int) := by omega
    go_enter Try.func4, Try.ntmps4
    go_wp2_with (go_at_call 8; refine (HKN.out _).mono ?_; rintro e w6 ⟨rfl, hf6⟩)
    go_ret
    exact ⟨rfl, hf6⟩
  by_cases hr : 0 ≤ room ∧ room ≤ 1000000000
  · have HN := Lib.hid (lw_new room w w (Fr.refl _ _) hr)
    have HRO := Lib.hid hr
    obtain ⟨hr1, hr2⟩ := hr
    go_enter Try.func4, Try.ntmps4
    go_wp2_with fail
    refine HN.out.mono ?_
    rintro e w2 ⟨b, rfl, ⟨g0, hln, hg0⟩, hb, hf2, hok⟩
    have HOR := Lib.hid (show Ord w w2 b g0 ⟨[], 0, 0, room⟩ 0 (.slice none 0 0) [] (.slice none 0 0) [] from ⟨hln, hok, hb, hg0, own_nil _ _ _ _, own_nil _ _ _ _, hf2, fun q hq => by simp [Value.ownBlock] at hq, fun q hq => by simp [Value.ownBlock] at hq, rfl, hr1⟩)
    clear hln hg0 hb hf2 hok HN
    go_wp2_with fail
    go_loopw [9, 10, 11] (fun v1 v2 i wr => ∃ (k : Nat) (s : Fs) (g : Nat) (C D : List Pk), k ≤ l.length ∧ i = .int .i64 (k : Int) ∧ C.length ≤ k ∧ Hid (s.room = room) ∧ Hid (Ord w wr b g s k v1 C v2 D)) (fun _ _ i _ => l.length - (intOf i).toNat)
    case atStart => exact ⟨0, ⟨[], 0, 0, room⟩, g0, [], [], by omega, rfl, by simp, rfl, HOR.out⟩
    case round =>
      obtain ⟨k, s, g, C, D, hk, rfl, hCk, HRM, HO⟩ := hrel
      obtain ⟨A1, c1, rfl, hlc1, hcm1⟩ := own_form HO.out.o1
      obtain ⟨A2, c2, rfl, hlc2, hcm2⟩ := own_form HO.out.o2
      by_cases hlt : k < l.length
      · have HFW := Lib.hid HO.out.fr
        have hrd := HR.out.kept HFW.out
        obtain ⟨p, off, rfl⟩ := hrd.some_ (by rw [pks_length]; omega)
        obtain ⟨d0, d1, d2⟩ := rd_pk hrd k hlt
        have hi1 : (0 : Int) ≤ (k : Int) := by omega
        have hi2 : (k : Int) < (l.length : Int) := by omega
        have hn2 : 1 ≤ n := by omega
        have HK := Lib.hid (fun U (h : Fr0 w U) => rd_pk (HR.out.kept h) k hlt)
        have HP := Lib.hid (fput_any b g s k l[k] wr HO.out.ln HO.out.ok (by omega))
        have hpc := put_cases s l[k]
        have HPR := Lib.hid (put_room s l[k])
        have HOK3 := Lib.hid (HO.out.ok.put l[k])
        generalize l[k] = x at *
        generalize s.put x = r at *
        obtain ⟨s3, no⟩ := r
        dsimp only at hpc HPR HOK3
        clear hrd
        rcases hpc with ⟨rfl, hel, heb⟩ | ⟨hno, hel⟩
        case' inl =>
          have HEL := Lib.hid hel
          have HEB := Lib.hid (show bytesOf s3.l ≤ s3.room from by rw [HPR.out]; exact heb)
          clear hel heb
          go_wp2_with fail
          refine HP.out.mono ?_
          rintro e w3 ⟨rfl, hnx⟩
          obtain ⟨g3, hN⟩ := HO.out.next hnx
          have HN3 := Lib.hid hN
          clear hnx hN d0 d1 d2
          obtain ⟨d0, d1, d2⟩ := HK.out _ HN3.out.fr
          go_wp2_with (at_builtin; refine wpList_app rfl (.tmp 43) (.tmp 48) _ rfl Try.underlying28 pk_elem (base := w.heap.size) (.slice A1 C.length c1) C.length (pks C) rfl (own_kept0 HN3.out.o1 ((Fr.refl _ w3).alloc _)) (fun _ => False) _ 1 1 (pks [x]) rfl (rd_pk1 _ w3 x _ (fun h => h)) rfl (pks_one _) (by simp only [maxLen]; omega) (by omega) (by have := HN3.out.fr.size; simp; omega) (by simp) ?_; intro v4 w4 hown hg4 hat4; obtain ⟨A4, c4, rfl, hlc4, hcm4⟩ := own_form hown; have HN4 := Lib.hid (HN3.out.app1 rfl hown hg4 hat4); clear hown hg4 hat4)
          have HO4 := Lib.hid (show Ord w w4 b g3 s3 (k + 1) (.slice A4 (C.length + 1) c4) (C ++ [x]) (.slice A2 D.length c2) D from ⟨HN4.out.ln, HOK3.out, HN4.out.hb, HN4.out.hg, HN4.out.o1, HN4.out.o2, HN4.out.fr, HN4.out.a1, HN4.out.a2, by rw [HO.out.len, HEL.out, List.append_assoc], HEB.out⟩)
          have HOX := Lib.hid (show ∃ C4, Ord w w4 b g3 s3 (k + 1) (.slice A4 (C.length + 1) c4) C4 (.slice A2 D.length c2) D ∧ C4.length ≤ k + 1 from ⟨_, HO4.out, by simp; omega⟩)
          clear HO4 HN4 HN3 HEL HEB HP d0 d1 d2 hlc4 hcm4
          generalize C.length + 1 = nn at *
        case' inr =>
          have HEL := Lib.hid hel
          have hnn : (no == 0) = false := by rcases hno with rfl | rfl <;> rfl
          clear hel hno
          go_wp2_with fail
          refine HP.out.mono ?_
          rintro e w4 ⟨rfl, hnx⟩
          obtain ⟨g3, hN⟩ := HO.out.next hnx
          have HOX := Lib.hid (show ∃ C4, Ord w w4 b g3 s3 (k + 1) (.slice A1 C.length c1) C4 (.slice A2 D.length c2) D ∧ C4.length ≤ k + 1 from ⟨C, ⟨hN.ln, HOK3.out, hN.hb, hN.hg, hN.o1, hN.o2, hN.fr, hN.a1, hN.a2, by rw [HO.out.len, HEL.out], by rw [HEL.out, HPR.out]; exact HO.out.bytes⟩, by omega⟩)
          clear hnx hN d0 d1 d2 HEL HP
          go_wp2_with fail
          generalize C.length = nn at *
          generalize A1 = A4 at *
          generalize c1 = c4 at *
        all_goals
          obtain ⟨C4, hO4, hck4⟩ := HOX.out
          have hrm : s3.room = room := by rw [HPR.out, HRM.out]
          have hbb : bytesOf s3.l ≤ room := by rw [← hrm]; exact hO4.bytes
          have HO4 := Lib.hid hO4
          have HRM3 := Lib.hid hrm
          clear hO4 hrm HOX HO
          refine (lnat_bytes HO4.out.ln HO4.out.ok.small).mono ?_
          rintro e w5 ⟨rfl, hf5⟩
          have HO5 := Lib.hid (HO4.out.kept0 hf5)
          clear hf5 HO4
          by_cases hm : (k : Int) % n = 0
          · have HTK := Lib.hid (ftake_any b g3 s3 (k + 1) w5 HO5.out.ln)
            have HOKT := Lib.hid HO5.out.ok.take
            obtain ⟨ll, lp, lb, rm⟩ := s3
            cases ll with
            | nil =>
              have HTK2 := Lib.hid (show Calls Try.prog 14 #[.pointer (some ⟨b, 0, none⟩)] w5 fun e w' => e = .returned (.tuple #[pkv pk0, .bool false]) ∧ LnNext w5 w' b g3 ⟨[], lp, lb, rm⟩ (k + 1) from HTK.out)
              clear HTK
              go_wp2_with fail
              refine HTK2.out.mono ?_
              rintro e w6 ⟨rfl, hnx⟩
              obtain ⟨g6, hN⟩ := HO5.out.next hnx
              have HO6 := Lib.hid (show Ord w (w6.alloc (.cells (pkc pk0).toArray 34)) b g6 ⟨[], lp, lb, rm⟩ (k + 1) (.slice A4 nn c4) C4 (.slice A2 D.length c2) D from
                Ord.kept0 ⟨hN.ln, HO5.out.ok, hN.hb, hN.hg, hN.o1, hN.o2, hN.fr, hN.a1, hN.a2, HO5.out.len, HO5.out.bytes⟩ ((Fr.refl _ w6).alloc _))
              clear hnx hN
              go_wp2_with fail
              go_roundw
              case rel => exact ⟨k + 1, ⟨[], lp, lb, rm⟩, g6, C4, D, by omega, by go_num, hck4, HRM3.out, HO6.out⟩
              case measure => simp [intOf]; omega
            | cons y ll =>
              have HTK2 := Lib.hid (show Calls Try.prog 14 #[.pointer (some ⟨b, 0, none⟩)] w5 fun e w' => e = .returned (.tuple #[pkv y, .bool true]) ∧ LnNext w5 w' b g3 ⟨ll, lp, lb, rm⟩ (k + 1) from HTK.out)
              have HOKT2 := Lib.hid (show Fs.Ok ⟨ll, lp, lb, rm⟩ (k + 1) from HOKT.out)
              clear HTK HOKT
              have hdl : D.length ≤ k + 1 := by have h1 := HO5.out.len; have h2 := congrArg List.length h1; rw [List.length_append] at h2; omega
              go_wp2_with fail
              refine HTK2.out.mono ?_
              rintro e w6 ⟨rfl, hnx⟩
              obtain ⟨g6, hN⟩ := HO5.out.next hnx
              have HN6 := Lib.hid (hN.kept0 ((Fr.refl _ w6).alloc (.cells (pkc y).toArray 34)))
              obtain ⟨⟨y0, y1, y2⟩, _⟩ := pk_cells (heap_alloc_new w6 (.cells (pkc y).toArray 34))
              clear hnx hN
              have HSY := Lib.hid (HO5.out.ok.small y (by simp))
              have HBY := Lib.hid (show bytesOf ll ≤ rm from by have h1 := HO5.out.bytes; have h2 : bytesOf (y :: ll) = y.size + bytesOf ll := by simp [bytesOf]
                                                                have h3 : bytesOf (y :: ll) ≤ rm := h1
                                                                have h4 := HSY.out
                                                                omega)
              have HRY := Lib.hid (show Rd (fun _ => False) ((w6.alloc (.cells (pkc y).toArray 34)).alloc (.cells (pkc y).toArray 34)) (some ⟨w6.heap.size + 1, 0, none⟩) (pks [y]) from by (have h1 := rd_pk1 (fun _ => False) (w6.alloc (.cells (pkc y).toArray 34)) y 34 (fun h => h); rw [World.size_alloc] at h1; exact h1))
              go_wp2_with (at_builtin; refine wpList_app rfl (.tmp 64) (.tmp 66) _ rfl Try.underlying28 pk_elem (base := w.heap.size) (.slice A2 D.length c2) D.length (pks D) rfl (own_kept0 HN6.out.o2 ((Fr.refl _ (w6.alloc (.cells (pkc y).toArray 34))).alloc _)) (fun _ => False) _ 1 1 (pks [y]) rfl HRY.out rfl (pks_one _) (by simp only [maxLen]; omega) (by omega) (by have h1 := HN6.out.fr.size; simp at h1 ⊢; omega) (by simp) ?_; intro v7 w7 hown hg7 hat7; obtain ⟨A7, c7, rfl, hlc7, hcm7⟩ := own_form hown; have HN7 := Lib.hid (HN6.out.app2 (L := [y]) ((Fr.refl _ _).alloc _) hown hg7 hat7); clear hown hg7 hat7)
              have HO7 := Lib.hid (show Ord w w7 b g6 ⟨ll, lp, lb, rm⟩ (k + 1) (.slice A4 nn c4) C4 (.slice A7 (D.length + 1) c7) (D ++ [y]) from
                ⟨HN7.out.ln, HOKT2.out, HN7.out.hb, HN7.out.hg, HN7.out.o1, HN7.out.o2, HN7.out.fr, HN7.out.a1, HN7.out.a2, by rw [HO5.out.len]; simp, HBY.out⟩)
              go_wp2_with fail
              go_roundw
              case rel => exact ⟨k + 1, ⟨ll, lp, lb, rm⟩, g6, C4, D ++ [y], by omega, by go_num, hck4, HRM3.out, HO7.out⟩
              case measure => simp [intOf]; omega
          · have hmq : (((k : Int) % n) == 0) = false := by simpa using hm
            clear hm
            go_wp2_with fail
            go_roundw
            case rel => exact ⟨k + 1, s3, g3, C4, D, by omega, by go_num, hck4, HRM3.out, HO5.out⟩
            case measure => simp [intOf]; omega
      · have hkm : k = l.length := by omega
        subst hkm
        have HLI := Lib.hid (lnat_list HO.out.ln)
        have hll : D.length + s.l.length = C.length := by rw [HO.out.len, List.length_append]
        have HLL := Lib.hid hll
        have HLE := Lib.hid HO.out.len
        clear hll
        go_wp2_with fail
        refine HLI.out.mono ?_
        rintro e w3 ⟨⟨u, rfl, hu, hue⟩, hf3⟩
        obtain ⟨A5, c5, rfl, hlc5, hcm5⟩ := own_form hu
        have HO3 := Lib.hid (HO.out.kept0 hf3)
        have HRU := Lib.hid (own_rd (fun _ => False) hu (fun _ _ _ h => h))
        have HAN := Lib.hid (show A5 = none → s.l.length = 0 from fun e => by
          subst e
          rcases Nat.eq_zero_or_pos s.l.length with h | h
          · exact h
          · obtain ⟨g, cap, e, _⟩ := hu.form h
            cases e)
        clear hu hue hf3
        go_wp2_with (at_builtin; refine wpList_app rfl (.tmp 68) (.tmp 70) _ rfl Try.underlying28 pk_elem (base := w.heap.size) (.slice A2 D.length c2) D.length (pks D) rfl HO3.out.o2 (fun _ => False) A5 s.l.length c5 (pks s.l) rfl HRU.out (pks_length _) (pks_one _) (by have h1 := HLL.out; simp only [maxLen]; omega) (by have h1 := HLL.out; omega) HO3.out.fr.size HAN.out ?_; intro v7 w7 hown hg7 hat7; obtain ⟨A7, c7, rfl, hlc7, hcm7⟩ := own_form hown; have HN7 := Lib.hid (OrdN.app2 (w5 := w3) (w6 := w7) (v2' := .slice A7 (D.length + s.l.length) c7) (L := s.l) ⟨HO3.out.ln, HO3.out.hb, HO3.out.hg, HO3.out.o1, HO3.out.o2, HO3.out.fr, HO3.out.a1, HO3.out.a2⟩ (Fr.refl _ _) hown hg7 hat7); clear hown hg7 hat7)
        have hsm := fsamepk_calls A1 A7 c1 c7 C (D ++ s.l) w7 (own_rd _ HN7.out.o1 (fun _ _ _ h => h)) (own_rd _ HN7.out.o2 (fun _ _ _ h => h)) (by omega) (by rw [← HLE.out]; omega)
        rw [decide_eq_true HLE.out, List.length_append] at hsm
        refine hsm.mono ?_
        rintro e w8 ⟨rfl, hf8⟩
        have HF8 := Lib.hid (HN7.out.fr.trans hf8)
        clear hf8 hsm
        go_wp2_with (go_at_call 8; refine (HKN.out _).mono ?_; rintro e w6 ⟨rfl, hf6⟩)
        go_ret
        exact ⟨rfl, HF8.out.trans hf6⟩
  · have HN := Lib.hid (fnew_no room w hr)
    go_enter Try.func4, Try.ntmps4
    go_wp2_with (first
      | (go_at_call 9; refine HN.out.mono ?_; rintro e w2 ⟨rfl, hf2⟩)
      | (go_at_call 8; refine (HKN.out _).mono ?_; rintro e w6 ⟨rfl, hf6⟩))
    go_ret
    exact ⟨rfl, hf2.trans hf6⟩
end Go.Proofs.Ytfiiikgjgcnjgaa
