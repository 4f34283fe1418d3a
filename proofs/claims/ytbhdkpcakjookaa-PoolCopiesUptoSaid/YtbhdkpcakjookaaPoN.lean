/- Chapter 24: a pool through calls: what is told of it; known. -/
import Derived.Test.YtbhdkpcakjookaaPoH
set_option linter.unusedVariables false
set_option linter.unusedSimpArgs false
namespace Go.Proofs.Ytbhdkpcakjookaa
open Go.RowKit
attribute [local go_sem] Oper.semAt_some

theorem Fr0.of_new {w0 w w' : World} {b : Nat} (h : Fr0 w0 w) (hb : w0.heap.size ≤ b) (hf : Fr (fun k => k = b) w w') : Fr0 w0 w' := h.then hf (fun i hi e => by omega)
/-- Whatever bytes lie, lie. -/
def KB (w w' : World) : Prop := ∀ A bs, BArg w A bs → BArg w' A bs
theorem KB.refl (w : World) : KB w w := fun _ _ h => h
theorem KB.trans {a b c : World} (h : KB a b) (k : KB b c) : KB a c := fun A bs x => k A bs (h A bs x)
theorem KB.of_fr {w w' : World} (h : Fr0 w w') : KB w w' := fun _ _ x => x.kept h
/-- A pool in a block that is new to w0: what it holds. -/
def Pw (w0 w : World) (b : Nat) (most last : Int) (ms : List Msg) : Prop := ∃ L, IsPool w b most last L ∧ msgs L = ms ∧ w0.heap.size ≤ b ∧ Fr0 w0 w
theorem Pw.fr {w0 w : World} {b : Nat} {most last : Int} {ms : List Msg} (h : Pw w0 w b most last ms) : Fr0 w0 w := by obtain ⟨_, _, _, _, h⟩ := h; exact h
theorem Pw.kept {w0 w w' : World} {b : Nat} {most last : Int} {ms : List Msg} (h : Pw w0 w b most last ms) (hf : Fr0 w w') : Pw w0 w' b most last ms := by
  obtain ⟨L, h1, h2, h3, h4⟩ := h
  exact ⟨L, h1.kept hf, h2, h3, h4.trans hf⟩
theorem KB.of_pool {w w' : World} {b : Nat} {most last : Int} {L : List Rm} (h : IsPool w b most last L) (hf : Fr (fun k => k = b) w w') : KB w w' := fun A bs x => by
  obtain ⟨A0, c0, hb, _⟩ := h.ex
  exact x.keptB hb hf
theorem Pw.kb {w0 w w' : World} {b : Nat} {most last : Int} {ms : List Msg} (h : Pw w0 w b most last ms) (hf : Fr (fun k => k = b) w w') : KB w w' := by
  obtain ⟨L, h1, _, _, _⟩ := h
  exact .of_pool h1 hf
theorem Pw.lt {w0 w : World} {b : Nat} {most last : Int} {ms : List Msg} (h : Pw w0 w b most last ms) : b < w.heap.size := by
  obtain ⟨L, h1, _, _, _⟩ := h
  obtain ⟨A0, c0, hb, _⟩ := h1.ex
  exact lt_of_block hb
theorem pw_new (most : Int) (w0 w : World) (hf : Fr0 w0 w) (h : 1 ≤ most ∧ most ≤ 4096) : Calls Try.prog 10 #[.int .i64 most] w fun e w' => ∃ b, e = .returned (.tuple #[.pointer (some ⟨b, 0, none⟩), .int .i64 0]) ∧ Pw w0 w' b most 0 [] ∧ Fr0 w w' :=
  (pnew_calls most w h).mono fun e w' ⟨⟨b, he, hb, hp⟩, hf'⟩ => ⟨b, he, ⟨[], hp, rfl, Nat.le_trans hf.size hb, hf.trans hf'⟩, hf'⟩
theorem pw_put {w0 w : World} {b : Nat} {most last : Int} {ms : List Msg} (hp : Pw w0 w b most last ms) (link now : Int) (A : Option Addr) (c : Nat) (bs : List UInt8) (ha : 0 ≤ link ∧ link ≤ 47 ∧ 0 ≤ now ∧ now ≤ 2147483647) (hbs : BArg w A bs) (hn : bs.length ≤ 4096) (hc : ms.length < most) (hla : 0 ≤ last ∧ last ≤ 1000000000) :
    Calls Try.prog 11 #[.pointer (some ⟨b, 0, none⟩), .int .i64 link, .int .i64 now, .slice A bs.length c] w fun e w' => e = .returned (.tuple #[.int .i64 (last + 1), .int .i64 0]) ∧ Pw w0 w' b most (last + 1) (ms ++ [⟨last + 1, link, now, bs⟩]) ∧ Fr (fun k => k = b) w w' := by
  obtain ⟨L, h1, rfl, h3, h4⟩ := hp
  refine (put_ok b most last L link now A c bs w h1 ha hbs hn (by simpa using hc) hla).mono ?_
  rintro e w' ⟨⟨L', he, h5, h6⟩, hf⟩
  exact ⟨he, ⟨L', h5, h6, h3, h4.of_new h3 hf⟩, hf⟩
theorem pw_crowd {w0 w : World} {b : Nat} {most last : Int} {ms : List Msg} (hp : Pw w0 w b most last ms) (link now : Int) (A : Option Addr) (n c : Nat) (ha : 0 ≤ link ∧ link ≤ 47 ∧ 0 ≤ now ∧ now ≤ 2147483647) (hn : n ≤ 4096) (hc : most ≤ ms.length) :
    Calls Try.prog 11 #[.pointer (some ⟨b, 0, none⟩), .int .i64 link, .int .i64 now, .slice A n c] w fun e w' => e = .returned (.tuple #[.int .i64 0, .int .i64 300]) ∧ Pw w0 w' b most last ms ∧ Fr0 w w' := by
  obtain ⟨L, h1, rfl, h3, h4⟩ := hp
  refine (put_crowd b most last L link now A n c w h1 ha hn (by simpa using hc)).mono ?_
  rintro e w' ⟨he, hf⟩
  exact ⟨he, ⟨L, h1.kept hf, rfl, h3, h4.trans hf⟩, hf⟩
/-- A message that was told: in memory of its own. -/
def Told (w0 : World) (b : Nat) (most last : Int) (ms : List Msg) (m : Msg) (err : Int) (w : World) (e : Ending) (w' : World) : Prop :=
  (∃ A c, e = .returned (.tuple #[rmv ⟨m, A, c⟩, .int .i64 err]) ∧ BArg w' A m.bytes ∧ w'.ownsRow w.heap.size 5 1 (.slice A m.bytes.length c) m.bytes.length (u8s m.bytes)) ∧ Pw w0 w' b most last ms ∧ Fr (fun k => k = b) w w'
theorem told_of {w0 w : World} {b : Nat} {most last : Int} {L : List Rm} {ms : List Msg} {m : Msg} {err : Int} (h1 : IsPool w b most last L) (h3 : w0.heap.size ≤ b) (h4 : Fr0 w0 w) (hm : m.bytes.length ≤ 1000000) {e : Ending} {w' : World} (h : TakePost b most last ms m err w e w') : Told w0 b most last ms m err w e w' := by
  obtain ⟨⟨A, c, he, ho⟩, ⟨L', h5, h6⟩, hf⟩ := h
  exact ⟨⟨A, c, he, .own ho hm, ho⟩, ⟨L', h5, h6, h3, h4.of_new h3 hf⟩, hf⟩
theorem isls_len {w : World} {A : Option Addr} {c : Nat} {L : List Rm} (h : IsLs w A c L) : ∀ r ∈ L, r.m.bytes.length ≤ 1000000 := fun r hr => (h.ok r hr).len
theorem pw_peek {w0 w : World} {b : Nat} {most last : Int} {ms : List Msg} (hp : Pw w0 w b most last ms) (p : Int) (n : Nat) (m : Msg) (hl : 0 < ms.length) (hpb : -9223372036854775808 ≤ p ∧ p ≤ 9223372036854775807) (hn : rnd p ms.length = n) (hm : ms[n]? = some m) :
    Calls Try.prog 14 #[.pointer (some ⟨b, 0, none⟩), .int .i64 p] w (Told w0 b most last ms m 0 w) := by
  obtain ⟨L, h1, rfl, h3, h4⟩ := hp
  subst hn
  have hl' : 0 < L.length := by simpa using hl
  obtain ⟨A0, c0, hb, hls⟩ := h1.ex
  have hlt := rnd_lt p _ hl'
  obtain rfl : (L[rnd p L.length]'hlt).m = m := by
    simp only [msgs, List.length_map, List.getElem?_map, List.getElem?_eq_getElem hlt, Option.map_some, Option.some.injEq] at hm
    exact hm
  exact (peek_ok b most last L p w h1 hl' hpb).mono fun e w' h => told_of h1 h3 h4 (isls_len hls _ (List.getElem_mem hlt)) h
theorem pw_take {w0 w : World} {b : Nat} {most last : Int} {ms : List Msg} (hp : Pw w0 w b most last ms) (p : Int) (n : Nat) (m : Msg) (hl : 0 < ms.length) (hpb : -9223372036854775808 ≤ p ∧ p ≤ 9223372036854775807) (hn : rnd p ms.length = n) (hm : ms[n]? = some m) (ms' : List Msg) (hms : ms.take n ++ ms.drop (n + 1) = ms') :
    Calls Try.prog 13 #[.pointer (some ⟨b, 0, none⟩), .int .i64 p] w (Told w0 b most last ms' m 0 w) := by
  subst hms
  obtain ⟨L, h1, rfl, h3, h4⟩ := hp
  subst hn
  have hl' : 0 < L.length := by simpa using hl
  obtain ⟨A0, c0, hb, hls⟩ := h1.ex
  have hlt := rnd_lt p _ hl'
  obtain rfl : (L[rnd p L.length]'hlt).m = m := by
    simp only [msgs, List.length_map, List.getElem?_map, List.getElem?_eq_getElem hlt, Option.map_some, Option.some.injEq] at hm
    exact hm
  have := ptake_ok b most last L p w h1 hl' hpb
  rw [show (msgs L).length = L.length by simp]
  exact this.mono fun e w' h => told_of h1 h3 h4 (isls_len hls _ (List.getElem_mem hlt)) h
theorem pw_bend {w0 w : World} {b : Nat} {most last : Int} {ms : List Msg} (hp : Pw w0 w b most last ms) (p q : Int) (n : Nat) (m : Msg) (hl : 0 < ms.length) (hpb : -9223372036854775808 ≤ p ∧ p ≤ 9223372036854775807) (hqb : -9223372036854775808 ≤ q ∧ q ≤ 9223372036854775807) (hs : ∀ m ∈ ms, m.bytes.length ≤ 4096) (hn : rnd p ms.length = n) (hm : ms[n]? = some m) (m' : Msg) (hm' : m.bend q = m') (ms' : List Msg) (hms : ms.set n m' = ms') :
    Calls Try.prog 12 #[.pointer (some ⟨b, 0, none⟩), .int .i64 p, .int .i64 q] w (Told w0 b most last ms' m' 0 w) := by
  subst hm' hms
  obtain ⟨L, h1, rfl, h3, h4⟩ := hp
  subst hn
  have hl' : 0 < L.length := by simpa using hl
  obtain ⟨A0, c0, hb, hls⟩ := h1.ex
  have hlt := rnd_lt p _ hl'
  obtain rfl : (L[rnd p L.length]'hlt).m = m := by
    simp only [msgs, List.length_map, List.getElem?_map, List.getElem?_eq_getElem hlt, Option.map_some, Option.some.injEq] at hm
    exact hm
  have := bend_ok b most last L p q w h1 hl' hpb hqb (fun r hr => hs _ (List.mem_map_of_mem hr))
  rw [show (msgs L).length = L.length by simp]
  exact this.mono fun e w' h => told_of h1 h3 h4 (by show (bendB _ _).length ≤ _; rw [bendB_length]; exact isls_len hls _ (List.getElem_mem hlt)) h
theorem pw_len {w0 w : World} {b : Nat} {most last : Int} {ms : List Msg} (hp : Pw w0 w b most last ms) : Calls Try.prog 17 #[.pointer (some ⟨b, 0, none⟩)] w fun e w' => e = .returned (.int .i64 ms.length) ∧ w = w' := by
  obtain ⟨L, h1, rfl, h3, h4⟩ := hp
  have := plen_calls b most last L w h1
  simpa using this
theorem barg_new (w : World) (bs : List UInt8) (t : TypeId) (hb : bs.length ≤ 1000000) : BArg (w.alloc (.cells (u8s bs).toArray t)) (some ⟨w.heap.size, 0, none⟩) bs :=
  .of_rd (.inr ⟨w.heap.size, 0, rfl, fun h => h, fun i hi => by rw [cell_of_blk (heap_alloc_new _ _)]; simp [hi]⟩) hb
theorem barg_nil (w : World) : BArg w none [] := .of_rd (.inl rfl) (by simp)
set_option maxHeartbeats 2000000 in
theorem known24_calls (w : World) : Calls Try.prog 9 #[] w fun e w' => e = .returned (.bool true) ∧ Fr0 w w' := by
  go_enter Try.func9, Try.ntmps9
  go_wp2_with fail
  refine (pw_new 2 w w (Fr.refl _ _) (by decide)).mono ?_
  rintro e W1 ⟨b, rfl, h1, _⟩
  have H1 := Lib.hid h1
  clear h1
  go_wp2_with fail
  have HB1 := Lib.hid (barg_new W1 [128] 5 (by decide))
  refine (pw_put (H1.out.kept ((Fr.refl _ W1).alloc _)) 3 0 (some ⟨W1.heap.size, 0, none⟩) 1 [128] (by decide) HB1.out (by decide) (by decide) (by decide)).mono ?_
  rintro e W2 ⟨rfl, h2, _⟩
  have H2 := Lib.hid h2
  clear h2
  go_wp2_with fail
  refine (pw_put H2.out 4 1 none 0 [] (by decide) (barg_nil W2) (by decide) (by decide) (by decide)).mono ?_
  rintro e W3 ⟨rfl, h3, _⟩
  have H3 := Lib.hid h3
  clear h3
  go_wp2_with fail
  refine (pw_crowd (H3.out.kept ((Fr.refl _ W3).alloc _)) 3 2 (some ⟨W3.heap.size, 0, none⟩) 1 1 (by decide) (by decide) (by decide)).mono ?_
  rintro e W4 ⟨rfl, h4, _⟩
  have H4 := Lib.hid h4
  clear h4
  go_wp2_with fail
  refine (pw_bend H4.out 0 0 0 ⟨1, 3, 0, [128]⟩ (by decide) (by decide) (by decide) (by decide) (by decide) rfl ⟨1, 3, 0, [0]⟩ (by decide) [⟨1, 3, 0, [0]⟩, ⟨2, 4, 1, []⟩] rfl).mono ?_
  rintro e W5 ⟨⟨A5, c5, rfl, hb5, _⟩, h5, _⟩
  obtain ⟨g5, o5, rfl⟩ := hb5.rd.some_ (by decide)
  have H5 := Lib.hid (h5.kept ((Fr.refl _ W5).alloc (.cells (rmc ⟨⟨1, 3, 0, [0]⟩, some ⟨g5, o5, none⟩, c5⟩).toArray 31)))
  have HB5 := Lib.hid (hb5.kept ((Fr.refl _ W5).alloc (.cells (rmc ⟨⟨1, 3, 0, [0]⟩, some ⟨g5, o5, none⟩, c5⟩).toArray 31)))
  have HX5 := Lib.hid (heap_alloc_new W5 (.cells (rmc ⟨⟨1, 3, 0, [0]⟩, some ⟨g5, o5, none⟩, c5⟩).toArray 31))
  have HL5 := Lib.hid h5.lt
  clear h5 hb5
  go_wp2_with fail
  refine (pw_take H5.out (-1) 1 ⟨2, 4, 1, []⟩ (by decide) (by decide) (by decide) rfl [⟨1, 3, 0, [0]⟩] rfl).mono ?_
  rintro e W6 ⟨⟨A6, c6, rfl, hb6, _⟩, h6, hf6⟩
  have hf := hf6.then ((Fr.refl (fun _ => False) W6).alloc (.cells (rmc ⟨⟨2, 4, 1, []⟩, A6, c6⟩).toArray 31)) (fun _ _ h => h.elim)
  have hf7 := (Fr.refl (fun _ => False) W6).alloc (.cells (rmc ⟨⟨2, 4, 1, []⟩, A6, c6⟩).toArray 31)
  have HP6 := Lib.hid (h6.kept hf7)
  have hx6 := heap_alloc_new W6 (.cells (rmc ⟨⟨2, 4, 1, []⟩, A6, c6⟩).toArray 31)
  have hb7 : BArg _ (some ⟨g5, o5, none⟩) [0] := (H5.out.kb hf6 _ _ HB5.out).kept hf7
  have e7 : (W6.alloc (.cells (rmc ⟨⟨2, 4, 1, []⟩, A6, c6⟩).toArray 31)).cell? ⟨g5, o5, none⟩ = some (.int .u8 0) := hb7.rd.at_ 0 (by decide)
  obtain ⟨⟨x0, x1, x2, x3⟩, _⟩ := m_cells hx6
  obtain ⟨⟨y0, y1, y2, y3⟩, _⟩ := m_cells (hf.blk HX5.out (fun e => by have := HL5.out; omega))
  clear h6 hf6 hf hf7 hx6 hb6 hb7
  go_upto_region 7 with fail
  generalize W6.alloc (.cells (rmc ⟨⟨2, 4, 1, []⟩, A6, c6⟩).toArray 31) = W7 at *
  have HLEN := Lib.hid (pw_len HP6.out)
  go_wp2_with (go_at_call 17; refine HLEN.out.mono ?_; rintro e w' ⟨rfl, rfl⟩)
  go_ret
  exact ⟨rfl, HP6.out.fr⟩
end Go.Proofs.Ytbhdkpcakjookaa
