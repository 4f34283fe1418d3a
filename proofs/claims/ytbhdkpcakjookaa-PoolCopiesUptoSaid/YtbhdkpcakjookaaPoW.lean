/- Chapter 24: calls of a pool and of the document's, in plain words; the contracts of both. -/
import Derived.Test.YtbhdkpcakjookaaPoV
import Derived.Test.YtbhdkpcakjookaaPoT
set_option linter.unusedVariables false
set_option linter.unusedSimpArgs false
namespace Go.Proofs.Ytbhdkpcakjookaa
open Go.RowKit
attribute [local go_sem] Oper.semAt_some

/-- What Put answers: the last number, the messages, the number, the error. -/
def putF (most last : Int) (ms : List Msg) (link now : Int) (bs : List UInt8) : Int × List Msg × Int × Int :=
  if ¬ (0 ≤ link ∧ link ≤ 47 ∧ 0 ≤ now ∧ now ≤ 2147483647) then (last, ms, 0, 2)
  else if 4096 < bs.length then (last, ms, 0, 3)
  else if most ≤ (ms.length : Int) then (last, ms, 0, 300)
  else (last + 1, ms ++ [⟨last + 1, link, now, bs⟩], last + 1, 0)
/-- What Take answers: the messages, the one, the error. -/
def takeF (ms : List Msg) (p : Int) : List Msg × Msg × Int :=
  match ms[rnd p ms.length]? with
  | some m => (ms.take (rnd p ms.length) ++ ms.drop (rnd p ms.length + 1), m, 0)
  | none => (ms, msg0, 5)
def bendF (ms : List Msg) (p q : Int) : List Msg × Msg × Int :=
  match ms[rnd p ms.length]? with
  | some m => (ms.set (rnd p ms.length) (m.bend q), m.bend q, 0)
  | none => (ms, msg0, 5)
/-- A document's pool, by value. -/
def Rp (w : World) (v : Value) (most last : Int) (ms : List Msg) : Prop := ∃ A c L, v = pov most last A L.length c ∧ IsLs w A c L ∧ msgs L = ms
theorem Rp.kept {w w' : World} {v : Value} {most last : Int} {ms : List Msg} (h : Rp w v most last ms) (hf : Fr0 w w') : Rp w' v most last ms := by
  obtain ⟨A, c, L, h1, h2, h3⟩ := h
  exact ⟨A, c, L, h1, h2.kept hf, h3⟩
theorem Rp.keptB {w w' : World} {v : Value} {most last : Int} {ms : List Msg} (h : Rp w v most last ms) {b : Nat} {m l : Int} {A' : Option Addr} {n c : Nat} {t : TypeId} {fr : Nat × Nat} (hb : w.heap[b]? = some (.cells (poc m l A' n c) t fr)) (hf : Fr (fun k => k = b) w w') : Rp w' v most last ms := by
  obtain ⟨A, c, L, h1, h2, h3⟩ := h
  exact ⟨A, c, L, h1, h2.keptB hb hf, h3⟩
/-- Pools of no great size. -/
structure Lim (K : Nat) (most last : Int) (ms : List Msg) : Prop where
  last : 0 ≤ last ∧ last ≤ K
  k : K ≤ 1000000
  most : 1 ≤ most ∧ most ≤ 4096
  len : ms.length ≤ 4096
  bytes : ∀ m ∈ ms, m.bytes.length ≤ 4096
theorem Lim.put {K : Nat} {most last : Int} {ms : List Msg} (h : Lim K most last ms) (hK : K < 1000000) (link now : Int) (bs : List UInt8) : Lim (K + 1) most (putF most last ms link now bs).1 (putF most last ms link now bs).2.1 := by
  have h1 := h.last; have h2 := h.most
  unfold putF
  split
  · exact ⟨by show 0 ≤ last ∧ last ≤ _; omega, by omega, h.most, h.len, h.bytes⟩
  · split
    · exact ⟨by show 0 ≤ last ∧ last ≤ _; omega, by omega, h.most, h.len, h.bytes⟩
    · split
      · exact ⟨by show 0 ≤ last ∧ last ≤ _; omega, by omega, h.most, h.len, h.bytes⟩
      · refine ⟨by show 0 ≤ last + 1 ∧ last + 1 ≤ _; omega, by omega, h.most, by show (ms ++ [_]).length ≤ _; simp; omega, fun m hm => ?_⟩
        rcases List.mem_append.1 hm with hm | hm
        · exact h.bytes m hm
        · obtain rfl : m = ⟨last + 1, link, now, bs⟩ := by simpa using hm
          show bs.length ≤ 4096; omega
theorem Lim.succ {K : Nat} {most last : Int} {ms : List Msg} (h : Lim K most last ms) (hK : K < 1000000) : Lim (K + 1) most last ms := ⟨by have := h.last; omega, by omega, h.most, h.len, h.bytes⟩
theorem Lim.take {K : Nat} {most last : Int} {ms : List Msg} (h : Lim K most last ms) (p : Int) : Lim K most last (takeF ms p).1 := by
  unfold takeF
  split
  · refine ⟨h.last, h.k, h.most, ?_, fun m hm => ?_⟩
    · have := h.len; simp; omega
    · rcases List.mem_append.1 hm with hm | hm
      · exact h.bytes m (List.mem_of_mem_take hm)
      · exact h.bytes m (List.mem_of_mem_drop hm)
  · exact h
theorem Lim.bend {K : Nat} {most last : Int} {ms : List Msg} (h : Lim K most last ms) (p q : Int) : Lim K most last (bendF ms p q).1 := by
  unfold bendF
  split
  · rename_i m0 hm0
    refine ⟨h.last, h.k, h.most, by simpa using h.len, fun m hm => ?_⟩
    rcases List.mem_or_eq_of_mem_set hm with hm | hm
    · exact h.bytes m hm
    · subst hm
      show (bendB _ _).length ≤ _
      rw [bendB_length]
      exact h.bytes _ (List.mem_of_getElem? hm0)
  · exact h
abbrev tup2 (a b : Int) : Value := .tuple #[.int .i64 a, .int .i64 b]
theorem pw_put_any {w0 w : World} {b : Nat} {K : Nat} {most last : Int} {ms : List Msg} (hp : Pw w0 w b most last ms) (hl : Lim K most last ms) (link now : Int) (A : Option Addr) (c : Nat) (bs : List UInt8) (hbs : BArg w A bs) :
    Calls Try.prog 11 #[.pointer (some ⟨b, 0, none⟩), .int .i64 link, .int .i64 now, .slice A bs.length c] w fun e w' => e = .returned (tup2 (putF most last ms link now bs).2.2.1 (putF most last ms link now bs).2.2.2) ∧ Pw w0 w' b most (putF most last ms link now bs).1 (putF most last ms link now bs).2.1 ∧ Fr (fun k => k = b) w w' := by
  have h1 := hl.last; have h2 := hl.k
  by_cases ha : 0 ≤ link ∧ link ≤ 47 ∧ 0 ≤ now ∧ now ≤ 2147483647
  · by_cases hb : 4096 < bs.length
    · rw [putF, if_neg (fun h => h ha), if_pos hb]
      obtain ⟨L, hL, rfl, h3, h4⟩ := hp
      exact (put_long b most last L link now A bs.length c w hL ha hb).mono fun e w' ⟨he, hf⟩ => ⟨he, ⟨L, hL.kept hf, rfl, h3, h4.trans hf⟩, Fr0.any hf⟩
    · by_cases hc : most ≤ (ms.length : Int)
      · rw [putF, if_neg (fun h => h ha), if_neg hb, if_pos hc]
        exact (pw_crowd hp link now A bs.length c ha (by omega) hc).mono fun e w' ⟨he, h5, hf⟩ => ⟨he, h5, Fr0.any hf⟩
      · rw [putF, if_neg (fun h => h ha), if_neg hb, if_neg hc]
        exact pw_put hp link now A c bs ha hbs (by omega) (by omega) (by omega)
  · rw [putF, if_pos ha]
    obtain ⟨L, hL, rfl, h3, h4⟩ := hp
    exact (put_arg b most last L link now A bs.length c w hL ha).mono fun e w' ⟨he, hf⟩ => ⟨he, ⟨L, hL.kept hf, rfl, h3, h4.trans hf⟩, Fr0.any hf⟩
theorem rput_any {w : World} {v : Value} {K : Nat} {most last : Int} {ms : List Msg} (hp : Rp w v most last ms) (hl : Lim K most last ms) (link now : Int) (A : Option Addr) (c : Nat) (bs : List UInt8) (hbs : BArg w A bs) :
    Calls Try.prog 33 #[v, .int .i64 link, .int .i64 now, .slice A bs.length c] w fun e w' => (∃ v', e = .returned (.tuple #[v', .int .i64 (putF most last ms link now bs).2.2.1, .int .i64 (putF most last ms link now bs).2.2.2]) ∧ Rp w' v' most (putF most last ms link now bs).1 (putF most last ms link now bs).2.1) ∧ Fr0 w w' := by
  have h1 := hl.last; have h2 := hl.k; have h5 := hl.most
  obtain ⟨A0, c0, L, rfl, hL, rfl⟩ := hp
  by_cases ha : 0 ≤ link ∧ link ≤ 47 ∧ 0 ≤ now ∧ now ≤ 2147483647
  · by_cases hb : 4096 < bs.length
    · rw [putF, if_neg (fun h => h ha), if_pos hb]
      exact (rput_long most last A0 L.length c0 link now A bs.length c w ha hb).mono fun e w' ⟨he, hf⟩ => ⟨⟨_, he, ⟨A0, c0, L, rfl, hL.kept hf, rfl⟩⟩, hf⟩
    · by_cases hc : most ≤ ((msgs L).length : Int)
      · rw [putF, if_neg (fun h => h ha), if_neg hb, if_pos hc]
        exact (rput_crowd most last A0 L.length c0 link now A bs.length c w ha (by omega) (by simpa using hc)).mono fun e w' ⟨he, hf⟩ => ⟨⟨_, he, ⟨A0, c0, L, rfl, hL.kept hf, rfl⟩⟩, hf⟩
      · rw [putF, if_neg (fun h => h ha), if_neg hb, if_neg hc]
        refine (rput_ok most last A0 c0 L link now A c bs w hL ha hbs (by omega) (by simpa using hc) h5.2 (by omega)).mono ?_
        rintro e w' ⟨⟨L', A', c', he, h6, h7⟩, hf⟩
        exact ⟨⟨_, he, ⟨A', c', L', rfl, h6, h7⟩⟩, hf⟩
  · rw [putF, if_pos ha]
    exact (rput_arg most last A0 L.length c0 link now A bs.length c w ha).mono fun e w' ⟨he, hf⟩ => ⟨⟨_, he, ⟨A0, c0, L, rfl, hL.kept hf, rfl⟩⟩, hf⟩
/-- A message told, and the pool. -/
def Tell (w0 : World) (b : Nat) (most last : Int) (ms : List Msg) (m : Msg) (err : Int) (w : World) (e : Ending) (w' : World) : Prop :=
  (∃ A c, e = .returned (.tuple #[rmv ⟨m, A, c⟩, .int .i64 err]) ∧ BArg w' A m.bytes) ∧ Pw w0 w' b most last ms ∧ Fr (fun k => k = b) w w'
theorem rnd_some {ms : List Msg} {p : Int} {m : Msg} (h : ms[rnd p ms.length]? = some m) : 0 < ms.length := by
  obtain ⟨h1, _⟩ := List.getElem?_eq_some_iff.1 h
  omega
theorem rnd_none {ms : List Msg} {p : Int} (h : ms[rnd p ms.length]? = none) : ms = [] := by
  rcases Nat.eq_zero_or_pos ms.length with h0 | h0
  · exact List.length_eq_zero_iff.1 h0
  · have := List.getElem?_eq_none_iff.1 h
    have := rnd_lt p _ h0
    omega
theorem pw_take_any {w0 w : World} {b : Nat} {most last : Int} {ms : List Msg} (hp : Pw w0 w b most last ms) (p : Int) (hpb : -9223372036854775808 ≤ p ∧ p ≤ 9223372036854775807) :
    Calls Try.prog 13 #[.pointer (some ⟨b, 0, none⟩), .int .i64 p] w (Tell w0 b most last (takeF ms p).1 (takeF ms p).2.1 (takeF ms p).2.2 w) := by
  unfold takeF
  split
  · rename_i m hm
    exact (pw_take hp p _ m (rnd_some hm) hpb rfl hm _ rfl).mono fun e w' ⟨⟨A, c, h1, h2, _⟩, h3, h4⟩ => ⟨⟨A, c, h1, h2⟩, h3, h4⟩
  · rename_i hm
    obtain rfl := rnd_none hm
    obtain ⟨L, hL, hms, h3, h4⟩ := hp
    obtain rfl : L = [] := by simpa [msgs] using hms
    exact (ptake_empty b most last p w hL).mono fun e w' ⟨he, hf⟩ => ⟨⟨none, 0, he, barg_nil w'⟩, ⟨[], hL.kept hf, rfl, h3, h4.trans hf⟩, Fr0.any hf⟩
theorem pw_peek_any {w0 w : World} {b : Nat} {most last : Int} {ms : List Msg} (hp : Pw w0 w b most last ms) (p : Int) (hpb : -9223372036854775808 ≤ p ∧ p ≤ 9223372036854775807) :
    Calls Try.prog 14 #[.pointer (some ⟨b, 0, none⟩), .int .i64 p] w (Tell w0 b most last ms (takeF ms p).2.1 (takeF ms p).2.2 w) := by
  unfold takeF
  split
  · rename_i m hm
    exact (pw_peek hp p _ m (rnd_some hm) hpb rfl hm).mono fun e w' ⟨⟨A, c, h1, h2, _⟩, h3, h4⟩ => ⟨⟨A, c, h1, h2⟩, h3, h4⟩
  · rename_i hm
    obtain rfl := rnd_none hm
    obtain ⟨L, hL, hms, h3, h4⟩ := hp
    obtain rfl : L = [] := by simpa [msgs] using hms
    exact (peek_empty b most last p w hL).mono fun e w' ⟨he, hf⟩ => ⟨⟨none, 0, he, barg_nil w'⟩, ⟨[], hL.kept hf, rfl, h3, h4.trans hf⟩, Fr0.any hf⟩
theorem pw_bend_any {w0 w : World} {b : Nat} {K : Nat} {most last : Int} {ms : List Msg} (hp : Pw w0 w b most last ms) (hl : Lim K most last ms) (p q : Int) (hpb : -9223372036854775808 ≤ p ∧ p ≤ 9223372036854775807) (hqb : -9223372036854775808 ≤ q ∧ q ≤ 9223372036854775807) :
    Calls Try.prog 12 #[.pointer (some ⟨b, 0, none⟩), .int .i64 p, .int .i64 q] w (Tell w0 b most last (bendF ms p q).1 (bendF ms p q).2.1 (bendF ms p q).2.2 w) := by
  unfold bendF
  split
  · rename_i m hm
    exact (pw_bend hp p q _ m (rnd_some hm) hpb hqb hl.bytes rfl hm _ rfl _ rfl).mono fun e w' ⟨⟨A, c, h1, h2, _⟩, h3, h4⟩ => ⟨⟨A, c, h1, h2⟩, h3, h4⟩
  · rename_i hm
    obtain rfl := rnd_none hm
    obtain ⟨L, hL, hms, h3, h4⟩ := hp
    obtain rfl : L = [] := by simpa [msgs] using hms
    exact (bend_empty b most last p q w hL).mono fun e w' ⟨he, hf⟩ => ⟨⟨none, 0, he, barg_nil w'⟩, ⟨[], hL.kept hf, rfl, h3, h4.trans hf⟩, Fr0.any hf⟩
/-- A message told by the document. -/
def Rtell (most last : Int) (ms : List Msg) (m : Msg) (err : Int) (w : World) (e : Ending) (w' : World) : Prop :=
  (∃ v A c, e = .returned (.tuple #[v, rmv ⟨m, A, c⟩, .int .i64 err]) ∧ Rp w' v most last ms ∧ BArg w' A m.bytes) ∧ Fr0 w w'
theorem rtell_of {most last : Int} {ms : List Msg} {m : Msg} {w : World} {e : Ending} {w' : World} (h : RtakeOk most last ms m w e w') : Rtell most last ms m 0 w e w' := by
  obtain ⟨⟨L', A', c', r, he, h1, h2, rfl, h4⟩, hf⟩ := h
  exact ⟨⟨_, r.A, r.c, he, ⟨A', c', L', rfl, h1, h2⟩, h4⟩, hf⟩
theorem rtell_no {most last : Int} {A : Option Addr} {c : Nat} {w : World} {e : Ending} {w' : World} (hL : IsLs w A c []) (h : RtakeNo most last A 0 c w e w') : Rtell most last [] msg0 5 w e w' := by
  obtain ⟨he, hf⟩ := h
  exact ⟨⟨_, none, 0, he, ⟨A, c, [], rfl, hL.kept hf, rfl⟩, barg_nil w'⟩, hf⟩
theorem rtake_any {w : World} {v : Value} {most last : Int} {ms : List Msg} (hp : Rp w v most last ms) (p : Int) (hpb : -9223372036854775808 ≤ p ∧ p ≤ 9223372036854775807) :
    Calls Try.prog 34 #[v, .int .i64 p] w (Rtell most last (takeF ms p).1 (takeF ms p).2.1 (takeF ms p).2.2 w) := by
  obtain ⟨A0, c0, L, rfl, hL, rfl⟩ := hp
  unfold takeF
  split
  · rename_i m hm
    have hl : 0 < L.length := by simpa using rnd_some hm
    have hlt := rnd_lt p _ hl
    simp only [msgs, List.length_map, List.getElem?_map, List.getElem?_eq_getElem hlt, Option.map_some, Option.some.injEq] at hm
    refine (rtake_ok most last A0 c0 L p w hL hl hpb).mono fun e w' h => ?_
    rw [hm, msgs_without] at h
    simpa using rtell_of h
  · rename_i hm
    obtain rfl : L = [] := by simpa [msgs] using rnd_none hm
    exact (rtake_empty most last A0 c0 p w).mono fun e w' h => rtell_no hL h
theorem rbend_any {w : World} {v : Value} {K : Nat} {most last : Int} {ms : List Msg} (hp : Rp w v most last ms) (hlm : Lim K most last ms) (p q : Int) (hpb : -9223372036854775808 ≤ p ∧ p ≤ 9223372036854775807) (hqb : -9223372036854775808 ≤ q ∧ q ≤ 9223372036854775807) :
    Calls Try.prog 35 #[v, .int .i64 p, .int .i64 q] w (Rtell most last (bendF ms p q).1 (bendF ms p q).2.1 (bendF ms p q).2.2 w) := by
  obtain ⟨A0, c0, L, rfl, hL, rfl⟩ := hp
  unfold bendF
  split
  · rename_i m hm
    have hl : 0 < L.length := by simpa using rnd_some hm
    have hlt := rnd_lt p _ hl
    simp only [msgs, List.length_map, List.getElem?_map, List.getElem?_eq_getElem hlt, Option.map_some, Option.some.injEq] at hm
    refine (rbend_ok most last A0 c0 L p q w hL hl hpb hqb (fun r hr => hlm.bytes _ (List.mem_map_of_mem hr))).mono fun e w' h => ?_
    rw [hm] at h
    simpa using rtell_of h
  · rename_i hm
    obtain rfl : L = [] := by simpa [msgs] using rnd_none hm
    exact (rbend_empty most last A0 c0 p q w).mono fun e w' h => rtell_no hL h
end Go.Proofs.Ytbhdkpcakjookaa
