/- Chapter 15: a line that a law made; the known line. -/
import Derived.Test.YtfiiikgjgcnjgaaFfT
set_option linter.unusedVariables false
set_option linter.unusedSimpArgs false
namespace Go.Proofs.Ytfiiikgjgcnjgaa
open Go.RowKit

theorem does_any (b g : Nat) (v : Value) (s : Fs) (K : Nat) (k : Int) (p : Pk) (w : World) (h : Two w b g v s K) (hK : K ≤ 400000) :
    Calls Try.prog 10 #[.pointer (some ⟨b, 0, none⟩), v, actv k p] w (DoesPost w b g (s.act k p) (K + 1)) := by
  have up : ∀ s' e w', DoesPost w b g s' K e w' → DoesPost w b g s' (K + 1) e w' := fun s' e w' ⟨⟨u, g', h1, ⟨h2, h3, h4⟩, h5⟩, h6⟩ => ⟨⟨u, g', h1, ⟨h2.mono (by omega), h3, h4.mono (by omega)⟩, h5⟩, h6⟩
  unfold Fs.act
  split
  · rename_i e; subst e; exact does_put b g v s K p w h hK
  · split
    · rename_i e; subst e; exact (does_take b g v s K p w h hK).mono (up _)
    · split
      · rename_i e; subst e; exact (does_drop b g v s K p w h hK).mono (up _)
      · exact (does_other b g v s K k p w h (by assumption) (by assumption) (by assumption)).mono (up _)
/-- A line that was made behind w. -/
def Lw (w W : World) (b : Nat) (s : Fs) (K : Nat) : Prop := (∃ g, LnAt W b g s K ∧ w.heap.size ≤ g) ∧ w.heap.size ≤ b ∧ Fr0 w W ∧ s.Ok K
theorem Lw.kept0 {w W W' : World} {b : Nat} {s : Fs} {K : Nat} (h : Lw w W b s K) (hf : Fr0 W W') : Lw w W' b s K := by
  obtain ⟨⟨g, h1, h2⟩, h3, h4, h5⟩ := h
  exact ⟨⟨g, h1.kept0 hf, h2⟩, h3, h4.trans hf, h5⟩
theorem Lw.fr {w W : World} {b : Nat} {s : Fs} {K : Nat} (h : Lw w W b s K) : Fr0 w W := h.2.2.1
theorem Lw.next {w W W' : World} {b g : Nat} {s s' : Fs} {K K' : Nat} (hg : w.heap.size ≤ g) (hb : w.heap.size ≤ b) (hf : Fr0 w W) (h : LnNext W W' b g s' K') (ho : s'.Ok K') : Lw w W' b s' K' := by
  obtain ⟨⟨g', h1, h2⟩, h3⟩ := h
  refine ⟨⟨g', h1, ?_⟩, hb, hf.then h3 (fun i hi e => by omega), ho⟩
  rcases h2 with e | e
  · omega
  · have := hf.size; omega
theorem lw_new (room : Int) (w W : World) (hf : Fr0 w W) (hr : 0 ≤ room ∧ room ≤ 1000000000) : Calls Try.prog 9 #[.int .i64 room] W fun e W' => ∃ b, e = .returned (.tuple #[.pointer (some ⟨b, 0, none⟩), .int .i64 0]) ∧ Lw w W' b ⟨[], 0, 0, room⟩ 0 := by
  refine (fnew_calls room W hr).mono fun e W' ⟨⟨b, g, h1, h2, h3, h4⟩, h5⟩ => ⟨b, h1, ⟨g, ⟨_, h4, rfl, by simp⟩, by have := hf.size; omega⟩, by have := hf.size; omega, hf.trans h5, ⟨fun p hp => by simp at hp, by simp, by simp, by simp, hr⟩⟩
theorem lw_put {w W : World} {b : Nat} {s : Fs} {K : Nat} (h : Lw w W b s K) (p : Pk) (hK : K ≤ 400000) {r : Fs × Int} (hr : s.put p = r) : Calls Try.prog 12 #[.pointer (some ⟨b, 0, none⟩), pkv p] W fun e W' => e = .returned (.int .i64 r.2) ∧ Lw w W' b r.1 (K + 1) := by
  subst hr
  obtain ⟨⟨g, h1, h2⟩, h3, h4, h5⟩ := h
  exact (fput_any b g s K p W h1 h5 hK).mono fun e W' ⟨k1, k2⟩ => ⟨k1, Lw.next (s := s) (K := K) h2 h3 h4 k2 (h5.put p)⟩
theorem lw_take {w W : World} {b : Nat} {s : Fs} {K : Nat} (h : Lw w W b s K) {r : Fs × Pk × Bool} (hr : s.take = r) : Calls Try.prog 14 #[.pointer (some ⟨b, 0, none⟩)] W fun e W' => e = .returned (.tuple #[pkv r.2.1, .bool r.2.2]) ∧ Lw w W' b r.1 K := by
  subst hr
  obtain ⟨⟨g, h1, h2⟩, h3, h4, h5⟩ := h
  exact (ftake_any b g s K W h1).mono fun e W' ⟨k1, k2⟩ => ⟨k1, Lw.next (s := s) (K := K) h2 h3 h4 k2 h5.take⟩
theorem lw_drop {w W : World} {b : Nat} {s : Fs} {K : Nat} (h : Lw w W b s K) (fl : Int) {r : Fs × Int} (hr : s.drop fl = r) : Calls Try.prog 22 #[.pointer (some ⟨b, 0, none⟩), .int .i64 fl] W fun e W' => e = .returned (.int .i64 r.2) ∧ Lw w W' b r.1 K := by
  subst hr
  obtain ⟨⟨g, h1, h2⟩, h3, h4, h5⟩ := h
  exact (fdrop_any b g s K fl W h1).mono fun e W' ⟨k1, k2⟩ => ⟨k1, Lw.next (s := s) (K := K) h2 h3 h4 k2 (h5.drop fl)⟩
theorem lw_lost {w W : World} {b : Nat} {s : Fs} {K : Nat} (h : Lw w W b s K) : Calls Try.prog 17 #[.pointer (some ⟨b, 0, none⟩)] W fun e W' => e = .returned (.tuple #[.int .i64 s.lp, .int .i64 s.lb]) ∧ Lw w W' b s K := by
  have h0 := h
  obtain ⟨⟨g, ⟨X, h1, h1', _⟩, h2⟩, h3, h4, h5⟩ := h
  refine (flost_calls b g X W h1).mono fun e W' ⟨k1, k2⟩ => ⟨?_, h0.kept0 k2⟩
  rw [k1, ← h1']
  rfl
theorem lw_bytes {w W : World} {b : Nat} {s : Fs} {K : Nat} (h : Lw w W b s K) : Calls Try.prog 13 #[.pointer (some ⟨b, 0, none⟩)] W fun e W' => e = .returned (.int .i64 (bytesOf s.l)) ∧ Lw w W' b s K := by
  have h0 := h
  obtain ⟨⟨g, ⟨X, h1, h1', _⟩, h2⟩, h3, h4, h5⟩ := h
  subst h1'
  exact (fbytes_calls b g X W h1 h5.small).mono fun e W' ⟨k1, k2⟩ => ⟨k1, h0.kept0 k2⟩
set_option maxRecDepth 100000 in
set_option maxHeartbeats 1000000 in
theorem known15_calls (w : World) : Calls Try.prog 8 #[] w fun e w' => e = .returned (.bool true) ∧ Fr0 w w' := by
  have e1 : Fs.put ⟨[], 0, 0, 10⟩ ⟨1, 5, 6⟩ = (⟨[⟨1, 5, 6⟩], 0, 0, 10⟩, 0) := by decide
  have e2 : Fs.put ⟨[⟨1, 5, 6⟩], 0, 0, 10⟩ ⟨2, 7, 6⟩ = (⟨[⟨1, 5, 6⟩], 1, 6, 10⟩, 230) := by decide
  have e3 : Fs.put ⟨[⟨1, 5, 6⟩], 1, 6, 10⟩ ⟨3, 7, 4⟩ = (⟨[⟨1, 5, 6⟩, ⟨3, 7, 4⟩], 1, 6, 10⟩, 0) := by decide
  have e4 : Fs.drop ⟨[⟨1, 5, 6⟩, ⟨3, 7, 4⟩], 1, 6, 10⟩ 5 = (⟨[⟨3, 7, 4⟩], 1, 6, 10⟩, 1) := by decide
  have e5 : Fs.take ⟨[⟨3, 7, 4⟩], 1, 6, 10⟩ = (⟨[], 1, 6, 10⟩, ⟨3, 7, 4⟩, true) := by decide
  have E1 := Lib.hid e1
  have E2 := Lib.hid e2
  have E3 := Lib.hid e3
  have E4 := Lib.hid e4
  have E5 := Lib.hid e5
  clear e1 e2 e3 e4 e5
  go_enter Try.func8, Try.ntmps8
  go_wp2_with fail
  refine (lw_new 10 w w (Fr.refl _ _) (by decide)).mono ?_
  rintro e W1 ⟨b, rfl, h1⟩
  have H1 := Lib.hid h1
  clear h1
  go_wp2_with fail
  refine (lw_put H1.out ⟨1, 5, 6⟩ (by decide) E1.out).mono ?_
  rintro e W2 ⟨rfl, h2⟩
  have H2 := Lib.hid h2
  clear h2
  go_wp2_with fail
  refine (lw_put H2.out ⟨2, 7, 6⟩ (by decide) E2.out).mono ?_
  rintro e W3 ⟨rfl, h3⟩
  have H3 := Lib.hid h3
  clear h3
  go_wp2_with fail
  refine (lw_put H3.out ⟨3, 7, 4⟩ (by decide) E3.out).mono ?_
  rintro e W4 ⟨rfl, h4⟩
  have H4 := Lib.hid h4
  clear h4
  go_wp2_with fail
  refine (lw_lost H4.out).mono ?_
  rintro e W5 ⟨rfl, h5⟩
  have H5 := Lib.hid h5
  clear h5
  go_wp2_with fail
  refine (lw_drop H5.out 5 E4.out).mono ?_
  rintro e W6 ⟨rfl, h6⟩
  have H6 := Lib.hid h6
  clear h6
  go_wp2_with fail
  refine (lw_take H6.out E5.out).mono ?_
  rintro e W7 ⟨rfl, h7⟩
  have H7 := Lib.hid h7
  clear h7
  go_wp2_with fail
  refine (lw_bytes (H7.out.kept0 ((Fr.refl _ W7).alloc _))).mono ?_
  rintro e W8 ⟨rfl, h8⟩
  have H8 := Lib.hid h8
  clear h8
  go_wp2_with fail
  go_ret
  exact ⟨rfl, H8.out.fr⟩
end Go.Proofs.Ytfiiikgjgcnjgaa
