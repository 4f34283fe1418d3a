/- Chapter 15: a line beside the document's; a call of each kind, of both. -/
import Derived.Test.YtfiiikgjgcnjgaaFfR
set_option linter.unusedVariables false
set_option linter.unusedSimpArgs false
namespace Go.Proofs.Ytfiiikgjgcnjgaa
open Go.RowKit

/-- What a line is, by the document. -/
structure Fs where
  l : List Pk
  lp : Int
  lb : Int
  room : Int
deriving DecidableEq
def Ln.abs (X : Ln) : Fs := ⟨X.all, X.lp, X.lb, X.room⟩
structure Fs.Ok (s : Fs) (K : Nat) : Prop where
  small : Small s.l
  len : s.l.length ≤ K
  lp : 0 ≤ s.lp ∧ s.lp ≤ K
  lb : 0 ≤ s.lb ∧ s.lb ≤ 2000 * K
  room : 0 ≤ s.room ∧ s.room ≤ 1000000000
/-- Put, by the document. -/
def Fs.put (s : Fs) (p : Pk) : Fs × Int :=
  if p.right then if s.room < bytesOf s.l + p.size then ({ s with lp := s.lp + 1, lb := s.lb + p.size }, 230) else ({ s with l := s.l ++ [p] }, 0) else (s, 2)
def Fs.take (s : Fs) : Fs × Pk × Bool := match s.l with
  | [] => (s, pk0, false)
  | x :: l => ({ s with l := l }, x, true)
def Fs.drop (s : Fs) (fl : Int) : Fs × Int := ({ s with l := s.l.filter fun x => !isFl fl x }, (s.l.length : Int) - (s.l.filter fun x => !isFl fl x).length)
theorem right_size {p : Pk} (h : p.right = true) : 1 ≤ p.size ∧ p.size ≤ 2000 := by
  simp only [Pk.right, Bool.and_eq_true] at h
  exact wthB_iff.1 h.2.2
theorem small_app {l : List Pk} (h : Small l) {p : Pk} (hp : p.right = true) : Small (l ++ [p]) := by
  intro q hq
  rcases List.mem_append.1 hq with hq | hq
  · exact h q hq
  · have : q = p := by simpa using hq
    rw [this]; exact right_size hp
theorem Fs.Ok.put {s : Fs} {K : Nat} (h : s.Ok K) (p : Pk) : (s.put p).1.Ok (K + 1) := by
  obtain ⟨h1, h2, h3, h4, h5⟩ := h
  unfold Fs.put
  split
  · rename_i hr
    have := right_size hr
    split
    · exact ⟨h1, by simp; omega, by simp; omega, by simp; omega, h5⟩
    · exact ⟨small_app h1 hr, by simp; omega, by simp; omega, by simp; omega, h5⟩
  · exact ⟨h1, by simp; omega, by simp; omega, by simp; omega, h5⟩
theorem Fs.Ok.mono {s : Fs} {K L : Nat} (h : s.Ok K) (hl : K ≤ L) : s.Ok L := by
  obtain ⟨h1, h2, h3, h4, h5⟩ := h
  exact ⟨h1, by omega, by omega, by omega, h5⟩
theorem Fs.Ok.take {s : Fs} {K : Nat} (h : s.Ok K) : s.take.1.Ok K := by
  obtain ⟨h1, h2, h3, h4, h5⟩ := h
  obtain ⟨l, lp, lb, room⟩ := s
  cases l with
  | nil => exact ⟨h1, h2, h3, h4, h5⟩
  | cons x l => exact ⟨fun p hp => h1 p (by simp only [Fs.take] at hp; simp [hp]), by simp only [Fs.take]; simp at h2; omega, h3, h4, h5⟩
theorem Fs.Ok.drop {s : Fs} {K : Nat} (h : s.Ok K) (fl : Int) : (s.drop fl).1.Ok K := by
  obtain ⟨h1, h2, h3, h4, h5⟩ := h
  refine ⟨fun p hp => h1 p (List.mem_filter.1 hp).1, ?_, h3, h4, h5⟩
  have := List.length_filter_le (fun x => !isFl fl x) s.l
  simp only [Fs.drop]
  omega
/-- A document's line as a value: its list lies apart from S. -/
structure IsRl (w : World) (S : Nat → Prop) (v : Value) (s : Fs) : Prop where
  ex : ∃ A c, v = rlv s.room A s.l.length c s.lp s.lb ∧ Rd S w A (pks s.l) ∧ s.l.length ≤ c ∧ c ≤ maxLen ∧ (A = none → s.l.length = 0)
theorem IsRl.kept {w w' : World} {S : Nat → Prop} {v : Value} {s : Fs} (h : IsRl w S v s) (hf : Fr S w w') : IsRl w' S v s := by
  obtain ⟨A, c, h1, h2, h3⟩ := h.ex
  exact ⟨A, c, h1, h2.kept hf, h3⟩
theorem IsRl.mono {w : World} {S T : Nat → Prop} {v : Value} {s : Fs} (h : IsRl w S v s) (ht : ∀ k, k < w.heap.size → T k → S k) : IsRl w T v s := by
  obtain ⟨A, c, h1, h2, h3⟩ := h.ex
  exact ⟨A, c, h1, h2.mono ht, h3⟩
def RputAny (S : Nat → Prop) (r : Fs × Int) (w : World) (e : Ending) (w' : World) : Prop := (∃ v, e = .returned (.tuple #[v, .int .i64 r.2]) ∧ IsRl w' S v r.1) ∧ Fr0 w w'
theorem rput_any (S : Nat → Prop) (v : Value) (s : Fs) (K : Nat) (p : Pk) (w : World) (h : IsRl w S v s) (ho : s.Ok K) (hK : K ≤ 400000) (hS : ∀ k, w.heap.size ≤ k → ¬ S k) :
    Calls Try.prog 24 #[v, pkv p] w (RputAny S (s.put p) w) := by
  obtain ⟨A, c, rfl, hR, hlc, hcm, hA⟩ := h.ex
  have hR0 := hR.mono (T := fun _ => False) (fun _ _ h => h.elim)
  have hl := ho.len
  cases hr : p.right
  · have e : s.put p = (s, 2) := by simp [Fs.put, hr]
    refine (rput_arg s.room A s.l.length c s.lp s.lb p w hr).mono fun e' w' ⟨h1, h2⟩ => ⟨⟨_, by rw [e]; exact h1, ?_⟩, h2⟩
    rw [e]
    exact ⟨A, c, rfl, hR.kept (Fr0.any h2), hlc, hcm, hA⟩
  · by_cases hx : s.room < bytesOf s.l + p.size
    · have e : s.put p = ({ s with lp := s.lp + 1, lb := s.lb + p.size }, 230) := by simp [Fs.put, hr, hx]
      have h3 := ho.lp
      have h4 := ho.lb
      refine (rput_room s.room A c s.l s.lp s.lb p w hr hR0 ho.small (by omega) hx (by omega) (by omega)).mono fun e' w' ⟨h1, h2⟩ => ⟨⟨_, by rw [e]; exact h1, ?_⟩, h2⟩
      rw [e]
      exact ⟨A, c, rfl, hR.kept (Fr0.any h2), hlc, hcm, hA⟩
    · have e : s.put p = ({ s with l := s.l ++ [p] }, 0) := by simp [Fs.put, hr, hx]
      refine (rput_ok s.room A c s.l s.lp s.lb p w hr hR0 ho.small (by omega) hA (by omega)).mono fun e' w' ⟨⟨A', c', h1, h2, h2', h2'', h3⟩, h4⟩ => ⟨⟨_, by rw [e]; exact h1, ?_⟩, h4⟩
      rw [e]
      exact ⟨A', c', by simp, h3 S hS, by simpa using h2, h2', fun e => absurd (h2'' e) (by simp)⟩

theorem rtake_any (S : Nat → Prop) (v : Value) (s : Fs) (w : World) (h : IsRl w S v s) :
    Calls Try.prog 25 #[v] w fun e w' => (∃ u, e = .returned (.tuple #[u, pkv s.take.2.1, .bool s.take.2.2]) ∧ IsRl w' S u s.take.1) ∧ Fr0 w w' := by
  obtain ⟨A, c, rfl, hR, hlc, hcm, hA⟩ := h.ex
  have hR0 := hR.mono (T := fun _ => False) (fun _ _ h => h.elim)
  obtain ⟨l, lp, lb, room⟩ := s
  cases l with
  | nil => exact (rtake_empty room A c lp lb w).mono fun e w' ⟨h1, h2⟩ => ⟨⟨_, h1, ⟨A, c, rfl, Rd.nil _ _ _, hlc, hcm, hA⟩⟩, h2⟩
  | cons x l =>
    obtain ⟨g, off, rfl⟩ := hR.some_ (by rw [pks_length]; simp)
    have hlc' : l.length + 1 ≤ c := hlc
    refine (rtake_some room g off c x l lp lb w hR0 hlc' hcm).mono fun e w' ⟨h1, h2⟩ => ⟨⟨_, h1, ⟨_, c - 1, rfl, ?_, by show l.length ≤ c - 1; omega, by omega, fun e => by simp at e⟩⟩, h2⟩
    exact (rd_tail hR c hlc').kept (Fr0.any h2)
theorem rdrop_any (S : Nat → Prop) (v : Value) (s : Fs) (fl : Int) (w : World) (h : IsRl w S v s) (hl : s.l.length ≤ 1000000) (hS : ∀ k, w.heap.size ≤ k → ¬ S k) :
    Calls Try.prog 26 #[v, .int .i64 fl] w fun e w' => (∃ u, e = .returned (.tuple #[u, .int .i64 (s.drop fl).2]) ∧ IsRl w' S u (s.drop fl).1) ∧ Fr0 w w' := by
  obtain ⟨A, c, rfl, hR, hlc, hcm, hA⟩ := h.ex
  have hR0 := hR.mono (T := fun _ => False) (fun _ _ h => h.elim)
  refine (rdrop_calls s.room A c s.l fl s.lp s.lb w hR0 hl).mono fun e w' ⟨⟨A', c', h1, h2, h3, h4, h5⟩, h6⟩ => ⟨⟨_, h1, ⟨A', c', rfl, h5 S hS, h2, h3, h4⟩⟩, h6⟩

/-- A line that is the document's s, of no great ring. -/
def LnAt (w : World) (b g : Nat) (s : Fs) (K : Nat) : Prop := ∃ X, IsLn w b g X ∧ X.abs = s ∧ X.ring.length ≤ 2 * K + 1
theorem LnAt.kept {w w' : World} {b g : Nat} {s : Fs} {K : Nat} {S : Nat → Prop} (h : LnAt w b g s K) (hf : Fr S w w') (hb : ¬ S b) (hg : ¬ S g) : LnAt w' b g s K := by
  obtain ⟨X, h1, h2⟩ := h
  exact ⟨X, h1.kept hf hb hg, h2⟩
theorem LnAt.kept0 {w w' : World} {b g : Nat} {s : Fs} {K : Nat} (h : LnAt w b g s K) (hf : Fr0 w w') : LnAt w' b g s K := h.kept hf (fun h => h) (fun h => h)
theorem LnAt.mono {w : World} {b g : Nat} {s : Fs} {K L : Nat} (h : LnAt w b g s K) (hl : K ≤ L) : LnAt w b g s L := by
  obtain ⟨X, h1, h2, h3⟩ := h
  exact ⟨X, h1, h2, by omega⟩
theorem LnAt.lt {w : World} {b g : Nat} {s : Fs} {K : Nat} (h : LnAt w b g s K) : b < w.heap.size ∧ g < w.heap.size ∧ g ≠ b := by
  obtain ⟨X, h1, _⟩ := h
  obtain ⟨c, _, _, hb⟩ := h1.blk
  obtain ⟨t, sp, hr⟩ := h1.row
  exact ⟨lt_of_block hb, lt_of_block hr, h1.ne⟩
/-- The line behind a call: the ring may lie elsewhere. -/
def LnNext (w w' : World) (b g : Nat) (s : Fs) (K : Nat) : Prop := (∃ g', LnAt w' b g' s K ∧ (g' = g ∨ w.heap.size ≤ g')) ∧ Fr (fun k => k = b ∨ k = g) w w'
theorem fput_any (b g : Nat) (s : Fs) (K : Nat) (p : Pk) (w : World) (h : LnAt w b g s K) (ho : s.Ok K) (hK : K ≤ 400000) :
    Calls Try.prog 12 #[.pointer (some ⟨b, 0, none⟩), pkv p] w fun e w' => e = .returned (.int .i64 (s.put p).2) ∧ LnNext w w' b g (s.put p).1 (K + 1) := by
  obtain ⟨X, hX, rfl, hr⟩ := h
  have h0 := ho.small
  have h1 := ho.len
  have h2 := ho.lp
  have h3 := ho.lb
  have h4 := ho.room
  have hlen : X.many ≤ K := by rw [← X.all_length]; exact h1
  cases hp : p.right
  · have e : X.abs.put p = (X.abs, 2) := by simp [Fs.put, hp]
    rw [e]
    exact (fput_arg b g X p w hX hp).mono fun e' w' ⟨k1, k2⟩ => ⟨k1, ⟨g, ⟨X, hX.kept0 k2, rfl, by omega⟩, .inl rfl⟩, Fr0.any k2⟩
  · by_cases hx : X.abs.room < bytesOf X.abs.l + p.size
    · have e : X.abs.put p = ({ X.abs with lp := X.abs.lp + 1, lb := X.abs.lb + p.size }, 230) := by simp [Fs.put, hp, hx]
      rw [e]
      have hx' : X.room < bytesOf X.all + p.size := hx
      have h2' : 0 ≤ X.lp ∧ X.lp ≤ (K : Int) := h2
      have h3' : 0 ≤ X.lb ∧ X.lb ≤ 2000 * (K : Int) := h3
      refine (fput_room b g X p w hX hp h0 (by omega) h4 (by omega) (by omega)).mono fun e' w' ⟨k1, k2, k3⟩ => ⟨k1, ⟨g, ⟨_, k2, rfl, by show X.ring.length ≤ _; omega⟩, .inl rfl⟩, k3.mono (fun _ _ e => .inl e)⟩
    · have e : X.abs.put p = ({ X.abs with l := X.abs.l ++ [p] }, 0) := by simp [Fs.put, hp, hx]
      rw [e]
      have hx' : ¬ X.room < bytesOf X.all + p.size := hx
      refine (fput_yes b g X p w hX hp h0 (by omega) h4 (by omega)).mono fun e' w' ⟨k1, ⟨g', X', k2, k3, k4⟩, k5⟩ => ⟨k1, ⟨g', ⟨X', k2, ?_, ?_⟩, k4⟩, k5⟩
      · simp [Ln.abs, k3.all, k3.lp, k3.lb, k3.room]
      · have := k3.len; omega
theorem ftake_any (b g : Nat) (s : Fs) (K : Nat) (w : World) (h : LnAt w b g s K) :
    Calls Try.prog 14 #[.pointer (some ⟨b, 0, none⟩)] w fun e w' => e = .returned (.tuple #[pkv s.take.2.1, .bool s.take.2.2]) ∧ LnNext w w' b g s.take.1 K := by
  obtain ⟨X, hX, rfl, hr⟩ := h
  by_cases hm : 0 < X.many
  · have ha := take_all X hX.ok hm
    have e : X.abs.take = ({ X.abs with l := X.take.all }, X.pk 0, true) := by
      have : X.abs.l = X.pk 0 :: X.take.all := ha
      unfold Fs.take
      rw [this]
    rw [e]
    exact (ftake_calls b g X w hX hm).mono fun e' w' ⟨k1, k2, k3⟩ => ⟨k1, ⟨g, ⟨X.take, k2, rfl, hr⟩, .inl rfl⟩, k3.mono (fun _ _ e => .inl e)⟩
  · have hm0 : X.many = 0 := by omega
    have hl : X.abs.l = [] := List.length_eq_zero_iff.1 (by rw [← hm0]; exact X.all_length)
    have e : X.abs.take = (X.abs, pk0, false) := by unfold Fs.take; rw [hl]
    rw [e]
    exact (ftake_empty b g X w hX hm0).mono fun e' w' ⟨k1, k2⟩ => ⟨k1, ⟨g, ⟨X, hX.kept0 k2, rfl, hr⟩, .inl rfl⟩, Fr0.any k2⟩
theorem fdrop_any (b g : Nat) (s : Fs) (K : Nat) (fl : Int) (w : World) (h : LnAt w b g s K) :
    Calls Try.prog 22 #[.pointer (some ⟨b, 0, none⟩), .int .i64 fl] w fun e w' => e = .returned (.int .i64 (s.drop fl).2) ∧ LnNext w w' b g (s.drop fl).1 K := by
  obtain ⟨X, hX, rfl, hr⟩ := h
  refine (fdrop_calls b g X fl w hX).mono fun e' w' ⟨k1, ⟨g', k2, k3⟩, k4⟩ => ⟨?_, ⟨g', ⟨X.drop fl, k2, ?_, ?_⟩, .inr k3⟩, k4.mono (fun _ _ e => .inl e)⟩
  · rw [k1]
    have h1 : X.abs.l.length = X.many := X.all_length
    simp only [Fs.drop]
    rw [h1]
    rfl
  · simp only [Ln.abs, Fs.drop, drop_all X fl hX.ok]
    rfl
  · have h1 := List.length_filter_le (fun x => !isFl fl x) X.all
    have h2 := X.all_length
    have h3 := hX.ok.many
    have : (X.drop fl).ring.length = X.ring.length := by simp [Ln.drop, Ln.laid]; omega
    omega
end Go.Proofs.Ytfiiikgjgcnjgaa
