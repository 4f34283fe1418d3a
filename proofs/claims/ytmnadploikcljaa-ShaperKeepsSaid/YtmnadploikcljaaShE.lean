/- Chapter 13: Go: what goes. -/
import Derived.Test.YtmnadploikcljaaShD
import Derived.Scope
set_option linter.unusedVariables false
set_option linter.unusedSimpArgs false
namespace Go.Proofs.Ytmnadploikcljaa
open Go.RowKit
attribute [local go_sem] Oper.semAt_some

/-- Packets, sent at a tick. -/
def tag (now : Int) (l : List (Int × Int)) : List (Int × Int) := l.map fun p => (now, p.2)
theorem tag_app (now : Int) (a b : List (Int × Int)) : tag now (a ++ b) = tag now a ++ tag now b := by simp [tag]
theorem tag_length (now : Int) (l : List (Int × Int)) : (tag now l).length = l.length := by simp [tag]
/-- How many go. -/
def goN (s : Sp) (now : Int) : List (Int × Int) → List (Int × Int) → Nat
  | _, [] => 0
  | t, x :: L => if Keeps s (t ++ [(now, x.2)]) then goN s now (t ++ [(now, x.2)]) L + 1 else 0
theorem goN_le (s : Sp) (now : Int) : ∀ (L t : List (Int × Int)), goN s now t L ≤ L.length
  | [], _ => Nat.le_refl _
  | x :: L, t => by
    unfold goN
    split
    · have := goN_le s now L (t ++ [(now, x.2)]); simp; exact this
    · exact Nat.zero_le _
/-- The shaper behind Go: k packets went. -/
def goX (X : Sh) (now : Int) (k : Nat) (B : Bk) : Sh := ⟨X.s, X.t ++ tag now (X.L.take k), B, X.room, X.L.drop k⟩
theorem goX_len (X : Sh) (now : Int) (k : Nat) (B : Bk) : (goX X now k B).L.length = X.L.length - k := by simp [goX]
theorem Sh.Ok.go {X : Sh} (h : X.Ok) {now : Int} {k : Nat} {B : Bk} (hb : BkOf X.s (X.t ++ tag now (X.L.take k)) B) : (goX X now k B).Ok := by
  refine ⟨hb, fun p hp => h.size p (List.mem_of_mem_drop hp), h.room, ?_⟩
  have h1 := h.fits
  have h2 : bytesW X.L = bytesW (X.L.take k) + bytesW (X.L.drop k) := by rw [← bytesW_app, List.take_append_drop]
  have h3 := (h.pos.pre (List.take_prefix k X.L)).range
  show bytesW (X.L.drop k) ≤ X.room
  omega
theorem tag_snoc (now : Int) (t L : List (Int × Int)) (k : Nat) (h : k < L.length) : (t ++ tag now (L.take k)) ++ [(now, sz_ L k)] = t ++ tag now (L.take (k + 1)) := by
  rw [take_snoc L k h, tag_app, ← List.append_assoc]; rfl
theorem goN_step (s : Sp) (now : Int) (t L : List (Int × Int)) (k : Nat) (h : k < L.length) :
    goN s now (t ++ tag now (L.take k)) (L.drop k) = if Keeps s (t ++ tag now (L.take (k + 1))) then goN s now (t ++ tag now (L.take (k + 1))) (L.drop (k + 1)) + 1 else 0 := by
  rw [List.drop_eq_getElem_cons h, goN]
  have e : (t ++ tag now (L.take k)) ++ [(now, L[k].2)] = t ++ tag now (L.take (k + 1)) := by rw [← sz_eq L k h]; exact tag_snoc now t L k h
  rw [e]
theorem goN_done (s : Sp) (now : Int) (t L : List (Int × Int)) : goN s now (t ++ tag now (L.take L.length)) (L.drop L.length) = 0 := by
  rw [List.drop_length]; rfl
/-- What Go says. -/
def GoPost (b m : Nat) (X : Sh) (now : Int) (w : World) (e : Ending) (w' : World) : Prop :=
  if X.B.may now then
    ∃ v B, e = .returned (.tuple #[v, .int .i64 0]) ∧ wtRow w' w.heap.size v (X.L.take (goN X.s now X.t X.L)) ∧ B.now = now ∧ IsSh w' b m (goX X now (goN X.s now X.t X.L) B) ∧ Fr (ShS b m) w w'
  else e = .returned (.tuple #[.slice none 0 0, .int .i64 2]) ∧ Fr0 w w'
def GoPostT (T : Nat → Prop) (b m : Nat) (X : Sh) (now : Int) (w : World) (e : Ending) (w' : World) : Prop :=
  if X.B.may now then
    ∃ v B, e = .returned (.tuple #[v, .int .i64 0]) ∧ wtRow w' w.heap.size v (X.L.take (goN X.s now X.t X.L)) ∧ B.now = now ∧ IsShT T w' b m (goX X now (goN X.s now X.t X.L) B) ∧ Fr (ShS b m) w w'
  else e = .returned (.tuple #[.slice none 0 0, .int .i64 2]) ∧ Fr0 w w'
theorem GoPostT.old {T : Nat → Prop} {b m : Nat} {X : Sh} {now : Int} {w w' : World} {e : Ending} (h : GoPostT T b m X now w e w') : GoPost b m X now w e w' := by
  unfold GoPostT at h
  unfold GoPost
  split at h
  · rename_i hm
    rw [if_pos hm]
    obtain ⟨v, B, h1, h2, h3, h4, h5⟩ := h
    exact ⟨v, B, h1, h2, h3, h4.sh, h5⟩
  · rename_i hm
    rw [if_neg hm]
    exact h
theorem Rd.both {S T : Nat → Prop} {w : World} {A : Option Addr} {vs : List Value} (h : Rd S w A vs) (h2 : Rd T w A vs) : Rd (fun k => S k ∨ T k) w A vs := by
  rcases h with h | ⟨b, off, rfl, hs, h⟩
  · exact .inl h
  · rcases h2 with h2 | ⟨b', off', e, ht, _⟩
    · exact .inl h2
    · cases e
      exact .inr ⟨b, off, rfl, fun e => e.elim hs ht, h⟩
theorem tail_rd {S : Nat → Prop} {w : World} {g off : Nat} {L : List (Int × Int)} {k : Nat} (hk : k < L.length) (h : Rd S w (some ⟨g, off, none⟩) (sends (L.drop k))) (c : Nat) (hc : L.length - k ≤ c) : Rd S w (some ⟨g, if c = 1 then off else off + 2, none⟩) (sends (L.drop (k + 1))) := by
  rw [List.drop_eq_getElem_cons hk] at h
  generalize hq : L.drop (k + 1) = M at *
  have hM : M.length = L.length - (k + 1) := by rw [← hq]; simp
  cases M with
  | nil => exact .inl rfl
  | cons y M =>
    simp at hM
    rw [if_neg (by omega)]
    clear hc
    rcases h with h | ⟨b, o, e, hS, hc⟩
    · simp [sends] at h
    · cases e
      refine .inr ⟨_, _, rfl, hS, fun i hi => ?_⟩
      have := hc (i + 2) (by
        have : (sends (L[k] :: y :: M)).length = (sends (y :: M)).length + 2 := rfl
        omega)
      rw [show off + 2 + i = off + (i + 2) by omega, this]
      rfl
theorem Bk.tk_now {B : Bk} {t : Int} (hm : B.may t) (z : Int) : (B.tk t z).now = t := by
  unfold Bk.tk Bk.take
  rw [if_pos hm]
  split <;> rfl
theorem Bk.tk_may {B : Bk} {t : Int} (hm : B.may t) (z : Int) : (B.tk t z).may t := by
  refine ⟨?_, hm.2⟩
  rw [Bk.tk_now hm]
  exact Int.le_refl _
theorem take0 {s : Sp} {l : List (Int × Int)} {B : Bk} (h : BkOf s l B) {t : Int} (hm : B.may t) : ¬ okTk s l B t 0 ∧ BkOf s l (B.tk t 0) := by
  have hk : ¬ Keeps s (l ++ [(t, 0)]) := fun hk => by
    have := ((h.take hm 0).2.1 hk).1.1
    have h2 : (B.adv t).s = s := h.spec
    rw [h2] at this
    obtain ⟨q1, q2, q3, q4, q5, q6, q7, q8⟩ := h.right
    omega
  refine ⟨fun h => hk h.2, ?_⟩
  have := h.tk t 0
  unfold lTk lTake at this
  rwa [if_pos hm, if_neg hk] at this
theorem tk_yes {s : Sp} {l : List (Int × Int)} {B : Bk} (h : BkOf s l B) {t z : Int} (hm : B.may t) (hk : Keeps s (l ++ [(t, z)])) : okTk s l B t z ∧ BkOf s (l ++ [(t, z)]) (B.tk t z) := by
  refine ⟨⟨hm, hk⟩, ?_⟩
  have := h.tk t z
  unfold lTk lTake at this
  rwa [if_pos hm, if_pos hk] at this
theorem tk_no {s : Sp} {l : List (Int × Int)} {B : Bk} (h : BkOf s l B) {t z : Int} (hm : B.may t) (hk : ¬ Keeps s (l ++ [(t, z)])) : ¬ okTk s l B t z ∧ BkOf s l (B.tk t z) := by
  refine ⟨fun h => hk h.2, ?_⟩
  have := h.tk t z
  unfold lTk lTake at this
  rwa [if_pos hm, if_neg hk] at this
theorem IsShAt.bkt {w w' : World} {b m : Nat} {A : Option Addr} {c : Nat} {X : Sh} (h : IsShAt w b m A c X) {B : Bk} {l : List (Int × Int)} (hb : IsBk w' m B) (hf : Fr (· = m) w w') (ho : BkOf X.s l B) : IsShAt w' b m A c ⟨X.s, l, B, X.room, X.L⟩ :=
  ⟨hf.blk h.blk (fun e => h.ne e), hb, h.ls.kept (hf.mono (fun k _ e => .inr e)), ⟨ho, h.ok.size, h.ok.room, h.ok.fits⟩⟩
theorem IsShAt.keptS {w w' : World} {b m : Nat} {A : Option Addr} {c : Nat} {X : Sh} {S : Nat → Prop} (h : IsShAt w b m A c X) (hf : Fr S w w') (hb : ¬ S b) (hm : ¬ S m) (hr : Rd (ShS b m) w' A (sends X.L)) : IsShAt w' b m A c X :=
  ⟨hf.blk h.blk hb, h.bk.kept hf hm, ⟨hr, h.ls.nil, h.ls.cap⟩, h.ok⟩
/-- The blocks that a Go may write. -/
def GoT (T : Nat → Prop) (b m n : Nat) : Nat → Prop := fun q => (ShS b m q ∨ T q) ∨ n ≤ q
theorem tail_rd2 {S : Nat → Prop} {w : World} {g off : Nat} {L : List (Int × Int)} {k : Nat} (hk : k < L.length) (h : Rd S w (some ⟨g, off, none⟩) (sends (L.drop k))) (c : Nat) (hc : L.length - k ≤ c) : Rd S w (if c = 1 then some ⟨g, off, none⟩ else some ⟨g, off + 2, none⟩) (sends (L.drop (k + 1))) := by
  have := tail_rd hk h c hc
  split
  · rename_i h1; rwa [if_pos h1] at this
  · rename_i h1; rwa [if_neg h1] at this
theorem not_T {T : Nat → Prop} {b m n : Nat} {w : World} {g off : Nat} {L : List (Int × Int)} {k : Nat} (hk : k < L.length) (h : Rd (GoT T b m n) w (some ⟨g, off, none⟩) (sends (L.drop k))) : ¬ GoT T b m n g := by
  rcases h with h | ⟨g', o', e, hT, _⟩
  · rw [List.drop_eq_getElem_cons hk] at h
    have h2 := congrArg List.length h
    rw [sends_length, List.length_cons, List.length_nil] at h2
    omega
  · cases e; exact hT
theorem goX_zero (X : Sh) (now : Int) : goX X now 0 X.B = X := by
  unfold goX
  simp [tag]
theorem at_drop (L : List (Int × Int)) (k : Nat) (h : k < L.length) : at_ (L.drop k) 0 = at_ L k ∧ sz_ (L.drop k) 0 = sz_ L k := by
  rw [List.drop_eq_getElem_cons h]
  exact ⟨(at_eq L k h).symm, (sz_eq L k h).symm⟩
def vlen : Value → Nat
  | .slice _ n _ => n
  | _ => 0
set_option maxHeartbeats 4000000 in
theorem sgo_yesT (T : Nat → Prop) (b m : Nat) (X : Sh) (now : Int) (w : World) (h : IsShT T w b m X) (hm : X.B.may now) :
    Calls Try.prog 12 #[.pointer (some ⟨b, 0, none⟩), .int .i64 now] w (GoPostT T b m X now w) := by
  have HPOST := Lib.hid (show GoPostT T b m X now w = fun e w' => ∃ v B, e = .returned (.tuple #[v, .int .i64 0]) ∧ wtRow w' w.heap.size v (X.L.take (goN X.s now X.t X.L)) ∧ B.now = now ∧ IsShT T w' b m (goX X now (goN X.s now X.t X.L) B) ∧ Fr (ShS b m) w w' from by funext e w'; unfold GoPostT; rw [if_pos hm])
  have HM := Lib.hid hm
  have HN := Lib.hid (snone_calls b m X w h.sh)
  have HX := Lib.hid h.sh
  obtain ⟨A, c, h, hT⟩ := h
  have HTT := Lib.hid hT
  clear hT
  have HXA := Lib.hid h
  obtain ⟨k0, _, _⟩ := h.cells
  have hh := hasOf_calls h.ok.of m now w h.bk
  rw [show hasA X.B now = ((X.B.adv now).k0.has, (X.B.adv now).k1.has, 0) from if_pos hm] at hh
  have HH := Lib.hid hh
  have HOK := Lib.hid h.ok
  have hln := h.ok.len
  have hmx : Try.prog.follows .mixedOrders = true := by kernel_rfl
  clear h hh hm
  go_enter Try.func12, Try.ntmps12
  go_wp2_with fail
  refine wp_scope_straight ?_
  go_wp2_with (first
    | (go_at_call 27; refine HN.out.mono ?_; rintro e w5 ⟨rfl, rfl⟩)
    | (go_at_call 30; refine HH.out.mono ?_; rintro e w5 ⟨rfl, hf5⟩))
  have HX5 := Lib.hid HXA.out
  have HF5 := Lib.hid hf5
  clear hf5 k0 HH
  try (refine wp_label ?_)
  go_wp2_with fail
  go_loopw [9] (fun v wr => ∃ (k : Nat) (B : Bk) (A' : Option Addr) (c' : Nat) (A : Option Addr) (c : Nat), k ≤ X.L.length ∧ v = .slice A' k c' ∧ Hid (wr.ownsRow w.heap.size 33 2 v k (sends (X.L.take k))) ∧ Hid (IsShAt wr b m A c (goX X now k B)) ∧ Hid (Rd (GoT T b m w.heap.size) wr A (sends (X.L.drop k))) ∧ Hid (Fr (ShS b m) w wr) ∧ Hid (B.may now) ∧ Hid (0 < k → B.now = now) ∧ Hid (goN X.s now X.t X.L = k + goN X.s now (X.t ++ tag now (X.L.take k)) (X.L.drop k)) ∧ Hid (w.heap.size ≤ wr.heap.size)) (fun v _ => X.L.length - vlen v)
  case atStart => exact ⟨0, X.B, none, 0, A, c, Nat.zero_le _, rfl, own_nil _ _ _ _, by rw [goX_zero]; exact HX5.out.kept HF5.out, ((HX5.out.ls.rd.both HTT.out).mono (T := GoT T b m w.heap.size) (fun q hq e => e.elim (fun h => h) (fun h => absurd hq (by omega)))).kept (Fr0.any HF5.out), HF5.out.any, HM.out, fun h => absurd h (Nat.lt_irrefl _), by simp [Hid, tag], HF5.out.size⟩
  case round =>
    obtain ⟨k, B, A', c', A, c, hk, rfl, HO, HS, HRT, HF, HB, HNW, HG, HSZ⟩ := hrel
    have hS := HS.out
    have HLT := Lib.hid HX.out.lt
    have hcap := hS.ls.cap
    rw [goX_len] at hcap
    obtain ⟨e0, e1, e2⟩ := hS.cells
    rw [goX_len] at e2
    have hof : BkOf X.s (X.t ++ tag now (X.L.take k)) B := hS.ok.of
    have hbk : IsBk wr m B := hS.bk
    have HSA := Lib.hid hS
    by_cases hlt : k < X.L.length
    · obtain ⟨n, hn⟩ : ∃ n, X.L.length - k = n + 1 := ⟨X.L.length - k - 1, by omega⟩
      have hn0 : (0 : Int) < (n : Int) + 1 := by omega
      rw [hn] at e2 hcap
      have hrd : Rd (ShS b m) wr A (sends (X.L.drop k)) := hS.ls.rd
      obtain ⟨g, off, rfl⟩ := hrd.some_ (by rw [sends_length, List.length_drop]; omega)
      obtain ⟨d0, d1⟩ := rdl_cells hrd 0 (by rw [List.length_drop]; omega)
      rw [(at_drop X.L k hlt).1] at d0
      rw [(at_drop X.L k hlt).2] at d1
      simp only [Nat.zero_mul, Nat.add_zero] at d0 d1
      have ht := takeOf_calls hof m now (sz_ X.L k) wr.drew hbk
      rw [show askA B now = 0 from if_pos HB.out] at ht
      by_cases hkp : Keeps X.s ((X.t ++ tag now (X.L.take k)) ++ [(now, sz_ X.L k)])
      · obtain ⟨hok, hof2⟩ := tk_yes hof HB.out hkp
        rw [decide_eq_true hok] at ht
        have HT := Lib.hid ht
        have HOF := Lib.hid hof2
        have HGS := Lib.hid (goN_step X.s now X.t X.L k hlt)
        have HKP := Lib.hid hkp
        clear ht hof hbk hS hok hof2 hkp
        go_wp2_with fail
        replace e0 : wr.drew.cell? ⟨b, 0, none⟩ = _ := e0
        replace e2 : wr.drew.cell? ⟨b, 2, none⟩ = _ := e2
        replace d1 : wr.drew.cell? ⟨g, off + 1, none⟩ = _ := d1
        go_region_law ((go_simp; go_at_call 31; (with_reducible refine HT.out.mono ?_); rintro e w3 ⟨rfl, hb3, hf3⟩))
        all_goals go_wp2_with fail
        all_goals
          have hfm := (Fr.refl (· = m) wr).drew.trans hf3
          have HS3 := Lib.hid (HSA.out.bkt hb3 hfm HOF.out)
          have HO3 := Lib.hid (own_kept HO.out hfm (fun q hq e => by have h1 := (own_blk HO.out hq).1; have h2 := HLT.out.2; omega))
          have HSZ3 := Lib.hid (show w.heap.size ≤ w3.heap.size from Nat.le_trans HSZ.out hf3.size)
          have HF3 := Lib.hid (HF.out.trans (hfm.mono (T := ShS b m) (fun q _ e => .inr e)))
          have HR3 := Lib.hid (HRT.out.kept (hfm.mono (T := GoT T b m w.heap.size) (fun q _ e => .inl (.inl (.inr e)))))
          have HNT := Lib.hid (not_T hlt HR3.out)
          have HOB := Lib.hid (fun q (e : some q = (Value.slice A' k c').ownBlock) => (show w.heap.size ≤ q from (own_blk HO3.out e.symm).1))
          have HKK := Lib.hid (fun U (hf : Fr (fun q => some q = (Value.slice A' k c').ownBlock) w3 U) => (show U.cell? ⟨b, 2, none⟩ = some (.slice (some ⟨g, off, none⟩) (n + 1) c) ∧ U.frozen? ⟨b, 2, none⟩ = false ∧ U.cell? ⟨g, off, none⟩ = some (.int .i64 (at_ X.L k)) ∧ U.cell? ⟨g, off + 1, none⟩ = some (.int .i64 (sz_ X.L k)) from by
            have n1 : ¬ some b = (Value.slice A' k c').ownBlock := fun e => by have h1 := HOB.out _ e; have h2 := HLT.out.1; omega
            have n2 : ¬ some g = (Value.slice A' k c').ownBlock := fun e => HNT.out (.inr (HOB.out _ e))
            have hb3' := hf.blk HS3.out.blk n1
            have q0 := rdl_cells HR3.out 0 (by rw [List.length_drop]; omega)
            rw [(at_drop X.L k hlt).1, (at_drop X.L k hlt).2] at q0
            simp only [Nat.zero_mul, Nat.add_zero] at q0
            refine ⟨?_, free_of_blk hb3' 2, hf.cell q0.1 n2, hf.cell q0.2 n2⟩
            have := cell_of_blk hb3' 2
            rw [this]
            show some (Value.slice _ (X.L.drop k).length c) = _
            rw [List.length_drop, hn]))
          obtain ⟨x0, x1, x2, x3⟩ := HKK.out _ (Fr.refl _ w3)
          obtain ⟨y0, y1, y2, y3⟩ := HKK.out _ (Fr.refl _ w3).drew
          have z0 := fun o => (HKK.out _ ((Fr.refl _ w3).alloc o)).1
          have z1 := fun o => (HKK.out _ ((Fr.refl _ w3).alloc o).drew).1
          clear hb3 hf3
          obtain ⟨hcp1, hcp2⟩ := hcap
          unfold maxLen at hcp2
          have hs1 : (1 : Int) ≤ (n : Int) + 1 := by omega
          go_region_law ((first
            | (refine step_app rfl (.tmp 52) (.tmp 59) _ rfl Try.underlying30 wt_elem (base := w.heap.size) (.slice A' k c') k (sends (X.L.take k)) rfl (own_kept0 HO3.out (by first | exact ((Fr.refl _ w3).alloc _).drew | exact (Fr.refl _ w3).drew.alloc _)) (fun _ => False) _ 1 1 (sends [(at_ X.L k, sz_ X.L k)]) rfl (by first | exact ((rd_wt1 (fun _ => False) w3 (at_ X.L k, sz_ X.L k) _ (fun h => h)).kept (Fr.refl _ _).drew) | exact (rd_wt1 (fun _ => False) w3.drew (at_ X.L k, sz_ X.L k) _ (fun h => h))) rfl (sends_one' _) (by simp only [maxLen]; omega) (by omega) (by have := HSZ3.out; simp; omega) (by simp) ?_; intro v6 w6 hown hg hat; obtain ⟨g6, c6, hv6, hg6, hgl6⟩ := hown.form (by omega); subst hv6; have hgr : Fr (fun q => some q = (Value.slice A' k c').ownBlock) w3 w6 := (by first | exact (Fr0.any ((Fr.refl _ w3).alloc _).drew).grown hg (fun q _ e => e.symm) | exact (Fr0.any ((Fr.refl _ w3).drew.alloc _)).grown hg (fun q _ e => e.symm)); obtain ⟨x0, x1, x2, x3⟩ := HKK.out _ hgr)))
          all_goals
            have HTL := Lib.hid (tail_rd2 hlt HR3.out c (by omega))
            have HA9 := Lib.hid (show (if c = 1 then some (⟨g, off, none⟩ : Addr) else some ⟨g, off + 2, none⟩) ≠ none by split <;> simp)
            generalize (if c = 1 then some (⟨g, off, none⟩ : Addr) else some ⟨g, off + 2, none⟩) = A9 at *
            have nb : ¬ some b = (Value.slice A' k c').ownBlock := fun e => by have h1 := HOB.out _ e; have h2 := HLT.out.1; omega
            have nm : ¬ some m = (Value.slice A' k c').ownBlock := fun e => by have h1 := HOB.out _ e; have h2 := HLT.out.2; omega
            have hgT := hgr.mono (T := GoT T b m w.heap.size) (fun q _ e => .inr (HOB.out q e))
            have HR6 := Lib.hid (HTL.out.kept hgT)
            have HS6 := Lib.hid (HS3.out.keptS hgr nb nm ((HR3.out.kept hgT).mono (fun _ _ h => .inl (.inl h))))
            have HF6 := Lib.hid (HF3.out.then hgr (fun q hq e => by have := HOB.out q e; omega))
            have HO6 := Lib.hid hown
            clear hgT hgr hown hat hg
            go_wp2_with fail
            go_roundw
            case rel =>
              have hst : sends (X.L.take (k + 1)) = sends (X.L.take k) ++ sends [(at_ X.L k, sz_ X.L k)] := by rw [take_snoc X.L k hlt]; simp [sends]
              refine ⟨k + 1, B.tk now (sz_ X.L k), some ⟨g6, 0, none⟩, c6, A9, c - 1, by omega, rfl, ?_, ?_, ?_, ?_, Bk.tk_may HB.out _, fun _ => Bk.tk_now HB.out _, ?_, ?_⟩
              · rw [hst]
                exact own_kept HO6.out ((Fr.refl (· = b) w6).setCell (p := ⟨b, 2, none⟩) (fun _ => rfl) _) (fun q hq e => by have h1 := (own_blk HO6.out hq).1; have h2 := HLT.out.1; omega)
              · exact HS6.out.put (X' := goX X now (k + 1) (B.tk now (sz_ X.L k))) (HR6.out.mono (fun _ _ h => .inl (.inl h))) (fun h => absurd h HA9.out) (by rw [goX_len]; omega) (by unfold maxLen; omega) rfl rfl (HOK.out.go (by rw [← tag_snoc now X.t X.L k hlt]; exact HOF.out))
              · exact HR6.out.kept ((Fr.refl (GoT T b m w.heap.size) w6).setCell (p := ⟨b, 2, none⟩) (fun _ => .inl (.inl (.inl rfl))) _)
              · exact HF6.out.setCell (p := ⟨b, 2, none⟩) (fun _ => .inl rfl) _
              · show goN X.s now X.t X.L = k + 1 + _
                rw [HG.out, HGS.out, if_pos (by rw [← tag_snoc now X.t X.L k hlt]; exact HKP.out)]
                omega
              · exact Nat.le_trans HF6.out.size (by simp)
            case measure => simp only [vlen]; omega
      · obtain ⟨hok, hof2⟩ := tk_no hof HB.out hkp
        rw [decide_eq_false hok] at ht
        have HT := Lib.hid ht
        have HOF := Lib.hid hof2
        have HGS := Lib.hid (show goN X.s now X.t X.L = k from by
          rw [HG.out, goN_step X.s now X.t X.L k hlt, if_neg (by rw [← tag_snoc now X.t X.L k hlt]; exact hkp)]
          rfl)
        clear ht hof hbk hS hok hof2 hkp
        by_cases hk0 : k = 0
        · subst hk0
          go_wp2_with fail
          replace e0 : wr.drew.cell? ⟨b, 0, none⟩ = _ := e0
          replace e2 : wr.drew.cell? ⟨b, 2, none⟩ = _ := e2
          replace d1 : wr.drew.cell? ⟨g, off + 1, none⟩ = _ := d1
          go_region_law ((go_simp; go_at_call 31; (with_reducible refine HT.out.mono ?_); rintro e w3 ⟨rfl, hb3, hf3⟩))
          all_goals
            have hfm := (Fr.refl (· = m) wr).drew.trans hf3
            have HS3 := Lib.hid (HSA.out.bkt hb3 hfm HOF.out)
            have HF3 := Lib.hid (HF.out.trans (hfm.mono (T := ShS b m) (fun q _ e => .inr e)))
            have HO3 := Lib.hid (own_kept HO.out hfm (fun q hq e => by have h1 := (own_blk HO.out hq).1; have h2 := HLT.out.2; omega))
            have t0 : w3.cell? ⟨b, 0, none⟩ = some (.pointer (some ⟨m, 0, none⟩)) := HS3.out.cells.c0
            obtain ⟨hno, hof3⟩ := take0 HOF.out (Bk.tk_may HB.out (sz_ X.L 0))
            have ht2 := takeOf_calls HOF.out m now 0 w3 hb3
            rw [decide_eq_false hno, show askA _ now = 0 from if_pos (Bk.tk_may HB.out (sz_ X.L 0))] at ht2
            have HT2 := Lib.hid ht2
            have HOF3 := Lib.hid hof3
            have HB3N := Lib.hid (Bk.tk_now (Bk.tk_may HB.out (sz_ X.L 0)) 0)
            clear ht2 hno hof3
            go_wp2_with (go_at_call 31; refine HT2.out.mono ?_; rintro e w4 ⟨rfl, hb4, hf4⟩)
            change bodyPost _ _ _ Exit.ret _ _
            go_ret2
            rw [HPOST.out, HGS.out]
            refine ⟨_, _, rfl, ?_, HB3N.out, ⟨_, _, HS3.out.bkt hb4 hf4 HOF3.out, ((HRT.out.kept (hfm.mono (T := GoT T b m w.heap.size) (fun q _ e => .inl (.inl (.inr e))))).kept (hf4.mono (T := GoT T b m w.heap.size) (fun q _ e => .inl (.inl (.inr e))))).mono (fun _ _ h => .inl (.inr h))⟩, HF3.out.trans (hf4.mono (fun q _ e => .inr e))⟩
            exact own_kept HO3.out hf4 (fun q hq e => by have h1 := (own_blk HO3.out hq).1; have h2 := HLT.out.2; omega)
        · have hk1 : ((k : Int) == 0) = false := by simp; omega
          have HNW2 := Lib.hid (Bk.tk_now HB.out (sz_ X.L k))
          go_wp2_with fail
          replace e0 : wr.drew.cell? ⟨b, 0, none⟩ = _ := e0
          replace e2 : wr.drew.cell? ⟨b, 2, none⟩ = _ := e2
          replace d1 : wr.drew.cell? ⟨g, off + 1, none⟩ = _ := d1
          go_region_law ((go_simp; go_at_call 31; (with_reducible refine HT.out.mono ?_); rintro e w3 ⟨rfl, hb3, hf3⟩))
          all_goals go_wp2_with fail
          all_goals
            have hfm := (Fr.refl (· = m) wr).drew.trans hf3
            have HS3 := Lib.hid (HSA.out.bkt hb3 hfm HOF.out)
            have HF3 := Lib.hid (HF.out.trans (hfm.mono (T := ShS b m) (fun q _ e => .inr e)))
            have HO3 := Lib.hid (own_kept HO.out hfm (fun q hq e => by have h1 := (own_blk HO.out hq).1; have h2 := HLT.out.2; omega))
            change bodyPost _ _ _ Exit.ret _ _
            go_ret2
            rw [HPOST.out, HGS.out]
            refine ⟨_, _, rfl, ?_, HNW2.out, ⟨_, _, HS3.out, (HRT.out.kept (hfm.mono (T := GoT T b m w.heap.size) (fun q _ e => .inl (.inl (.inr e))))).mono (fun _ _ h => .inl (.inr h))⟩, HF3.out⟩
            show w3.ownsRow _ _ _ _ (X.L.take k).length _
            rw [List.length_take, Nat.min_eq_left hk]
            exact HO3.out
    · have hkl : k = X.L.length := by omega
      have HGS := Lib.hid (show goN X.s now X.t X.L = k from by
        rw [HG.out, hkl, goN_done]
        rfl)
      have hn : X.L.length - k = 0 := by omega
      rw [hn] at e2
      clear hkl hlt
      by_cases hk0 : k = 0
      · subst hk0
        have HS3 := HSA
        have HF3 := HF
        have HO3 := HO
        clear HS hS
        have t0 : wr.cell? ⟨b, 0, none⟩ = some (.pointer (some ⟨m, 0, none⟩)) := HS3.out.cells.c0
        obtain ⟨hno, hof3⟩ := take0 hof HB.out
        have ht2 := takeOf_calls hof m now 0 wr hbk
        rw [decide_eq_false hno, show askA _ now = 0 from if_pos HB.out] at ht2
        have HT2 := Lib.hid ht2
        have HOF3 := Lib.hid hof3
        have HB3N := Lib.hid (Bk.tk_now HB.out 0)
        clear ht2 hno hof3
        go_wp2_with (go_at_call 31; refine HT2.out.mono ?_; rintro e w4 ⟨rfl, hb4, hf4⟩)
        change bodyPost _ _ _ Exit.ret _ _
        go_ret2
        rw [HPOST.out, HGS.out]
        refine ⟨_, _, rfl, ?_, HB3N.out, ⟨_, _, HS3.out.bkt hb4 hf4 HOF3.out, (HRT.out.kept (hf4.mono (T := GoT T b m w.heap.size) (fun q _ e => .inl (.inl (.inr e))))).mono (fun _ _ h => .inl (.inr h))⟩, HF3.out.trans (hf4.mono (fun q _ e => .inr e))⟩
        exact own_kept HO3.out hf4 (fun q hq e => by have h1 := (own_blk HO3.out hq).1; have h2 := HLT.out.2; omega)
      · have hk1 : ((k : Int) == 0) = false := by simp; omega
        clear HS hS
        go_wp2_with fail
        change bodyPost _ _ _ Exit.ret _ _
        go_ret2
        rw [HPOST.out, HGS.out]
        refine ⟨_, _, rfl, ?_, HNW.out (by omega), ⟨_, _, HSA.out, HRT.out.mono (fun _ _ h => .inl (.inr h))⟩, HF.out⟩
        show wr.ownsRow _ _ _ _ (X.L.take k).length _
        rw [List.length_take, Nat.min_eq_left hk]
        exact HO.out
theorem sgo_yes (b m : Nat) (X : Sh) (now : Int) (w : World) (h : IsSh w b m X) (hm : X.B.may now) :
    Calls Try.prog 12 #[.pointer (some ⟨b, 0, none⟩), .int .i64 now] w (GoPost b m X now w) :=
  (sgo_yesT _ b m X now w h.t0 hm).mono fun _ _ h => h.old
end Go.Proofs.Ytmnadploikcljaa
