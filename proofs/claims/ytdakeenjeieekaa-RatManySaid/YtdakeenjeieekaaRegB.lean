/- A region that draws its order: some moves that only the tail awaits are taken first; then a head that is quiet in a class of worlds; then a forced tail. No program in sight. -/
import Derived.Test.YtdakeenjeieekaaRegion
set_option linter.unusedVariables false
set_option linter.unusedSimpArgs false
namespace Go.Proofs.Ytdakeenjeieekaa
open Go.RowKit

section
variable {P : Program} {ops : Array Oper} {md : Region.Mode} {C : World → Prop}

def masked : List Bool → List Oper → List Oper
  | true :: ms, o :: l => o :: masked ms l
  | false :: ms, _ :: l => masked ms l
  | _, _ => []
def unmasked : List Bool → List Oper → List Oper
  | true :: ms, _ :: l => unmasked ms l
  | false :: ms, o :: l => o :: unmasked ms l
  | _, _ => []
/-- Every operation of the head is masked or is awaited below or at n. -/
def sinkM (md : Region.Mode) (ops : Array Oper) (ms : List Bool) (n : Nat) : Bool :=
  (List.range n).all fun i => ms.getD i false || (List.range (n + 1)).any fun j => decide (i < j) && Region.waitsFor md ops j i
def lexPre (md : Region.Mode) (ops : Array Oper) (K : Array Bool → Bool) : List Bool → Nat → Array Bool → Bool
  | [], _, listed => K listed
  | true :: ms, k, listed => (Region.ready md ops listed).contains k && Region.free md ops listed k && lexPre md ops K ms (k + 1) (listed.setIfInBounds k true)
  | false :: ms, k, listed => lexPre md ops K ms (k + 1) listed
def lexRest (md : Region.Mode) (ops : Array Oper) (K : Array Bool → Bool) : List Bool → Nat → Array Bool → Bool
  | [], _, listed => K listed
  | false :: ms, k, listed => (Region.ready md ops listed).contains k && Region.free md ops listed k && lexRest md ops K ms (k + 1) (listed.setIfInBounds k true)
  | true :: ms, k, listed => lexRest md ops K ms (k + 1) listed
def preTailB (md : Region.Mode) (ops : Array Oper) (ms : List Bool) : Bool :=
  Region.noSelect ops && decide (ms.length < ops.size) && sinkM md ops ms ms.length && Region.chainB md ops ms.length &&
    lexPre md ops (lexRest md ops (Region.seqB md ops (ops.size - ms.length) ms.length) ms 0) ms 0 (Array.replicate ops.size false)

/-- Moves, one behind the other. -/
def wpMoves (L : Act → Prop) : List Oper → Act → Prop
  | [], a => L a
  | o :: l, a => ∃ x, o.op = .move x ∧ o.guard = none ∧ wpMoves L l (a.put o.dst (a.eval x))
theorem wpMoves_nil {L : Act → Prop} {a : Act} (h : L a) : wpMoves L [] a := h
/-- All masked operations have come up. -/
def MaskIn (ms : List Bool) (listed : Array Bool) : Prop := ∀ i, ms.getD i false = true → listed.getD i false = true

theorem tail_waitsM {n : Nat} {ms : List Bool} {listed : Array Bool} (hs : sinkM md ops ms n = true) (hc : Region.chainB md ops n = true) (hn : n < ops.size) (inv : HeadInv md ops n listed) (hm : MaskIn ms listed) :
    ∀ (d i : Nat), n - i = d → i < n → listed.getD i true = false → ∀ t, n ≤ t → t ∉ Region.ready md ops listed := by
  intro d
  induction d using Nat.strongRecOn with
  | _ d ih =>
    intro i hd hi hun t ht hr
    obtain ⟨_, ot, hot, hall⟩ := mem_ready.1 hr
    have htlt : t < ops.size := (Array.getElem?_eq_some_iff.1 hot).1
    by_cases htn : t = n
    · subst htn
      have h1 := List.all_eq_true.1 hs i (List.mem_range.2 hi)
      simp only [Bool.or_eq_true] at h1
      rcases h1 with h1 | h1
      · have := hm i h1
        rw [getD_both hun] at this
        cases this
      obtain ⟨j, hj, hj2⟩ := List.any_eq_true.1 h1
      simp only [Bool.and_eq_true, decide_eq_true_eq] at hj2
      obtain ⟨oj, hoj, e, he, hb, hon⟩ := Region.waitsFor_spec hj2.2
      have hjle : j ≤ t := by have := List.mem_range.1 hj; omega
      by_cases hjt : j = t
      · subst hjt
        have : oj = ot := Option.some.inj (hoj.symm.trans hot)
        subst this
        have h2 := hall e he hb
        rw [hon, getD_both hun] at h2
        cases h2
      · cases hl : listed.getD j false with
        | true =>
          have h2 := inv.closed j oj hoj hl e he hb
          rw [hon, getD_both hun] at h2
          cases h2
        | false =>
          have hjs : j < listed.size := by rw [inv.size]; omega
          exact ih (t - j) (by omega) j rfl (by omega) (getD_in hjs hl) t (Nat.le_refl _) hr
    · have h1 := List.all_eq_true.1 hc t (List.mem_range.2 htlt)
      simp only [Bool.or_eq_true, decide_eq_true_eq] at h1
      rcases h1 with h1 | h1
      · omega
      · obtain ⟨o', ho', e, he, hb, hon⟩ := Region.waitsFor_spec h1
        have : o' = ot := Option.some.inj (ho'.symm.trans hot)
        subst this
        have h2 := hall e he hb
        rw [hon, getD_both (inv.tail (t - 1) (by omega) (by omega))] at h2
        cases h2

theorem MaskIn.set {ms : List Bool} {listed : Array Bool} (h : MaskIn ms listed) (i : Nat) : MaskIn ms (listed.setIfInBounds i true) := fun j hj => getD_set_true (h j hj)

theorem headM_first {n i : Nat} {ms : List Bool} {oi : Oper} {v : Value} {L : Array Bool → Act → Prop} (hi : ops[i]? = some oi) (hsel : ∀ (j : Nat) (o : Oper) cs b, ops[j]? = some o → o.op ≠ .select cs b)
    (hs : sinkM md ops ms n = true) (hc : Region.chainB md ops n = true) (hn : n < ops.size) (hin : i < n)
    (hdone : ∀ listed a, L listed a → ∀ j ∈ Region.ready md ops listed, n ≤ j) (f : Nat) :
    ∀ (listed : Array Bool) (a : Act), HeadInv md ops n listed → MaskIn ms listed →
      (∀ j oj, ops[j]? = some oj → j ≠ i → listed.getD j true = false → (∀ e ∈ oj.after, Region.binds md e = true → e.on ≠ i) → oi.apart ops oj = true) →
      i ∈ Region.ready md ops listed → YieldsIn P ops C oi v a →
      anyHead P md ops C n L f (listed.setIfInBounds i true) (a.put oi.dst v) → anyHead P md ops C n L (f + 1) listed a := by
  induction f with
  | zero =>
    intro listed a inv hm _ hr hy H
    refine ⟨fun h => (by rw [h] at hr; cases hr), fun j hj => ?_⟩
    have hjn : j < n := Nat.lt_of_not_le fun h => absurd hj (tail_waitsM hs hc hn inv hm _ i rfl hin (mem_ready.1 hr).1 j h)
    refine ⟨hjn, ?_⟩
    by_cases hji : j = i
    · subst hji; exact hy.qOp hi H
    · have := hdone _ _ H j (ready_mono hj hji)
      omega
  | succ f ih =>
    intro listed a inv hm hfree hr hy H
    refine ⟨fun h => (by rw [h] at hr; cases hr), fun j hj => ?_⟩
    have hun := (mem_ready.1 hr).1
    have hjn : j < n := Nat.lt_of_not_le fun h => absurd hj (tail_waitsM hs hc hn inv hm _ i rfl hin hun j h)
    refine ⟨hjn, ?_⟩
    by_cases hji : j = i
    · subst hji; exact hy.qOp hi H
    · obtain ⟨hjun, oj, hoj, hall⟩ := mem_ready.1 hj
      have hnot : ∀ e ∈ oj.after, Region.binds md e = true → e.on ≠ i := fun e he hb heq => by
        have h1 := hall e he hb
        rw [heq, getD_both hun] at h1
        cases h1
      have h2 := qOp_put hoj (hfree j oj hoj hji hjun hnot) (fun cs b => hsel i oi cs b hi) (fun cs b => hsel j oj cs b hoj) hy (H.2 j (ready_mono hj hji)).2
      refine qOp_mono (fun a' h3 => ih (listed.setIfInBounds j true) a' (inv.set hj hjn) (hm.set j) (fun k ok hk hki hu hno => hfree k ok hk hki ?_ hno) (ready_mono hr (Ne.symm hji)) h3.1 ?_) h2
      · by_cases hjk : j = k
        · subst hjk; exact hjun
        · rwa [getD_set_ne true hjk] at hu
      · rw [Array.setIfInBounds_comm _ _ hji]
        exact h3.2

def falses : List Bool → Nat
  | [] => 0
  | true :: ms => falses ms
  | false :: ms => falses ms + 1
def trues : List Bool → Nat
  | [] => 0
  | true :: ms => trues ms + 1
  | false :: ms => trues ms

theorem headM_lex {n : Nat} {Lq : Act → Prop} {K : Array Bool → Bool} {ms0 : List Bool} (hsel : Region.noSelect ops = true) (hs : sinkM md ops ms0 n = true) (hc : Region.chainB md ops n = true) (hn : n < ops.size)
    (hK : ∀ listed, K listed = true → ∀ j ∈ Region.ready md ops listed, n ≤ j) :
    ∀ (ms : List Bool) (l : List Oper) (k : Nat) (listed : Array Bool) (a : Act), (∀ j, j < ms.length → l[j]? = ops[k + j]?) → k + ms.length = n → HeadInv md ops n listed → MaskIn ms0 listed →
    lexRest md ops K ms k listed = true → wpQuiet P ops C Lq (unmasked ms l) a →
    anyHead P md ops C n (fun listed' a' => K listed' = true ∧ Lq a') (falses ms) listed a
  | [], l, k, listed, a, _, _, _, _, hB, h => by
    refine ⟨by simpa [lexRest] using hB, ?_⟩
    cases l <;> exact h
  | true :: ms, l, k, listed, a, hl, hk, inv, hm, hB, h => by
    simp only [List.length_cons] at hk hl
    cases l with
    | nil =>
      have := hl 0 (by omega)
      simp at this
      omega
    | cons o l =>
      exact headM_lex hsel hs hc hn hK ms l (k + 1) listed a (fun j hj => by have := hl (j + 1) (by omega); simpa [Nat.add_assoc, Nat.add_comm 1 j] using this) (by omega) inv hm hB h
  | false :: ms, l, k, listed, a, hl, hk, inv, hm, hB, h => by
    simp only [List.length_cons] at hk hl
    cases l with
    | nil =>
      have := hl 0 (by omega)
      simp at this
      omega
    | cons o l =>
      have h0 : ops[k]? = some o := by simpa using (hl 0 (by omega)).symm
      simp only [lexRest, Bool.and_eq_true] at hB
      obtain ⟨⟨hr, hf⟩, hB'⟩ := hB
      have hkn : k < n := by omega
      have hr' : k ∈ Region.ready md ops listed := by simpa using hr
      obtain ⟨v, hy, hK'⟩ := yieldsIn_of_qOp h0 (show qOp P ops C k (wpQuiet P ops C Lq (unmasked ms l)) a by unfold qOp; simp only [h0]; exact h)
      exact headM_first h0 (Region.noSelect_spec hsel) hs hc hn hkn (fun listed' a' hL => hK _ hL.1) (falses ms) listed a inv hm (Region.free_spec h0 hf) hr' hy
        (headM_lex hsel hs hc hn hK ms l (k + 1) _ _ (fun j hj => by have := hl (j + 1) (by omega); simpa [Nat.add_assoc, Nat.add_comm 1 j] using this) (by omega) (inv.set hr' hkn) (hm.set k) hB' hK')

/-- The moves taken first. -/
theorem pre_lex {Q : Exit → Act → World → Prop} {n : Nat} {K : Array Bool → Bool} {L : Act → Prop} {w : World} {ms0 : List Bool} (hsel : Region.noSelect ops = true) (hn : n < ops.size)
    (hQ : ∀ c a d v w, Q (.panic c) (a.put d v) w → Q (.panic c) a w) (fuel : Nat)
    (hK : ∀ listed a, HeadInv md ops n listed → MaskIn ms0 listed → K listed = true → L a → wpAny P md ops Q fuel listed a w) :
    ∀ (ms : List Bool) (l : List Oper) (k : Nat) (listed : Array Bool) (a : Act), (∀ j, j < ms.length → l[j]? = ops[k + j]?) → k + ms.length = n → HeadInv md ops n listed →
    (∀ i, ms0.getD i false = true → i < k → listed.getD i false = true) → (∀ j, ms0.getD (k + j) false = ms.getD j false) →
    lexPre md ops K ms k listed = true → wpMoves L (masked ms l) a →
    wpAny P md ops Q (trues ms + fuel) listed a w
  | [], l, k, listed, a, _, hk, inv, hm, hms, hB, h => by
    rw [show trues [] + fuel = fuel by simp [trues]]
    refine hK _ _ inv (fun i hi => ?_) hB (by cases l <;> exact h)
    by_cases hik : i < k
    · exact hm i hi hik
    · have := hms (i - k)
      rw [show k + (i - k) = i by omega, hi] at this
      simp at this
  | false :: ms, l, k, listed, a, hl, hk, inv, hm, hms, hB, h => by
    simp only [List.length_cons] at hk hl
    cases l with
    | nil =>
      have := hl 0 (by omega)
      simp at this
      omega
    | cons o l =>
      refine pre_lex hsel hn hQ fuel hK ms l (k + 1) listed a (fun j hj => by have := hl (j + 1) (by omega); simpa [Nat.add_assoc, Nat.add_comm 1 j] using this) (by omega) inv (fun i hi hik => ?_) (fun j => ?_) hB h
      · by_cases hik' : i < k
        · exact hm i hi hik'
        · have := hms 0
          rw [show k + 0 = i by omega, hi] at this
          simp at this
      · have := hms (j + 1)
        rw [show k + 1 + j = k + (j + 1) by omega, this]
        simp
  | true :: ms, l, k, listed, a, hl, hk, inv, hm, hms, hB, h => by
    simp only [List.length_cons] at hk hl
    cases l with
    | nil =>
      have := hl 0 (by omega)
      simp at this
      omega
    | cons o l =>
      have h0 : ops[k]? = some o := by simpa using (hl 0 (by omega)).symm
      simp only [lexPre, Bool.and_eq_true] at hB
      obtain ⟨⟨hr, hf⟩, hB'⟩ := hB
      have hkn : k < n := by omega
      have hr' : k ∈ Region.ready md ops listed := by simpa using hr
      obtain ⟨x, hx, hg, hK'⟩ := h
      have hyy : Yields P ops o (a.eval x) a := .inl ⟨by simp [Region.wanted, hg], fun w => by unfold execOp; rw [hx]; rfl⟩
      rw [show trues (true :: ms) + fuel = (trues ms + fuel) + 1 by simp only [trues]; omega]
      refine wpAny_take h0 hsel hf hr (fun c a w hq => hQ _ _ _ _ _ hq) hyy ?_
      refine pre_lex hsel hn hQ fuel hK ms l (k + 1) _ _ (fun j hj => by have := hl (j + 1) (by omega); simpa [Nat.add_assoc, Nat.add_comm 1 j] using this) (by omega) (inv.set hr' hkn) (fun i hi hik => ?_) (fun j => ?_) hB' hK'
      · by_cases hik' : i = k
        · subst hik'
          have hlt : i < listed.size := by rw [inv.size]; omega
          simp [Array.getElem?_setIfInBounds, hlt]
        · exact getD_set_true (hm i hi (by omega))
      · have := hms (j + 1)
        rw [show k + 1 + j = k + (j + 1) by omega, this]
        simp

theorem trues_falses : ∀ ms : List Bool, trues ms + falses ms = ms.length
  | [] => rfl
  | true :: ms => by simp only [trues, falses, List.length_cons]; have := trues_falses ms; omega
  | false :: ms => by simp only [trues, falses, List.length_cons]; have := trues_falses ms; omega

/-- A region that draws: moves that the tail alone awaits (true in the mask), a head that is quiet in the class C, a forced tail. -/
theorem any_of_masked {Q : Exit → Act → World → Prop} {a : Act} {w : World} {l : List Oper} (ms : List Bool) (hB : preTailB .any l.toArray ms = true) (hQ : ∀ c a d v w, Q (.panic c) (a.put d v) w → Q (.panic c) a w) (hw : C w)
    (h : wpMoves (fun a1 => wpQuiet P l.toArray C (fun a' => ∀ w', C w' → wpList P l.toArray Q (l.drop ms.length) a' w') (unmasked ms l) a1) (masked ms l) a) : wpAny P .any l.toArray Q l.toArray.size (Array.replicate l.toArray.size false) a w := by
  simp only [preTailB, Bool.and_eq_true, decide_eq_true_eq] at hB
  obtain ⟨⟨⟨⟨hsel, hn⟩, hs⟩, hc⟩, hlex⟩ := hB
  have hn' : ms.length < l.length := by simpa using hn
  have hdl : (l.drop ms.length).length = l.toArray.size - ms.length := by simp
  have hidx : ∀ j, j < ms.length → l[j]? = l.toArray[0 + j]? := fun j _ => by simp
  have inv0 : HeadInv .any l.toArray ms.length (Array.replicate l.toArray.size false) :=
    ⟨by simp, fun j oj _ hl => (by rw [getD_replicate_false] at hl; cases hl), fun t _ ht => getD_in (by simpa using ht) (getD_replicate_false _ _)⟩
  have e : l.toArray.size = trues ms + (falses ms + (l.toArray.size - ms.length)) := by have := trues_falses ms; omega
  rw [show wpAny P .any l.toArray Q l.toArray.size (Array.replicate l.toArray.size false) a w = wpAny P .any l.toArray Q (trues ms + (falses ms + (l.toArray.size - ms.length))) (Array.replicate l.toArray.size false) a w by rw [← e]]
  refine pre_lex (ms0 := ms) hsel hn hQ _ (fun listed a1 inv hm hK hL => ?_) ms l 0 _ a hidx (by omega) inv0 (fun i _ h => absurd h (by omega)) (fun j => by rw [Nat.zero_add]) hlex h
  have H := headM_lex (md := .any) (n := ms.length) (ms0 := ms) hsel hs hc hn (fun listed' h => seqB_ready h) ms l 0 listed a1 hidx (by omega) inv hm hK hL
  exact any_of_head (Q := Q) (g := l.toArray.size - ms.length) (fun listed' a' hL' w' hw' => by
    have := wpAny_of_seq (md := .any) (Q' := Q) (l.drop ms.length) ms.length listed' a' w' (fun j => by simp [List.getElem?_drop]) (by rw [hdl]; exact hL'.1) (hL'.2 w' hw')
    rwa [hdl] at this) _ _ _ H w hw

/-- No panic is let out. -/
def noPanic (Q : Exit → Act → World → Prop) : Exit → Act → World → Prop
  | .panic _, _, _ => False
  | e, a, w => Q e a w
theorem noPanic_normal {Q : Exit → Act → World → Prop} {a : Act} {w : World} (h : Q .normal a w) : noPanic Q .normal a w := h
theorem noPanic_le {Q : Exit → Act → World → Prop} (e : Exit) (a : Act) (w : World) (h : noPanic Q e a w) : Q e a w := by
  cases e <;> first | exact h | exact h.elim

theorem wp_leQ {o : Oper} {a : Act} {w : World} {K : Act → World → Prop} {Q Q' : Exit → Act → World → Prop} (hQ : ∀ e a w, Q e a w → Q' e a w) (hh : o.wp P a w K Q) : o.wp P a w K Q' := by
  unfold Oper.wp at *
  generalize (execOp a.eval o).run P w = r at *
  cases r with
  | ok n w' =>
    cases n <;> simp only [Oper.upon] at hh ⊢ <;>
      first
        | exact hh
        | exact Calls.mono hh (fun e w'' he => by cases e <;> first | exact he | exact hQ _ _ _ he | exact (let ⟨a, w, h⟩ := he; ⟨a, w, hQ _ _ _ h⟩))
  | halt x w' => cases x <;> simp only [Oper.upon] at hh ⊢ <;> first | exact hh | exact hQ _ _ _ hh
theorem wpOp_leQ {i : Nat} {a : Act} {w : World} {K : Act → World → Prop} {Q Q' : Exit → Act → World → Prop} (hQ : ∀ e a w, Q e a w → Q' e a w) (hh : wpOp P ops Q i K a w) : wpOp P ops Q' i K a w := by
  unfold wpOp at *
  split
  · simpa [*] using hh
  · rename_i o ho
    simp only [ho] at hh
    split
    · rename_i hw; simp only [hw, if_true] at hh; exact hh.imp (wp_leQ hQ) (fun ⟨h1, a, w, h⟩ => ⟨h1, a, w, hQ _ _ _ h⟩)
    · rename_i hw; simp only [hw] at hh; exact hh
theorem wpAny_leQ {Q Q' : Exit → Act → World → Prop} (hQ : ∀ e a w, Q e a w → Q' e a w) : ∀ (f : Nat) (listed : Array Bool) (a : Act) (w : World), wpAny P md ops Q f listed a w → wpAny P md ops Q' f listed a w
  | 0, _, _, _, h => ⟨h.1, hQ _ _ _ h.2⟩
  | f + 1, _, _, _, h => ⟨fun h0 => hQ _ _ _ (h.1 h0), fun i hi => wpOp_mono (fun a w h => wpAny_leQ hQ f _ a w h) (wpOp_leQ hQ (h.2 i hi))⟩

theorem wp_region_masked {id : Nat} {Q : Exit → Act → World → Prop} {a : Act} {w : World} {l : List Oper} (C : World → Prop) (ms : List Bool) (hm : P.follows .mixedOrders = true) (hB : preTailB .any l.toArray ms = true) (hw : C w.drew)
    (h : wpMoves (fun a1 => wpQuiet P l.toArray C (fun a' => ∀ w', C w' → wpList P l.toArray (noPanic Q) (l.drop ms.length) a' w') (unmasked ms l) a1) (masked ms l) a) : (Code.region id l.toArray true).wp P Q a w :=
  wp_region_any hm (wpAny_leQ noPanic_le _ _ _ _ (any_of_masked ms hB (fun _ _ _ _ _ h => h) hw h))

/-- The same in a round of a range over a function. -/
theorem wpIn_region_masked {id r n : Nat} {Q : Exit → Act → World → Prop} {a : Act} {w : World} {l : List Oper} (C : World → Prop) (ms : List Bool) (hm : P.follows .mixedOrders = true) (hB : preTailB .any l.toArray ms = true) (hd : noDefer l = true) (hout : ¬ LetsOut Q) (hw : C w.drew)
    (h : wpMoves (fun a1 => wpQuiet P l.toArray C (fun a' => ∀ w', C w' → wpList P l.toArray (noPanic Q) (l.drop ms.length) a' w') (unmasked ms l) a1) (masked ms l) a) : (Code.region id l.toArray true).wpIn (Fence.wide.inRound r) n P Q a w :=
  wpIn_region_any hm (anyIn_of_any (by simpa using hd) hout _ _ _ _ (wpAny_leQ noPanic_le _ _ _ _ (any_of_masked ms hB (fun _ _ _ _ _ h => h) hw h)))
end
end Go.Proofs.Ytdakeenjeieekaa
