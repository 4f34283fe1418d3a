/- Regions in whatever order, in which memory is made and stored into beside calls that turn nothing: the operations that yield one value in every world in which the base lies unturned are taken first. No program in sight. -/
import Derived.Test.YtdakeenjeieekaaRegC
import Derived.Deep.RegionHeld
set_option linter.unusedVariables false
set_option linter.unusedSimpArgs false
namespace Go.Proofs.Ytdakeenjeieekaa
open Go.RowKit
section
variable {P : Program} {md : Region.Mode} {ops : Array Oper} {Q : Exit → Act → World → Prop} {R : World → Prop}

/-- In every world of R the operation leaves v and turns nothing. -/
def YG (P : Program) (ops : Array Oper) (R : World → Prop) (o : Oper) (v : Value) (a : Act) : Prop :=
  (Region.wanted o (yielded ops a.tmps) = true ∧ ∀ U, R U → o.quietAt P a (fun V => Fr0 U V) U v) ∨
  (Region.wanted o (yielded ops a.tmps) = false ∧ v = undef)
theorem YG.of_same {o : Oper} {v : Value} {a a' : Act} (hy : YG P ops R o v a) (he : execOp a'.eval o = execOp a.eval o)
    (hw : Region.wanted o (yielded ops a'.tmps) = Region.wanted o (yielded ops a.tmps)) : YG P ops R o v a' := by
  unfold YG Oper.quietAt at *
  rw [he, hw]
  exact hy
theorem YG.wpOp {i : Nat} {o : Oper} {v : Value} {a : Act} (hi : ops[i]? = some o) (hy : YG P ops R o v a)
    {K : Act → World → Prop} {U : World} (hU : R U) (h : ∀ V, Fr0 U V → K (a.put o.dst v) V) : wpOp P ops Q i K a U := by
  unfold Go.wpOp
  simp only [hi]
  rcases hy with ⟨hw, hv⟩ | ⟨hw, rfl⟩
  · simp only [hw, if_true, Oper.wp]
    have hq := hv U hU
    unfold Oper.quietAt at hq
    refine .inl ?_
    generalize (execOp a.eval o).run P U = r at *
    cases r with
    | ok n w' =>
      cases n <;> simp only [Oper.quietUpon, Oper.upon] at hq ⊢
      case value u => obtain ⟨rfl, rfl⟩ := hq; exact h _ (Fr.refl _ _)
      case skip => obtain ⟨rfl, rfl⟩ := hq; exact h _ (Fr.refl _ _)
      case enter f args =>
        obtain ⟨rfl, hc⟩ := hq
        exact hc.mono fun e w'' he => by obtain ⟨rfl, hf⟩ := he; exact h _ hf
    | halt x w' => simp only [Oper.quietUpon] at hq
  · simp only [hw, Bool.false_eq_true, if_false]; exact h _ (Fr.refl _ _)
theorem wpOp_putG {j : Nat} {oi oj : Oper} {v : Value} (hj : ops[j]? = some oj) (hap : oi.apart ops oj = true)
    (hsi : ∀ cs b, oi.op ≠ .select cs b) (hsj : ∀ cs b, oj.op ≠ .select cs b)
    (hQ : ∀ c a w, Q (.panic c) (a.put oi.dst v) w → Q (.panic c) a w) {K : Act → World → Prop} {a : Act} {w : World}
    (hy : YG P ops R oi v a) (h : wpOp P ops Q j K (a.put oi.dst v) w) :
    wpOp P ops Q j (fun a' w' => YG P ops R oi v a' ∧ K (a'.put oi.dst v) w') a w := by
  obtain ⟨h1, h2, h3⟩ := Oper.apart_spec hap
  have keep : ∀ (a : Act), YG P ops R oi v a → ∀ u, YG P ops R oi v (a.put oj.dst u) := fun a hy u =>
    hy.of_same (execOp_put oi hsi a oj.dst u h3) (wanted_put oi a oj.dst u h3)
  have keepD : ∀ d, YG P ops R oi v { a with defers := d :: a.defers } := fun d => hy.of_same rfl rfl
  unfold wpOp at *
  simp only [hj] at *
  rw [wanted_put oj a oi.dst v h1] at h
  split
  · rename_i hw
    simp only [hw, if_true] at h
    rcases h with h | ⟨hasks, hlets⟩
    case inr => exact .inr ⟨by unfold Oper.asks at *; rw [execOp_put oj hsj a oi.dst v h1] at hasks; exact hasks, hlets⟩
    refine .inl ?_
    unfold Oper.wp at *
    rw [execOp_put oj hsj a oi.dst v h1] at h
    generalize (execOp a.eval oj).run P w = r at *
    cases r with
    | ok n w' =>
      cases n <;> simp only [Oper.upon] at h ⊢
      case value u => exact ⟨keep a hy u, by rw [← Act.put_comm a v u h2]; exact h⟩
      case skip => exact ⟨keep a hy _, by rw [← Act.put_comm a v undef h2]; exact h⟩
      case defer d =>
        refine ⟨keep _ (keepD d) _, ?_⟩
        rw [← Act.put_comm _ v undef h2, ← Act.put_defers]
        exact h
      case enter f args =>
        refine Calls.mono h fun e w'' he => ?_
        cases e with
        | returned u => exact ⟨keep a hy u, by rw [← Act.put_comm a v u h2]; exact he⟩
        | panicked c => exact hQ _ _ _ he
        | outgrown => exact he
      case row row args => exact Rows.mono h fun u w'' he => ⟨keep a hy u, by rw [← Act.put_comm a v u h2]; exact he⟩
    | halt x w' =>
      cases x <;> simp only [Oper.upon] at h ⊢
      case panic u => exact hQ _ _ _ h
  · rename_i hw
    simp only [hw] at h
    exact ⟨keep a hy _, by rw [← Act.put_comm a v undef h2]; exact h⟩

/-- Whatever order is picked from here on, in every world in which W lies unturned. -/
def wpAnyG (P : Program) (md : Region.Mode) (ops : Array Oper) (Q : Exit → Act → World → Prop) (R : World → Prop) : Nat → Array Bool → Act → World → Prop
  | 0, listed, a, W => Region.ready md ops listed = [] ∧ ∀ U, Fr0 W U → Q .normal a U
  | f + 1, listed, a, W =>
    (Region.ready md ops listed = [] → ∀ U, Fr0 W U → Q .normal a U) ∧
    ∀ i ∈ Region.ready md ops listed, ∀ U, Fr0 W U → wpOp P ops Q i (fun a' w' => ∃ W', R W' ∧ Fr0 W' w' ∧ wpAnyG P md ops Q R f (listed.setIfInBounds i true) a' W') a U
theorem wpAny_of_G : ∀ (f : Nat) (listed : Array Bool) (a : Act) (W : World), wpAnyG P md ops Q R f listed a W → ∀ U, Fr0 W U → wpAny P md ops Q f listed a U
  | 0, _, _, _, h, U, hU => ⟨h.1, h.2 U hU⟩
  | f + 1, _, _, _, h, U, hU => ⟨fun h0 => h.1 h0 U hU, fun i hi => wpOp_mono (fun a' w' ⟨W', _, h2, h3⟩ => wpAny_of_G f _ a' W' h3 w' h2) (h.2 i hi U hU)⟩
theorem wpAnyG_first {i : Nat} {oi : Oper} {v : Value} (hR : ∀ U V, R U → Fr0 U V → R V) (hi : ops[i]? = some oi) (hsel : ∀ (j : Nat) (o : Oper) cs b, ops[j]? = some o → o.op ≠ .select cs b)
    (hQ : ∀ c a w, Q (.panic c) (a.put oi.dst v) w → Q (.panic c) a w) :
    ∀ (f : Nat) (listed : Array Bool) (a : Act) (W : World),
      (∀ j oj, ops[j]? = some oj → j ≠ i → listed.getD j true = false → (∀ e ∈ oj.after, Region.binds md e = true → e.on ≠ i) → oi.apart ops oj = true) →
      i ∈ Region.ready md ops listed → YG P ops R oi v a → R W →
      wpAnyG P md ops Q R f (listed.setIfInBounds i true) (a.put oi.dst v) W → wpAnyG P md ops Q R (f + 1) listed a W := by
  intro f
  induction f with
  | zero =>
    intro listed a W _ hr hy hS H
    refine ⟨fun h => (by rw [h] at hr; cases hr), fun j hj U hU => ?_⟩
    by_cases hji : j = i
    · subst hji; exact hy.wpOp hi (hR _ _ hS hU) (fun V hV => ⟨W, hS, hU.trans hV, H⟩)
    · have := ready_mono hj hji
      rw [H.1] at this
      cases this
  | succ f ih =>
    intro listed a W hfree hr hy hS H
    refine ⟨fun h => (by rw [h] at hr; cases hr), fun j hj U hU => ?_⟩
    by_cases hji : j = i
    · subst hji; exact hy.wpOp hi (hR _ _ hS hU) (fun V hV => ⟨W, hS, hU.trans hV, H⟩)
    · have h1 := H.2 j (ready_mono hj hji) U hU
      obtain ⟨hjun, oj, hoj, hall⟩ := mem_ready.1 hj
      have hnot : ∀ e ∈ oj.after, Region.binds md e = true → e.on ≠ i := fun e he hb heq => by
        have h1 := hall e he hb
        have h0 := (mem_ready.1 hr).1
        rw [heq] at h1
        rcases Nat.lt_or_ge i listed.size with h' | h'
        · simp [h'] at h0 h1; rw [h0] at h1; cases h1
        · simp [Array.getElem?_eq_none h'] at h1
      have h2 := wpOp_putG hoj (hfree j oj hoj hji hjun hnot) (fun cs b => hsel i oi cs b hi) (fun cs b => hsel j oj cs b hoj) hQ hy h1
      have hfree' : ∀ k ok, ops[k]? = some ok → k ≠ i → (listed.setIfInBounds j true).getD k true = false →
          (∀ e ∈ ok.after, Region.binds md e = true → e.on ≠ i) → oi.apart ops ok = true := fun k ok hk hki hun hno => by
        refine hfree k ok hk hki ?_ hno
        by_cases hjk : j = k
        · subst hjk; exact hjun
        · rw [getD_set_ne true hjk] at hun; exact hun
      refine wpOp_mono (fun a' w' h3 => ?_) h2
      obtain ⟨hy', W', g1, g2, g3⟩ := h3
      refine ⟨W', g1, g2, ih (listed.setIfInBounds j true) a' W' hfree' (ready_mono hr (Ne.symm hji)) hy' g1 ?_⟩
      rw [Array.setIfInBounds_comm _ _ hji]
      exact g3

/-- These may be taken one behind the other. -/
def takesB (md : Region.Mode) (ops : Array Oper) : List Nat → Array Bool → Bool
  | [], _ => true
  | i :: l, listed => (Region.ready md ops listed).contains i && Region.free md ops listed i && takesB md ops l (listed.setIfInBounds i true)
def takeL : List Nat → Array Bool → Array Bool
  | [], listed => listed
  | i :: l, listed => takeL l (listed.setIfInBounds i true)
/-- Each has a temporary of its own, below n. -/
def dstsB (ops : Array Oper) (n : Nat) : List Nat → Bool
  | [] => true
  | i :: l => (match (ops[i]?).bind (·.dst) with
    | some d => decide (d < n) && l.all fun j => match (ops[j]?).map (·.dst) with
      | some e => e != some d
      | none => false
    | none => false) && dstsB ops n l
theorem wpq_keeps {C : World → Prop} {af : Act} : ∀ (l : List Oper) (a : Act), wpQuiet P ops C (· = af) l a → ∀ d, (∀ o ∈ l, o.dst ≠ some d) → af.tmps[d]? = a.tmps[d]?
  | [], a, h, d, _ => by rw [show a = af from h]
  | o :: l, a, h, d, hd => by
    have h1 : ∀ v, (a.put o.dst v).tmps[d]? = a.tmps[d]? := fun v => by
      have := hd o (List.mem_cons_self ..)
      cases ho : o.dst with
      | none => rfl
      | some e =>
        rw [ho] at this
        simp only [Act.put]
        rw [Array.getElem?_setIfInBounds_ne]
        intro he; exact this (he ▸ rfl)
    unfold wpQuiet at h
    split at h
    · obtain ⟨v, _, h2⟩ := h
      rw [wpq_keeps l _ h2 d (fun o' ho' => hd o' (List.mem_cons_of_mem _ ho')), h1]
    · rw [wpq_keeps l _ h d (fun o' ho' => hd o' (List.mem_cons_of_mem _ ho')), h1]
theorem put_get {a : Act} {d : Nat} {v : Value} (h : d < a.tmps.size) : (a.put (some d) v).tmps[d]? = some v := by
  simp [Act.put, h]
theorem put_size {a : Act} {d : Option Tmp} {v : Value} : (a.put d v).tmps.size = a.tmps.size := by cases d <;> simp [Act.put]

theorem takes_aux {f n : Nat} {W : World} {af : Act} (hsel : Region.noSelect ops = true) (hQ : ∀ c a d v w, Q (.panic c) (a.put d v) w → Q (.panic c) a w) (hR : ∀ U V, R U → Fr0 U V → R V) (hS : R W) :
    ∀ (is : List Nat) (ls : List Oper) (listed : Array Bool) (a : Act), (is.map fun i => ops[i]?) = ls.map some → takesB md ops is listed = true → a.tmps.size = n → dstsB ops n is = true →
      (∀ W', R W' → wpQuiet P ops (fun U => ∃ x : Wx W', U = x.u) (· = af) ls a) →
      wpAnyG P md ops Q R f (takeL is listed) af W → wpAnyG P md ops Q R (f + is.length) listed a W
  | [], [], listed, a, _, _, _, _, H, h => by
    have : a = af := H W hS
    subst this
    exact h
  | [], _ :: _, _, _, hm, _, _, _, _, _ => by simp at hm
  | _ :: _, [], _, _, hm, _, _, _, _, _ => by simp at hm
  | i :: is, o :: ls, listed, a, hm, hB, hn, hD, H, h => by
    simp only [List.map_cons, List.cons.injEq] at hm
    obtain ⟨hio, hm⟩ := hm
    simp only [takesB, Bool.and_eq_true] at hB
    obtain ⟨⟨hr, hf⟩, hB⟩ := hB
    simp only [dstsB, Bool.and_eq_true] at hD
    obtain ⟨hd, hD⟩ := hD
    rw [hio] at hd
    simp only [Option.bind_some] at hd
    cases hdo : o.dst with
    | none => rw [hdo] at hd; cases hd
    | some d =>
      rw [hdo] at hd
      simp only [Bool.and_eq_true, decide_eq_true_eq] at hd
      have hnd : ∀ o' ∈ ls, o'.dst ≠ some d := by
        intro o' ho' he
        obtain ⟨k, hk, hk2⟩ := List.getElem_of_mem ho'
        have hk3 : k < is.length := by have := congrArg List.length hm; simp at this; omega
        have hk4 := List.all_eq_true.1 hd.2 is[k] (List.getElem_mem hk3)
        have hk5 : ops[is[k]]? = some o' := by
          have := congrArg (fun l => l[k]?) hm
          simp only [List.getElem?_map, List.getElem?_eq_getElem hk3, List.getElem?_eq_getElem hk, Option.map_some, hk2] at this
          simpa using this
        rw [hk5] at hk4
        simp [he] at hk4
      have hst : ∃ v, YG P ops R o v a ∧ ∀ W', R W' → wpQuiet P ops (fun U => ∃ x : Wx W', U = x.u) (· = af) ls (a.put o.dst v) := by
        by_cases hw : Region.wanted o (yielded ops a.tmps) = true
        · have hv : ∀ W', R W' → (∀ w, (∃ x : Wx W', w = x.u) → o.quietAt P a (fun U => ∃ x : Wx W', U = x.u) w (af.tmps[d]?.getD undef)) ∧ wpQuiet P ops (fun U => ∃ x : Wx W', U = x.u) (· = af) ls (a.put o.dst (af.tmps[d]?.getD undef)) := by
            intro W' hW'
            have h1 := H W' hW'
            unfold wpQuiet at h1
            rw [if_pos hw] at h1
            obtain ⟨v, h2, h3⟩ := h1
            have h4 := wpq_keeps ls _ h3 d hnd
            rw [hdo, put_get (by rw [hn]; exact hd.1)] at h4
            rw [h4]
            exact ⟨h2, h3⟩
          refine ⟨af.tmps[d]?.getD undef, .inl ⟨hw, fun U hU => ?_⟩, fun W' hW' => (hv W' hW').2⟩
          have h5 := (hv U hU).1 U ⟨⟨U, Fr.refl _ _⟩, rfl⟩
          unfold Oper.quietAt at h5 ⊢
          generalize (execOp a.eval o).run P U = r at *
          cases r with
          | ok nx w' =>
            cases nx <;> simp only [Oper.quietUpon] at h5 ⊢
            case value u => exact h5
            case skip => exact h5
            case enter g args => exact ⟨h5.1, h5.2.mono fun e w'' he => ⟨he.1, by obtain ⟨y, rfl⟩ := he.2; exact y.fr⟩⟩
          | halt x w' => simp only [Oper.quietUpon] at h5
        · refine ⟨undef, .inr ⟨by simpa using hw, rfl⟩, fun W' hW' => ?_⟩
          have h1 := H W' hW'
          unfold wpQuiet at h1
          rwa [if_neg hw] at h1
      obtain ⟨v, hy, hrest⟩ := hst
      have ih := takes_aux hsel hQ hR hS is ls (listed.setIfInBounds i true) (a.put o.dst v) hm hB (by rw [put_size]; exact hn) hD hrest h
      exact wpAnyG_first hR hio (Region.noSelect_spec hsel) (fun c a w => hQ c a o.dst v w) (f + is.length) listed a W (Region.free_spec hio hf) (by simpa using hr) hy hS ih

/-- The first n operations are taken first. -/
theorem takesG {l : List Oper} {W : World} {a af : Act} {id : Nat} (n : Nat) (R : World → Prop) (hR : ∀ U V, R U → Fr0 U V → R V) (hS : R W) (hm : P.follows .mixedOrders = true) (hQ : ∀ c a d v w, Q (.panic c) (a.put d v) w → Q (.panic c) a w)
    (hB : (Region.noSelect l.toArray && takesB .any l.toArray (List.range n) (Array.replicate l.length false) && decide (n ≤ l.length)) = true) (hD : dstsB l.toArray a.tmps.size (List.range n) = true)
    (H : ∀ W', R W' → wpQuiet P l.toArray (fun U => ∃ x : Wx W', U = x.u) (· = af) (l.take n) a)
    (h : wpAnyG P .any l.toArray Q R (l.length - n) (takeL (List.range n) (Array.replicate l.length false)) af W) : (Code.region id l.toArray true).wp P Q a W := by
  simp only [Bool.and_eq_true, decide_eq_true_eq] at hB
  obtain ⟨⟨h1, h2⟩, h3⟩ := hB
  refine wp_region_any hm (wpAny_of_G (R := R) _ _ _ W ?_ _ (Fr.refl _ W).drew)
  have := takes_aux (P := P) (Q := Q) (R := R) (md := .any) (ops := l.toArray) (f := l.length - n) (n := a.tmps.size) (W := W) (af := af) h1 hQ hR hS (List.range n) (l.take n) (Array.replicate l.length false) a
    (by
      apply List.ext_getElem?
      intro k
      simp only [List.getElem?_map, List.getElem?_range', List.getElem?_take]
      by_cases hk : k < n
      · rw [List.getElem?_range hk]
        simp only [Option.map_some, if_pos hk, List.getElem?_toArray]
        rw [List.getElem?_eq_getElem (by omega : k < l.length)]
        rfl
      · rw [List.getElem?_eq_none (by simpa using hk)]
        simp [hk]) h2 rfl hD H h
  rw [List.length_range, Nat.sub_add_cancel h3] at this
  simpa using this

theorem takesG_ex {l : List Oper} {W : World} {a : Act} {id : Nat} (n : Nat) (R : World → Prop) (hR : ∀ U V, R U → Fr0 U V → R V) (hS : R W) (hm : P.follows .mixedOrders = true) (hQ : ∀ c a d v w, Q (.panic c) (a.put d v) w → Q (.panic c) a w)
    (hB : (Region.noSelect l.toArray && takesB .any l.toArray (List.range n) (Array.replicate l.length false) && decide (n ≤ l.length)) = true) (hD : dstsB l.toArray a.tmps.size (List.range n) = true)
    (h : ∃ af, (∀ W', R W' → wpQuiet P l.toArray (fun U => ∃ x : Wx W', U = x.u) (fun a' => a' = af) (l.take n) a) ∧
      wpAnyG P .any l.toArray Q R (l.length - n) (takeL (List.range n) (Array.replicate l.length false)) af W) : (Code.region id l.toArray true).wp P Q a W := by
  obtain ⟨af, h1, h2⟩ := h
  exact takesG n R hR hS hm hQ hB hD h1 h2

/-- Each of these comes up next. -/
def AllG (P : Program) (md : Region.Mode) (ops : Array Oper) (Q : Exit → Act → World → Prop) (R : World → Prop) (f : Nat) (listed : Array Bool) (a : Act) (W : World) (rs : List Nat) : Prop :=
  ∀ i ∈ rs, ∀ U, Fr0 W U → wpOp P ops Q i (fun a' w' => ∃ W', R W' ∧ Fr0 W' w' ∧ wpAnyG P md ops Q R f (listed.setIfInBounds i true) a' W') a U
theorem AllG.nil {f : Nat} {listed : Array Bool} {a : Act} {W : World} : AllG P md ops Q R f listed a W [] := fun _ h => by cases h
theorem AllG.cons {f i : Nat} {listed : Array Bool} {a : Act} {W : World} {o : Oper} {rs : List Nat} (ho : ops[i]? = some o)
    (h : ∀ U, Fr0 W U → ∀ K' : Act → World → Prop, Shut (∀ a' w', (∃ W', R W' ∧ Fr0 W' w' ∧ wpAnyG P md ops Q R f (listed.setIfInBounds i true) a' W') → K' a' w') →
      if Region.wanted o (yielded ops a.tmps) = true then Oper.wp P o a U K' Q else K' (a.put o.dst undef) U)
    (hs : AllG P md ops Q R f listed a W rs) : AllG P md ops Q R f listed a W (i :: rs) := fun j hj => by
  rcases List.mem_cons.1 hj with rfl | hj
  · exact fun U hU => wpOp_step ho (fun K' hK => h U hU K' hK)
  · exact hs j hj
theorem wpAnyG_ready {rs : List Nat} {f : Nat} {listed : Array Bool} {a : Act} {W : World} (hr : Region.ready md ops listed = rs) (hne : rs ≠ [])
    (h : AllG P md ops Q R f listed a W rs) : wpAnyG P md ops Q R (f + 1) listed a W := ⟨fun h0 => absurd (hr ▸ h0) hne, hr ▸ h⟩
theorem wpAnyG_done {listed : Array Bool} {a : Act} {W : World} (hr : Region.ready md ops listed = []) (h : ∀ U, Fr0 W U → Q .normal a U) : wpAnyG P md ops Q R 0 listed a W := ⟨hr, h⟩
end
end Go.Proofs.Ytdakeenjeieekaa
