/- Regions in whatever order, in which calls leave values that hang on the world (new memory): each operation leaves a value with a property that stays while the world only grows. No program in sight. -/
import Derived.Test.YtdakeenjeieekaaRegG
set_option linter.unusedVariables false
set_option linter.unusedSimpArgs false
namespace Go.Proofs.Ytdakeenjeieekaa
open Go.RowKit
section
variable {P : Program} {md : Region.Mode} {ops : Array Oper} {Q : Exit → Act → World → Prop} {R : World → Prop}

/-- The values of these operations, put down. -/
def puts (a : Act) (x : Nat → Value) : List (Nat × Option Tmp) → Act
  | [] => a
  | q :: l => puts (a.put q.2 (x q.1)) x l
def upd (x : Nat → Value) (i : Nat) (v : Value) : Nat → Value := fun j => if j = i then v else x j
theorem upd_self (x : Nat → Value) (i : Nat) (v : Value) : upd x i v i = v := if_pos rfl
theorem upd_ne {x : Nat → Value} {i j : Nat} {v : Value} (h : j ≠ i) : upd x i v j = x j := if_neg h
theorem puts_agree {x y : Nat → Value} : ∀ (l : List (Nat × Option Tmp)) (a : Act), (∀ q ∈ l, x q.1 = y q.1) → puts a x l = puts a y l
  | [], _, _ => rfl
  | q :: l, a, h => by
    rw [puts, puts, h q (List.mem_cons_self ..)]
    exact puts_agree l _ (fun r hr => h r (List.mem_cons_of_mem _ hr))
theorem puts_out {x : Nat → Value} {d : Option Tmp} {v : Value} : ∀ (l : List (Nat × Option Tmp)) (a : Act), (∀ q ∈ l, ∀ e, d = some e → q.2 ≠ some e) → (puts a x l).put d v = puts (a.put d v) x l
  | [], _, _ => rfl
  | q :: l, a, h => by
    rw [puts, puts, puts_out l _ (fun r hr => h r (List.mem_cons_of_mem _ hr)), Act.put_comm a v (x q.1) (h q (List.mem_cons_self ..))]
theorem put_twice (a : Act) (d : Option Tmp) (u v : Value) : (a.put d u).put d v = a.put d v := by
  cases d with
  | none => rfl
  | some d => simp [Act.put]
theorem put_own (a : Act) (d : Option Tmp) : ∃ v, a.put d v = a := by
  cases d with
  | none => exact ⟨undef, rfl⟩
  | some d =>
    refine ⟨a.tmps.getD d undef, ?_⟩
    simp only [Act.put]
    have : a.tmps.setIfInBounds d (a.tmps.getD d undef) = a.tmps := by
      apply Array.ext_getElem?
      intro k
      rw [Array.getElem?_setIfInBounds]
      split
      · rename_i h
        subst h
        split
        · rename_i h; simp [h]
        · rename_i h; simp [Array.getElem?_eq_none (Nat.le_of_not_lt h)]
      · rfl
    rw [this]
/-- No two write one temporary. -/
def apartB : List (Nat × Option Tmp) → Bool
  | [] => true
  | q :: l => (l.all fun r => (r.1 != q.1) && (q.2 == none || r.2 != q.2)) && apartB l
theorem apart_cons {q : Nat × Option Tmp} {l : List (Nat × Option Tmp)} (h : apartB (q :: l) = true) : (∀ r ∈ l, r.1 ≠ q.1 ∧ ∀ e, q.2 = some e → r.2 ≠ some e) ∧ apartB l = true := by
  simp only [apartB, Bool.and_eq_true, List.all_eq_true] at h
  refine ⟨fun r hr => ?_, h.2⟩
  have := h.1 r hr
  simp only [bne_iff_ne, ne_eq, Bool.or_eq_true, beq_iff_eq] at this
  refine ⟨this.1, fun e he => ?_⟩
  rcases this.2 with h2 | h2
  · rw [h2] at he; cases he
  · rw [← he]; exact h2
theorem apart_nodup : ∀ (ds : List (Nat × Option Tmp)), apartB ds = true → (ds.map (·.1)).Nodup
  | [], _ => by simp
  | q :: l, h => by
    obtain ⟨h1, h2⟩ := apart_cons h
    rw [List.map_cons, List.nodup_cons]
    refine ⟨fun h => ?_, apart_nodup l h2⟩
    obtain ⟨r, hr, hrq⟩ := List.mem_map.1 h
    exact (h1 r hr).1 hrq
theorem puts_init (a : Act) : ∀ (l : List (Nat × Option Tmp)), apartB l = true → ∃ x, puts a x l = a
  | [], _ => ⟨fun _ => undef, rfl⟩
  | q :: l, h => by
    obtain ⟨h1, h2⟩ := apart_cons h
    obtain ⟨x, hx⟩ := puts_init a l h2
    obtain ⟨v, hv⟩ := put_own a q.2
    refine ⟨upd x q.1 v, ?_⟩
    rw [puts, upd_self, hv, puts_agree l a (fun r hr => upd_ne (h1 r hr).1), hx]
theorem puts_put {x : Nat → Value} {q : Nat × Option Tmp} {v : Value} : ∀ (l : List (Nat × Option Tmp)) (a : Act), apartB l = true → q ∈ l → (puts a x l).put q.2 v = puts a (upd x q.1 v) l
  | [], _, _, h => by cases h
  | r :: l, a, h, hq => by
    obtain ⟨h1, h2⟩ := apart_cons h
    by_cases e : q = r
    · subst e
      rw [puts, puts, upd_self, puts_out l _ (fun r hr e he => (h1 r hr).2 e he), put_twice]
      exact puts_agree l _ (fun r hr => (upd_ne (h1 r hr).1).symm)
    · have hq' : q ∈ l := by
        rcases List.mem_cons.1 hq with h | h
        · exact absurd h e
        · exact h
      rw [puts, puts, upd_ne (Ne.symm (h1 q hq').1), puts_put l _ h2 hq']
/-- Is the operation i behind the operation j? -/
def depB (md : Region.Mode) (ops : Array Oper) (i j : Nat) : Bool := ((ops[i]?).map fun o => o.after.any fun e => Region.binds md e && e.on == j).getD false
theorem depB_spec {i j : Nat} (h : depB md ops i j = true) {o : Oper} (ho : ops[i]? = some o) : ∃ e ∈ o.after, Region.binds md e = true ∧ e.on = j := by
  unfold depB at h
  rw [ho] at h
  simp only [Option.map_some, Option.getD_some] at h
  rw [Array.any_eq_true] at h
  obtain ⟨k, hk, h⟩ := h
  simp only [Bool.and_eq_true, beq_iff_eq] at h
  exact ⟨o.after[k], Array.getElem_mem hk, h.1, h.2⟩
/-- These operations are what is left ahead of a tail; each stands behind what is taken or what is left. -/
def relB (md : Region.Mode) (ops : Array Oper) (ds : List (Nat × Option Tmp)) (listed : Array Bool) : Bool :=
  apartB ds &&
  ds.all (fun q => decide (q.1 < ops.size) && !listed.getD q.1 true && ((ops[q.1]?).map fun o => o.after.all fun e => !Region.binds md e || listed.getD e.on false || (decide (e.on < q.1) && (ds.map (·.1)).contains e.on)).getD false) &&
  (List.range ops.size).all (fun t => listed.getD t true || (ds.map (·.1)).contains t || ds.all fun q => depB md ops t q.1)

theorem takeL_get {d : Bool} : ∀ (is : List Nat) (listed : Array Bool) (j : Nat), j ∉ is → (takeL is listed).getD j d = listed.getD j d
  | [], _, _, _ => rfl
  | i :: is, listed, j, h => by
    rw [takeL, takeL_get is _ j (fun h' => h (List.mem_cons_of_mem _ h')), getD_set_ne d (fun e => h (by rw [← e]; exact List.mem_cons_self ..))]
theorem takeL_size : ∀ (is : List Nat) (listed : Array Bool), (takeL is listed).size = listed.size
  | [], _ => rfl
  | i :: is, listed => by rw [takeL, takeL_size is]; simp
theorem takeL_in : ∀ (is : List Nat) (listed : Array Bool) (j : Nat), (listed.getD j false = true ∨ (j ∈ is ∧ j < listed.size)) → (takeL is listed).getD j false = true
  | [], _, _, h => by rcases h with h | ⟨h, _⟩; exact h; cases h
  | i :: is, listed, j, h => by
    rw [takeL]
    refine takeL_in is _ j ?_
    rcases h with h | ⟨h, hs⟩
    · exact .inl (getD_set_true h)
    · by_cases hij : i = j
      · subst hij; exact .inl (by simp [hs])
      · rcases List.mem_cons.1 h with h | h
        · exact absurd h.symm hij
        · exact .inr ⟨h, by simpa using hs⟩
theorem arr_ext {x y : Array Bool} (h1 : x.size = y.size) (h2 : ∀ j, j < x.size → x.getD j false = y.getD j false) : x = y := by
  refine Array.ext h1 (fun i hi hj => ?_)
  have := h2 i hi
  simpa [hi, hj] using this

theorem rel_aux {ds : List (Nat × Option Tmp)} {p : Nat → Value → World → Prop} {g : Nat} {listed : Array Bool} {a : Act} {W : World}
    (hB : relB md ops ds listed = true) (hR : ∀ U V, R U → Fr0 U V → R V) (hp : ∀ i v U V, p i v U → Fr0 U V → p i v V)
    (hstep : ∀ q ∈ ds, ∀ (x : Nat → Value) (U : World), R U → Fr0 W U → (∀ j, depB md ops q.1 j = true → (ds.map (·.1)).contains j = true → p j (x j) U) →
      wpOp P ops Q q.1 (fun a' V => ∃ v, a' = (puts a x ds).put q.2 v ∧ p q.1 v V ∧ Fr0 U V) (puts a x ds) U)
    (hdone : ∀ (x : Nat → Value) (U : World), R U → Fr0 W U → (∀ q ∈ ds, p q.1 (x q.1) U) → wpAnyG P md ops Q R g (takeL (ds.map (·.1)) listed) (puts a x ds) U) :
    ∀ (f : Nat) (un : List Nat) (listed' : Array Bool) (x : Nat → Value) (U : World), un.length = f → un.Nodup → (∀ j ∈ un, j ∈ ds.map (·.1)) → listed'.size = listed.size →
      (∀ j ∈ un, listed'.getD j true = false) → (∀ j ∈ ds.map (·.1), j ∉ un → listed'.getD j false = true) → (∀ j d, j ∉ ds.map (·.1) → listed'.getD j d = listed.getD j d) →
      R U → Fr0 W U → (∀ j ∈ ds.map (·.1), j ∉ un → p j (x j) U) → wpAnyG P md ops Q R (f + g) listed' (puts a x ds) U := by
  simp only [relB, Bool.and_eq_true] at hB
  obtain ⟨⟨hap, hds⟩, htl⟩ := hB
  intro f
  induction f with
  | zero =>
    intro un listed' x U hl hn hsub hsz h1 h2 h3 hRU hFU hpx
    have hu : un = [] := List.length_eq_zero_iff.1 hl
    subst hu
    have e : listed' = takeL (ds.map (·.1)) listed := by
      refine arr_ext (by rw [takeL_size, hsz]) (fun j hj => ?_)
      by_cases hj2 : j ∈ ds.map (·.1)
      · rw [h2 j hj2 (by simp), takeL_in _ _ _ (.inr ⟨hj2, by omega⟩)]
      · rw [h3 j false hj2, takeL_get _ _ _ hj2]
    rw [Nat.zero_add, e]
    exact hdone x U hRU hFU (fun q hq => hpx q.1 (List.mem_map_of_mem hq) (by simp))
  | succ f ih =>
    intro un listed' x U hl hn hsub hsz h1 h2 h3 hRU hFU hpx
    rw [show f + 1 + g = (f + g) + 1 by omega]
    have hlist : ∀ j, j ∈ ds.map (·.1) → listed'.getD j false = true → j ∉ un := fun j hj h hu => by
      have := getD_both (h1 j hu)
      rw [h] at this; cases this
    refine ⟨fun h0 => ?_, fun i hi V hV => ?_⟩
    · exfalso
      have hne : un ≠ [] := fun h => by rw [h] at hl; cases hl
      -- the least one that is left is ready
      have hmin : ∀ n, ∀ i ∈ un, i ≤ n → ∃ i ∈ un, i ∈ Region.ready md ops listed' := by
        intro n
        induction n with
        | zero =>
          intro i hi hin
          refine ⟨i, hi, ?_⟩
          obtain ⟨q, hq, hqi⟩ := List.mem_map.1 (hsub i hi)
          have hq2 := List.all_eq_true.1 hds q hq
          simp only [Bool.and_eq_true, decide_eq_true_eq] at hq2
          obtain ⟨⟨hsz2, _⟩, hq3⟩ := hq2
          have hqo : ops[q.1]? = some ops[q.1] := Array.getElem?_eq_getElem hsz2
          rw [hqo] at hq3
          simp only [Option.map_some, Option.getD_some, Array.all_eq_true_iff_forall_mem, Bool.or_eq_true, Bool.not_eq_true', Bool.and_eq_true, decide_eq_true_eq] at hq3
          subst hqi
          refine mem_ready.2 ⟨h1 _ hi, ops[q.1], hqo, fun e he hb => ?_⟩
          rcases hq3 e he with (h | h) | h
          · rw [hb] at h; cases h
          · by_cases hj : e.on ∈ ds.map (·.1)
            · by_cases hu : e.on ∈ un
              · exfalso
                obtain ⟨r, hr, hre⟩ := List.mem_map.1 hj
                have hr2 := List.all_eq_true.1 hds r hr
                simp only [Bool.and_eq_true, decide_eq_true_eq, Bool.not_eq_true'] at hr2
                have := getD_both hr2.1.2
                rw [hre, h] at this; cases this
              · exact h2 _ hj hu
            · rw [h3 _ _ hj]; exact h
          · omega
        | succ n ihn =>
          intro i hi hin
          by_cases hex : ∃ k ∈ un, k ≤ n
          · obtain ⟨k, hk, hkn⟩ := hex
            exact ihn k hk hkn
          refine ⟨i, hi, ?_⟩
          obtain ⟨q, hq, hqi⟩ := List.mem_map.1 (hsub i hi)
          have hq2 := List.all_eq_true.1 hds q hq
          simp only [Bool.and_eq_true, decide_eq_true_eq] at hq2
          obtain ⟨⟨hsz2, _⟩, hq3⟩ := hq2
          have hqo : ops[q.1]? = some ops[q.1] := Array.getElem?_eq_getElem hsz2
          rw [hqo] at hq3
          simp only [Option.map_some, Option.getD_some, Array.all_eq_true_iff_forall_mem, Bool.or_eq_true, Bool.not_eq_true', Bool.and_eq_true, decide_eq_true_eq] at hq3
          subst hqi
          refine mem_ready.2 ⟨h1 _ hi, ops[q.1], hqo, fun e he hb => ?_⟩
          rcases hq3 e he with (h | h) | ⟨h, h'⟩
          · rw [hb] at h; cases h
          · by_cases hj : e.on ∈ ds.map (·.1)
            · by_cases hu : e.on ∈ un
              · exfalso
                obtain ⟨r, hr, hre⟩ := List.mem_map.1 hj
                have hr2 := List.all_eq_true.1 hds r hr
                simp only [Bool.and_eq_true, decide_eq_true_eq, Bool.not_eq_true'] at hr2
                have := getD_both hr2.1.2
                rw [hre, h] at this; cases this
              · exact h2 _ hj hu
            · rw [h3 _ _ hj]; exact h
          · have hj : e.on ∈ ds.map (·.1) := by simpa using h'
            by_cases hu : e.on ∈ un
            · exact absurd ⟨e.on, hu, by omega⟩ hex
            · exact h2 _ hj hu
      obtain ⟨i0, hi0⟩ := List.exists_mem_of_ne_nil un hne
      obtain ⟨i, _, hi⟩ := hmin i0 i0 hi0 (Nat.le_refl _)
      rw [h0] at hi
      cases hi
    · obtain ⟨hun, o, ho, hall⟩ := mem_ready.1 hi
      have hne : un ≠ [] := fun h => by rw [h] at hl; cases hl
      have hiu : i ∈ un := by
        by_cases hids : i ∈ ds.map (·.1)
        · by_cases hu : i ∈ un
          · exact hu
          · have := h2 i hids hu
            rw [getD_both hun] at this; cases this
        · exfalso
          have hlt : i < ops.size := (Array.getElem?_eq_some_iff.1 ho).1
          have ht := List.all_eq_true.1 htl i (List.mem_range.2 hlt)
          simp only [Bool.or_eq_true] at ht
          rcases ht with (ht | ht) | ht
          · rw [h3 i true hids] at hun
            rw [hun] at ht; cases ht
          · exact hids (by simpa using ht)
          · obtain ⟨k, hk⟩ := List.exists_mem_of_ne_nil un hne
            obtain ⟨r, hr, hrk⟩ := List.mem_map.1 (hsub k hk)
            obtain ⟨e, he, hb, heo⟩ := depB_spec (List.all_eq_true.1 ht r hr) ho
            have h5 := hall e he hb
            rw [heo, hrk] at h5
            exact hlist k (hsub k hk) h5 hk
      obtain ⟨q, hq, hqi⟩ := List.mem_map.1 (hsub i hiu)
      have hst := hstep q hq x V (hR _ _ hRU hV) (hFU.trans hV) (fun j hdj hcj => by
        have hj : j ∈ ds.map (·.1) := by simpa using hcj
        obtain ⟨e, he, hb, heo⟩ := depB_spec hdj (hqi ▸ ho)
        have h5 := hall e he hb
        rw [heo] at h5
        exact hp _ _ _ _ (hpx j hj (hlist j hj h5)) hV)
      rw [← hqi]
      refine wpOp_mono (fun a' w' h => ?_) hst
      obtain ⟨v, ha', hpv, hfv⟩ := h
      rw [puts_put ds a hap hq] at ha'
      subst ha'
      have hsame : ∀ j, j ∉ un.erase i → j ∈ ds.map (·.1) → j ≠ i → j ∉ un := fun j h _ hji hu => h (hn.mem_erase_iff.2 ⟨hji, hu⟩)
      have hilt : i < listed'.size := by
        rw [hsz]
        have := List.all_eq_true.1 hds q hq
        simp only [Bool.and_eq_true, Bool.not_eq_true'] at this
        have h6 := this.1.2
        rw [hqi] at h6
        rcases Nat.lt_or_ge i listed.size with h | h
        · exact h
        · simp [Array.getElem?_eq_none h] at h6
      refine ⟨w', hR _ _ (hR _ _ hRU hV) hfv, Fr.refl _ _, ?_⟩
      rw [hqi]
      refine ih (un.erase i) (listed'.setIfInBounds i true) (upd x i v) w' (by rw [List.length_erase_of_mem hiu, hl]; rfl) (hn.erase _) (fun j hj => hsub j (List.mem_of_mem_erase hj)) (by simp [hsz]) (fun j hj => ?_) (fun j hj hju => ?_) (fun j d hj => ?_) (hR _ _ (hR _ _ hRU hV) hfv) ((hFU.trans hV).trans hfv) (fun j hj hju => ?_)
      · have := hn.mem_erase_iff.1 hj
        rw [getD_set_ne true (Ne.symm this.1)]
        exact h1 j this.2
      · by_cases hji : j = i
        · subst hji; simp [hilt]
        · exact getD_set_true (h2 j hj (hsame j hju hj hji))
      · have : i ≠ j := fun h => hj (h ▸ hsub i hiu)
        rw [getD_set_ne d this]; exact h3 j d hj
      · by_cases hji : j = i
        · subst hji; rw [upd_self]; rw [← hqi]; exact hpv
        · rw [upd_ne hji]
          exact hp _ _ _ _ (hpx j hj (hsame j hju hj hji)) (hV.trans hfv)

/-- What is left, in whatever order: each operation leaves a value with its property. -/
theorem wpAnyG_rel {ds : List (Nat × Option Tmp)} (p : Nat → Value → World → Prop) {f g : Nat} {listed : Array Bool} {a : Act} {W : World} (hf : f = ds.length + g)
    (hB : relB md ops ds listed = true) (hR : ∀ U V, R U → Fr0 U V → R V) (hS : R W) (hp : ∀ i v U V, p i v U → Fr0 U V → p i v V)
    (hstep : ∀ q ∈ ds, ∀ (x : Nat → Value) (U : World), R U → Fr0 W U → (∀ j, depB md ops q.1 j = true → (ds.map (·.1)).contains j = true → p j (x j) U) →
      wpOp P ops Q q.1 (fun a' V => ∃ v, a' = (puts a x ds).put q.2 v ∧ p q.1 v V ∧ Fr0 U V) (puts a x ds) U)
    (hdone : ∀ (x : Nat → Value) (U : World), R U → Fr0 W U → (∀ q ∈ ds, p q.1 (x q.1) U) → wpAnyG P md ops Q R g (takeL (ds.map (·.1)) listed) (puts a x ds) U) :
    wpAnyG P md ops Q R f listed a W := by
  subst hf
  have hB' := hB
  simp only [relB, Bool.and_eq_true] at hB'
  obtain ⟨⟨hap, hds⟩, _⟩ := hB'
  obtain ⟨x, hx⟩ := puts_init a ds hap
  have hnd := apart_nodup ds hap
  have H := rel_aux (P := P) (Q := Q) (R := R) (g := g) (a := a) (W := W) hB hR hp hstep hdone ds.length (ds.map (·.1)) listed x W (by simp) hnd (fun j hj => hj) rfl (fun j hj => ?_) (fun j hj h => absurd hj h) (fun j d hj => rfl) hS (Fr.refl _ _) (fun j hj h => absurd hj h)
  · rwa [hx] at H
  · obtain ⟨q, hq, rfl⟩ := List.mem_map.1 hj
    have := List.all_eq_true.1 hds q hq
    simp only [Bool.and_eq_true, Bool.not_eq_true'] at this
    exact this.1.2

/-- These of the operations. -/
def pickL (l : List Oper) : List Nat → List Oper
  | [] => []
  | i :: is => match l[i]? with
    | some o => o :: pickL l is
    | none => pickL l is
theorem pickL_map (l : List Oper) : ∀ is : List Nat, (∀ i ∈ is, i < l.length) → (is.map fun i => l.toArray[i]?) = (pickL l is).map some
  | [], _ => rfl
  | i :: is, h => by
    have hi := h i (List.mem_cons_self ..)
    have e : l[i]? = some l[i] := List.getElem?_eq_getElem hi
    rw [pickL, e, List.map_cons, List.map_cons, pickL_map l is (fun j hj => h j (List.mem_cons_of_mem _ hj))]
    congr 1
    rw [List.getElem?_toArray, e]
/-- These operations are taken first. -/
theorem takesL_ex {l : List Oper} {W : World} {a : Act} {id : Nat} (is : List Nat) (R : World → Prop) (hR : ∀ U V, R U → Fr0 U V → R V) (hS : R W) (hm : P.follows .mixedOrders = true) (hQ : ∀ c a d v w, Q (.panic c) (a.put d v) w → Q (.panic c) a w)
    (hB : (Region.noSelect l.toArray && takesB .any l.toArray is (Array.replicate l.length false) && decide (is.length ≤ l.length) && is.all fun i => decide (i < l.length)) = true) (hD : dstsB l.toArray a.tmps.size is = true)
    (h : ∃ af, (∀ W', R W' → wpQuiet P l.toArray (fun U => ∃ x : Wx W', U = x.u) (fun a' => a' = af) (pickL l is) a) ∧
      wpAnyG P .any l.toArray Q R (l.length - is.length) (takeL is (Array.replicate l.length false)) af W) : (Code.region id l.toArray true).wp P Q a W := by
  obtain ⟨af, h1, h2⟩ := h
  simp only [Bool.and_eq_true, decide_eq_true_eq] at hB
  obtain ⟨⟨⟨hb1, hb2⟩, hb3⟩, hb4⟩ := hB
  refine wp_region_any hm (wpAny_of_G (R := R) _ _ _ W ?_ _ (Fr.refl _ W).drew)
  have := takes_aux (P := P) (Q := Q) (R := R) (md := .any) (ops := l.toArray) (f := l.length - is.length) (n := a.tmps.size) (W := W) (af := af) hb1 hQ hR hS is (pickL l is) (Array.replicate l.length false) a
    (pickL_map l is (fun i hi => by simpa using List.all_eq_true.1 hb4 i hi)) hb2 rfl hD h1 h2
  rw [Nat.sub_add_cancel hb3] at this
  simpa using this
end
end Go.Proofs.Ytdakeenjeieekaa
