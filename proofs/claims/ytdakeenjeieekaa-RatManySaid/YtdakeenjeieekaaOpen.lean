/- What came in, opened: a reading of the form's own turned into cells, type by type. No program in sight. -/
import Derived.Test.YtdakeenjeieekaaBase
import Derived.ProofKit
import Derived.OpenShut
import Derived.ShutString
import Derived.ChangeOld
import Derived.SizedLaws
set_option linter.unusedVariables false
set_option linter.unusedSimpArgs false
namespace Go.Proofs.Ytdakeenjeieekaa
open Go.RowKit

/-- The cells cs read as a value of type t; what its slices lead to lies in w. -/
def Sees (P : Program) (w : World) : Nat → TypeId → List Value → Prop
  | 0, _, _ => False
  | n + 1, t, cs =>
    match P.underlying t with
    | some .bool => ∃ b, cs = [.bool b]
    | some (.int k) => ∃ z, cs = [.int k z] ∧ (Lit.int k z).wf = true
    | some .string => ∃ s : ByteArray, cs = [.string s] ∧ s.size ≤ reachBytes
    | some (.slice e) => ∃ A len cap, cs = [.slice A len cap] ∧ len ≤ cap ∧ cap ≤ maxLen ∧ len * P.bytesOf e ≤ reachBytes ∧ (A = none → len = 0) ∧
        ∃ rows : List (List Value), rows.length = len ∧ Rd (fun _ => False) w A rows.flatten ∧ ∀ r ∈ rows, r.length = P.cellsOf e ∧ Sees P w n e r
    | some (.struct fs) => cs.length = P.cellsOf t ∧ ∀ f ∈ fs.toList, Sees P w n f.type ((cs.drop f.offset).take (P.cellsOf f.type))
    | some (.array m e) => cs.length = P.cellsOf t ∧ ∀ i, i < m → Sees P w n e ((cs.drop (i * P.cellsOf e)).take (P.cellsOf e))
    | _ => True

theorem mapM_some {α β : Type} {f : α → Option β} : ∀ {l : List α} {ys : List β}, l.mapM f = some ys → ys.length = l.length ∧ ∀ i (h : i < l.length) (h' : i < ys.length), f l[i] = some ys[i]
  | [], ys, h => by simp at h; subst h; exact ⟨rfl, fun i h => absurd h (by simp)⟩
  | x :: l, ys, h => by
    rw [List.mapM_cons] at h
    obtain ⟨y, hy, h⟩ := Option.bind_eq_some_iff.1 h
    obtain ⟨zs, hz, h⟩ := Option.bind_eq_some_iff.1 h
    cases h
    obtain ⟨h1, h2⟩ := mapM_some hz
    refine ⟨by simp [h1], fun i hi hi' => ?_⟩
    cases i with
    | zero => exact hy
    | succ i => exact h2 i (by simpa using hi) (by simpa using hi')

section
variable {H : Type} {enc : TypeId × Value → H} {P : Program} {w : World} {base : Nat} {spare : Nat → Bool} {held : Bool}

theorem weights_part {P : Program} {B : Nat} {e : TypeId} : ∀ {l : List (DataW H)}, (∀ x ∈ DataW.weightsAll P e l, x ≤ B) → ∀ d ∈ l, ∀ x ∈ d.weights P e, x ≤ B
  | [], _, d, hd, _, _ => by cases hd
  | a :: l, h, d, hd, x, hx => by
    rw [DataW.weightsAll] at h
    rcases List.mem_cons.1 hd with rfl | hd
    · exact h x (List.mem_append_left _ hx)
    · exact weights_part (fun y hy => h y (List.mem_append_right _ hy)) d hd x hx
theorem weights_field {P : Program} {B : Nat} : ∀ {ts : List TypeId} {l : List (DataW H)}, (∀ x ∈ DataW.weightsEach P ts l, x ≤ B) → ∀ i (h : i < ts.length) (h' : i < l.length), ∀ x ∈ l[i].weights P ts[i], x ≤ B
  | [], _, _, _, h, _, _, _ => by simp at h
  | _ :: _, [], _, _, _, h, _, _ => by simp at h
  | t :: ts, a :: l, h, i, hi, hi', x, hx => by
    rw [DataW.weightsEach] at h
    cases i with
    | zero => exact h x (List.mem_append_left _ hx)
    | succ i => exact weights_field (fun y hy => h y (List.mem_append_right _ hy)) i (by simpa using hi) (by simpa using hi') x hx

theorem cells_some {a : Addr} {n : Nat} {r : List Value} (h : w.cells? base a n = some r) : r.length = n ∧ ∀ i (hi : i < r.length), w.cell? (a.add i) = some r[i] := by
  unfold World.cells? at h
  split at h
  · obtain ⟨h1, h2⟩ := mapM_some h
    simp only [List.length_range] at h1 h2
    refine ⟨h1, fun i hi => ?_⟩
    have := h2 i (by omega) hi
    simpa using this
  · cases h

theorem add_assoc (a : Addr) (i j : Nat) : (a.add i).add j = a.add (i + j) := by
  unfold Addr.add
  by_cases hi : i = 0 <;> by_cases hj : j = 0 <;> simp [hi, hj, Nat.add_assoc]

/-- Rows one behind the other, from an address on. -/
theorem rows_cells {a : Addr} {sz : Nat} : ∀ (rows : List (List Value)) (k : Nat), (∀ i (h : i < rows.length), w.cells? base (a.add ((k + i) * sz)) sz = some rows[i]) →
    ∀ i (h : i < rows.flatten.length), w.cell? (a.add (k * sz + i)) = some rows.flatten[i]
  | [], _, _, i, h => by simp at h
  | r :: rows, k, hr, i, h => by
    obtain ⟨h1, h2⟩ := cells_some (hr 0 (by simp))
    rw [Nat.add_zero] at h2
    have ih := rows_cells rows (k + 1) (fun i h => by have := hr (i + 1) (by simp; omega); rw [show k + (i + 1) = k + 1 + i by omega] at this; exact this)
    simp only [List.getElem_cons_zero] at h1 h2
    simp only [List.flatten_cons] at h ⊢
    by_cases hi : i < r.length
    · rw [List.getElem_append_left hi, ← h2 i hi, add_assoc]
    · have := ih (i - r.length) (by rw [List.length_append] at h; omega)
      rw [List.getElem_append_right (by omega), ← this]
      congr 2
      rw [Nat.add_mul]; omega

theorem trod_sees : ∀ (fuel : Nat) (t : TypeId) (cs : List Value) (d : DataW H) (ps : List MemPlace),
    DataW.trod enc P w base spare held fuel t cs = some (d, ps) → (∀ x ∈ d.weights P t, x ≤ reachBytes) → Sees P w fuel t cs
  | 0, t, cs, d, ps, h, _ => by simp [DataW.trod] at h
  | fuel + 1, t, cs, d, ps, h, hw => by
    unfold DataW.trod at h
    unfold Sees
    split at h
    · rename_i b hu; rw [hu]; exact ⟨b, rfl⟩
    · rename_i k k' n hu
      rw [hu]
      split at h
      · rename_i hk; obtain ⟨rfl, hk⟩ := hk; exact ⟨n, rfl, hk⟩
      · cases h
    · rename_i hu; rw [hu]; trivial
    · rename_i s hu
      rw [hu]
      split at h
      · cases h
        have h1 := hw s.data.toList.length (by rw [DataW.weights]; exact List.mem_singleton.2 rfl)
        rw [Array.length_toList] at h1
        exact ⟨s, rfl, h1⟩
      · cases h
    · rename_i hu; rw [hu]; trivial
    · rename_i hu; rw [hu]; trivial
    · rename_i e hu
      rw [hu]
      exact ⟨none, 0, 0, rfl, Nat.le_refl _, by simp [maxLen], by simp, fun _ => rfl, [], rfl, .inl rfl, fun r hr => by cases hr⟩
    · rename_i e a len cap hu
      rw [hu]
      dsimp only at h
      split at h
      · rename_i hc
        obtain ⟨hba, hlc, hcm⟩ := hc
        obtain ⟨elems, he, h⟩ := Option.bind_eq_some_iff.1 h
        obtain ⟨rest, hr, h⟩ := Option.map_eq_some_iff.1 h
        cases h
        obtain ⟨he1, he2⟩ := mapM_some he
        simp only [List.length_range] at he1 he2
        have hw1 : (elems.length + rest.length) * P.bytesOf e ≤ reachBytes := hw _ (by simp [DataW.weights, hu])
        have hw2 : ∀ x ∈ DataW.weightsAll P e (elems.map (·.1)), x ≤ reachBytes := fun x hx => hw x (by simp [DataW.weights, hu, hx])
        have hrow : ∀ i, i < len → ∃ r, w.cells? base (a.add (i * P.cellsOf e)) (P.cellsOf e) = some r ∧ Sees P w fuel e r := by
          intro i hi
          have h2 := he2 i hi (by omega)
          rw [List.getElem_range] at h2
          obtain ⟨r, hr1, hr2⟩ := Option.bind_eq_some_iff.1 h2
          exact ⟨r, hr1, trod_sees fuel e r _ _ hr2 (weights_part hw2 _ (List.mem_map_of_mem (List.getElem_mem (by omega))))⟩
        obtain ⟨rows, hl, hrows⟩ : ∃ rows : List (List Value), rows.length = len ∧ ∀ i (h : i < rows.length), w.cells? base (a.add (i * P.cellsOf e)) (P.cellsOf e) = some rows[i] ∧ Sees P w fuel e rows[i] := by
          refine ⟨(List.range len).map fun i => ((w.cells? base (a.add (i * P.cellsOf e)) (P.cellsOf e)).getD []), by simp, fun i hi => ?_⟩
          have hi' : i < len := by simpa using hi
          obtain ⟨r, hr1, hr2⟩ := hrow i hi'
          simp only [List.getElem_map, List.getElem_range, hr1, Option.getD_some]
          exact ⟨trivial, hr2⟩
        refine ⟨some a, len, cap, rfl, hlc, hcm, Nat.le_trans (Nat.mul_le_mul_right _ (by omega)) hw1, (by simp), rows, hl, ?_, fun r hr => ?_⟩
        · have hcell := rows_cells (w := w) (base := base) (a := a) (sz := P.cellsOf e) rows 0 (fun i h => by rw [Nat.zero_add]; exact (hrows i h).1)
          rcases Nat.eq_zero_or_pos rows.flatten.length with h0 | h0
          · exact .inl (List.length_eq_zero_iff.1 h0)
          · obtain ⟨b, off, spot⟩ := a
            have hs : spot = none := by
              have := World.cell?_spot (hcell 0 h0)
              simpa [Addr.add] using this
            subst hs
            refine .inr ⟨b, off, rfl, fun h => h, fun i hi => ?_⟩
            have := hcell i hi
            rw [Nat.zero_mul, Nat.zero_add, Go.WideShapes.add_plain] at this
            exact this
        · obtain ⟨i, hi, rfl⟩ := List.getElem_of_mem hr
          exact ⟨(cells_some (hrows i hi).1).1, (hrows i hi).2⟩
      · cases h
    · rename_i fs hu
      rw [hu]
      split at h
      · rename_i hl
        obtain ⟨xs, hx, h⟩ := Option.map_eq_some_iff.1 h
        cases h
        obtain ⟨h1, h2⟩ := mapM_some hx
        refine ⟨hl, fun f hf => ?_⟩
        obtain ⟨i, hi, rfl⟩ := List.getElem_of_mem hf
        have h3 := h2 i hi (by omega)
        refine trod_sees fuel _ _ _ _ h3 ?_
        have hw2 : ∀ x ∈ DataW.weightsEach P (fs.toList.map (·.type)) (xs.map (·.1)), x ≤ reachBytes := fun x hx => hw x (by simpa [DataW.weights, hu] using hx)
        have := weights_field hw2 i (by simpa using hi) (by simp; omega)
        simpa using this
      · cases h
    · rename_i m e hu
      rw [hu]
      split at h
      · rename_i hl
        obtain ⟨xs, hx, h⟩ := Option.map_eq_some_iff.1 h
        cases h
        obtain ⟨h1, h2⟩ := mapM_some hx
        simp only [List.length_range] at h1 h2
        refine ⟨hl, fun i hi => ?_⟩
        have h3 := h2 i hi (by omega)
        rw [List.getElem_range] at h3
        refine trod_sees fuel _ _ _ _ h3 ?_
        have hw2 : ∀ x ∈ DataW.weightsAll P e (xs.map (·.1)), x ≤ reachBytes := fun x hx => hw x (by simpa [DataW.weights, hu] using hx)
        exact weights_part hw2 _ (List.mem_map_of_mem (List.getElem_mem (by omega)))
      · cases h
    all_goals first | (rename_i hu; rw [hu]; trivial) | (rename_i hu _; rw [hu]; trivial) | (rename_i hu _ _; rw [hu]; trivial) | cases h
end

/-- Cells that are whole numbers of these kinds. -/
def FlatC : List IntKind → List Value → Prop
  | [], [] => True
  | k :: ks, v :: cs => (∃ z, v = .int k z ∧ (Lit.int k z).wf = true) ∧ FlatC ks cs
  | _, _ => False
theorem FlatC.length : ∀ {ks : List IntKind} {cs : List Value}, FlatC ks cs → cs.length = ks.length
  | [], [], _ => rfl
  | k :: ks, v :: cs, h => by simp [FlatC.length h.2]
  | [], _ :: _, h => h.elim
  | _ :: _, [], h => h.elim
theorem FlatC.append : ∀ {ks ls : List IntKind} {cs ds : List Value}, FlatC ks cs → FlatC ls ds → FlatC (ks ++ ls) (cs ++ ds)
  | [], _, [], _, _, h => h
  | k :: ks, _, v :: cs, _, h, h' => ⟨h.1, FlatC.append h.2 h'⟩
  | [], _, _ :: _, _, h, _ => h.elim
  | _ :: _, _, [], _, h, _ => h.elim

def flatFs (P : Program) (g : TypeId → Option (List IntKind)) : List Field → Nat → Option (List IntKind)
  | [], _ => some []
  | f :: fs, off => (g f.type).bind fun ks => if f.offset = off ∧ P.cellsOf f.type = ks.length then (flatFs P g fs (off + ks.length)).map (ks ++ ·) else none
/-- The kinds of a type that is whole numbers alone, one a cell. -/
def flatK (P : Program) : Nat → TypeId → Option (List IntKind)
  | 0, _ => none
  | n + 1, t => match P.underlying t with
    | some (.int k) => some [k]
    | some (.struct fs) => (flatFs P (flatK P n) fs.toList 0).bind fun ks => if P.cellsOf t = ks.length then some ks else none
    | some (.array m e) => (flatK P n e).bind fun ks => if P.cellsOf e = ks.length ∧ P.cellsOf t = m * ks.length then some (List.replicate m ks).flatten else none
    | _ => none

section
variable {P : Program} {w : World}
theorem flatFs_sees {n : Nat} {g : TypeId → Option (List IntKind)} (hg : ∀ t ks cs, g t = some ks → Sees P w n t cs → FlatC ks cs) : ∀ (fs : List Field) (off : Nat) (ks : List IntKind) (cs : List Value),
    flatFs P g fs off = some ks → (∀ f ∈ fs, Sees P w n f.type ((cs.drop f.offset).take (P.cellsOf f.type))) → FlatC ks ((cs.drop off).take ks.length)
  | [], off, ks, cs, h, _ => by cases h; trivial
  | f :: fs, off, ks, cs, h, hs => by
    obtain ⟨k1, h1, h⟩ := Option.bind_eq_some_iff.1 h
    split at h
    · rename_i ho
      obtain ⟨k2, h2, h⟩ := Option.map_eq_some_iff.1 h
      subst h
      have a1 := hg _ _ _ h1 (hs f (by simp))
      have a2 := flatFs_sees hg fs (off + k1.length) k2 cs h2 (fun f hf => hs f (by simp [hf]))
      rw [ho.1, ho.2] at a1
      have := a1.append a2
      rwa [show (cs.drop off).take k1.length ++ (cs.drop (off + k1.length)).take k2.length = (cs.drop off).take (k1 ++ k2).length by
        rw [List.length_append, List.take_add, List.drop_drop]] at this
    · cases h
theorem flat_rep {n : Nat} {e : TypeId} {ks : List IntKind} {cs : List Value} (hg : ∀ cs, Sees P w n e cs → FlatC ks cs) : ∀ (m : Nat), (∀ i, i < m → Sees P w n e ((cs.drop (i * ks.length)).take ks.length)) →
    FlatC (List.replicate m ks).flatten (cs.take (m * ks.length))
  | 0, _ => by simp [FlatC]
  | m + 1, h => by
    have a1 := flat_rep hg m (fun i hi => h i (by omega))
    have a2 := hg _ (h m (by omega))
    have := a1.append a2
    rw [List.replicate_succ', List.flatten_append]
    simp only [List.flatten_cons, List.flatten_nil, List.append_nil]
    rwa [show cs.take (m * ks.length) ++ (cs.drop (m * ks.length)).take ks.length = cs.take ((m + 1) * ks.length) by
      rw [Nat.add_mul, Nat.one_mul, List.take_add]] at this
theorem flat_sees : ∀ (m n : Nat) (t : TypeId) (ks : List IntKind) (cs : List Value), flatK P m t = some ks → Sees P w n t cs → FlatC ks cs
  | 0, _, _, _, _, h, _ => by cases h
  | _ + 1, 0, _, _, _, _, h => h.elim
  | m + 1, n + 1, t, ks, cs, h, hs => by
    unfold flatK at h
    unfold Sees at hs
    split at h
    · rename_i k hu
      rw [hu] at hs
      cases h
      obtain ⟨z, rfl, hz⟩ := hs
      exact ⟨⟨z, rfl, hz⟩, trivial⟩
    · rename_i fs hu
      rw [hu] at hs
      obtain ⟨k1, h1, h⟩ := Option.bind_eq_some_iff.1 h
      split at h
      · rename_i hc
        cases h
        have := flatFs_sees (fun t ks cs => flat_sees m n t ks cs) fs.toList 0 ks cs h1 hs.2
        rwa [List.drop_zero, List.take_of_length_le (by rw [hs.1, hc]; exact Nat.le_refl _)] at this
      · cases h
    · rename_i mm e hu
      rw [hu] at hs
      obtain ⟨k1, h1, h⟩ := Option.bind_eq_some_iff.1 h
      split at h
      · rename_i hc
        cases h
        have := flat_rep (cs := cs) (fun cs hcs => flat_sees m n e k1 cs h1 hcs) mm (by rw [← hc.1]; exact hs.2)
        rwa [List.take_of_length_le (by rw [hs.1, hc.2]; exact Nat.le_refl _)] at this
      · cases h
    · cases h
end

/-- A value of type t that came in. -/
def SeesV (P : Program) (w : World) (t : TypeId) (v : Value) : Prop := ∃ n, Sees P w n t v.cells.toList
section
variable {P : Program} {w : World} {t e : TypeId} {v : Value} {r : Reach} {b0 : Nat}
theorem sees_of {H : Type} {enc : TypeId × Value → H} {base : Nat} {spare : Nat → Bool} {held : Bool} {d : DataW H} {ps : List MemPlace} {ts : List TypeId} {ds : List (DataW H)}
    (h : DataW.Trod enc P w base spare held t v d ps) (hsz : (DataW.weightsEach P ts ds).all (· ≤ reachBytes) = true) (j : Nat) (ht : ts[j]? = some t) (hd : ds[j]? = some d) : SeesV P w t v := by
  obtain ⟨n, h⟩ := h
  obtain ⟨h1, rfl⟩ := List.getElem?_eq_some_iff.1 ht
  obtain ⟨h2, rfl⟩ := List.getElem?_eq_some_iff.1 hd
  exact ⟨n, trod_sees n _ _ _ _ h (weights_field (fun x hx => by simpa using List.all_eq_true.1 hsz x hx) j h1 h2)⟩

theorem see_int {k : IntKind} (hu : P.underlying t = some (.int k)) (hv : Value.okWide P w r b0 t v) (h : SeesV P w t v) : ∃ z, v = .int k z ∧ (Lit.int k z).wf = true := by
  obtain ⟨n, h⟩ := h
  cases n with
  | zero => exact h.elim
  | succ n =>
    unfold Sees at h
    rw [hu] at h
    obtain ⟨z, hz, hw⟩ := h
    simp only [Value.okWide, hu, Cell.okWide, Cell.ok] at hv
    cases v <;> simp_all [Value.cells]
theorem see_str (hu : P.underlying t = some .string) (hv : Value.okWide P w r b0 t v) (h : SeesV P w t v) : ∃ s : ByteArray, v = .string s ∧ s.size ≤ 140737488351232 := by
  obtain ⟨n, h⟩ := h
  cases n with
  | zero => exact h.elim
  | succ n =>
    unfold Sees at h
    rw [hu] at h
    obtain ⟨s, hz, hw⟩ := h
    obtain ⟨s', rfl⟩ := Go.WideShapes.okWide_string hu hv
    have : s' = s := by simpa [Value.cells] using hz
    subst this
    exact ⟨s', rfl, hw⟩
theorem see_flat {ks : List IntKind} (hu : (∃ fs, P.underlying t = some (.struct fs)) ∨ ∃ m e, P.underlying t = some (.array m e)) (m : Nat) (hk : flatK P m t = some ks) (hv : Value.okWide P w r b0 t v) (h : SeesV P w t v) : ∃ cs : Array Value, v = .agg cs ∧ FlatC ks cs.toList := by
  obtain ⟨n, h⟩ := h
  have : ∃ cs, v = .agg cs := by
    rcases hu with ⟨fs, hu⟩ | ⟨mm, e, hu⟩ <;> (simp only [Value.okWide, hu] at hv; obtain ⟨cs, rfl, _⟩ := hv; exact ⟨cs, rfl⟩)
  obtain ⟨cs, rfl⟩ := this
  exact ⟨cs, rfl, flat_sees m n t ks _ hk h⟩
/-- A slice whose elements are whole numbers alone. -/
theorem see_flats {ks : List IntKind} (hu : P.underlying t = some (.slice e)) (m : Nat) (hk : flatK P m e = some ks) (hv : Value.okWide P w r b0 t v) (h : SeesV P w t v) :
    ∃ A c, ∃ rows : List (List Value), v = .slice A rows.length c ∧ rows.length ≤ c ∧ c ≤ maxLen ∧ rows.length * P.bytesOf e ≤ 140737488351232 ∧ (A = none → rows = []) ∧ Rd (fun _ => False) w A rows.flatten ∧ ∀ x ∈ rows, FlatC ks x := by
  obtain ⟨n, h⟩ := h
  cases n with
  | zero => exact h.elim
  | succ n =>
    unfold Sees at h
    rw [hu] at h
    obtain ⟨A, len, cap, hz, hlc, hcm, hw, hn, rows, hl, hrd, hrows⟩ := h
    obtain ⟨a, l, c, rfl⟩ := Go.WideShapes.okWide_slice hu hv
    have hz' : a = A ∧ l = len ∧ c = cap := by simpa [Value.cells] using hz
    obtain ⟨rfl, rfl, rfl⟩ := hz'
    subst hl
    exact ⟨_, _, rows, rfl, hlc, hcm, hw, fun h => List.length_eq_zero_iff.1 (hn h), hrd, fun x hx => flat_sees m n e ks x hk (hrows x hx).2⟩
end
theorem wf_u8 {z : Int} (h : (Lit.int .u8 z).wf = true) : 0 ≤ z ∧ z ≤ 255 := by
  simp [Lit.wf, IntKind.has, IntKind.min, IntKind.max, IntKind.signed, IntKind.bits] at h; omega
theorem wf_u16 {z : Int} (h : (Lit.int .u16 z).wf = true) : 0 ≤ z ∧ z ≤ 65535 := by
  simp [Lit.wf, IntKind.has, IntKind.min, IntKind.max, IntKind.signed, IntKind.bits] at h; omega
theorem wf_i64 {z : Int} (h : (Lit.int .i64 z).wf = true) : -9223372036854775808 ≤ z ∧ z ≤ 9223372036854775807 := by
  simp [Lit.wf, IntKind.has, IntKind.min, IntKind.max, IntKind.signed, IntKind.bits] at h; omega
theorem wf_i32 {z : Int} (h : (Lit.int .i32 z).wf = true) : -2147483648 ≤ z ∧ z ≤ 2147483647 := by
  simp [Lit.wf, IntKind.has, IntKind.min, IntKind.max, IntKind.signed, IntKind.bits] at h; omega

/-- Rows of one byte each are bytes. -/
theorem bytes_of_rows : ∀ (rows : List (List Value)), (∀ x ∈ rows, FlatC [.u8] x) → ∃ bs : List UInt8, bs.length = rows.length ∧ rows.flatten = u8s bs
  | [], _ => ⟨[], rfl, rfl⟩
  | x :: rows, h => by
    obtain ⟨bs, h1, h2⟩ := bytes_of_rows rows (fun y hy => h y (by simp [hy]))
    have hx := h x (by simp)
    match x, hx with
    | [v], hx =>
      obtain ⟨⟨z, rfl, hz⟩, _⟩ := hx
      obtain ⟨z0, z1⟩ := wf_u8 hz
      refine ⟨UInt8.ofNat z.toNat :: bs, by simp [h1], ?_⟩
      rw [List.flatten_cons, h2]
      simp [u8s, UInt8.toNat_ofNat']
      omega
theorem see_bytes {P : Program} {w : World} {t e : TypeId} {v : Value} {r : Reach} {b0 : Nat} (hu : P.underlying t = some (.slice e)) (m : Nat) (hk : flatK P m e = some [.u8]) (hb : P.bytesOf e = 1) (hv : Value.okWide P w r b0 t v) (h : SeesV P w t v) :
    ∃ A c, ∃ bs : List UInt8, v = .slice A bs.length c ∧ bs.length ≤ c ∧ c ≤ maxLen ∧ bs.length ≤ 140737488351232 ∧ Rd (fun _ => False) w A (u8s bs) := by
  obtain ⟨A, c, rows, rfl, hlc, hcm, hw, hn, hr, hf⟩ := see_flats hu m hk hv h
  obtain ⟨bs, h1, h2⟩ := bytes_of_rows rows hf
  rw [hb, Nat.mul_one] at hw
  rw [h2] at hr
  exact ⟨A, c, bs, by rw [h1], by omega, hcm, by omega, hr⟩
end Go.Proofs.Ytdakeenjeieekaa
