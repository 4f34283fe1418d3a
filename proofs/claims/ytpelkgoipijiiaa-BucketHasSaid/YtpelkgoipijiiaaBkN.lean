/- Chapter 12: the document's bucket: Asked, Keeps, Has, Take. -/
import Derived.Test.YtpelkgoipijiiaaBkM
import Derived.Test.YtpelkgoipijiiaaKd
import Derived.Test.YtpelkgoipijiiaaQRefx
set_option linter.unusedVariables false
set_option linter.unusedSimpArgs false
namespace Go.Proofs.Ytpelkgoipijiiaa
open Go.RowKit Go.Proofs.YtpelkgoipijiiaaW.PrintWords QRef

/-- The document's bucket, as a value: a spec, a row of sendings, a tick. -/
abbrev rbc (s : Sp) (A : Option Addr) (n c : Nat) (now : Int) : Array Value := #[.int .i64 s.peak, .int .i64 s.rate, .int .i64 s.burst, .int .i64 s.most, .int .i64 s.least, .slice A n c, .int .i64 now]
def ofSe (p : Int × Int) : S36 := ⟨p.1, p.2⟩
theorem kd_sends {w : World} {S : Nat → Prop} {A : Option Addr} {l : List (Int × Int)} (hn : l.length ≤ 9223372036854775807) (h : Rd S w A (sends l)) : Kd.C k36 w A (l.map ofSe).length (l.map ofSe) := by
  refine kd_of_rd (S := S) (fun x : S36 => [.int .i64 x.f0, .int .i64 x.f1]) (fun x => k36_mk w x) (fun x => rfl) (by decide) (by simpa using hn) ?_
  rw [List.flatMap_map]
  exact h
theorem toSe_ofSe (l : List (Int × Int)) : (l.map ofSe).map toSe = l := by
  rw [List.map_map]
  exact List.map_id l
theorem rd_ofSe (l : List (Int × Int)) (i : Nat) (hi : i < l.length) : rd_T36 (l.map ofSe) (i : Int) = ⟨at_ l i, sz_ l i⟩ := by
  unfold rd_T36
  rw [Int.toNat_natCast, List.getD_eq_getElem?_getD, List.getElem?_map, List.getElem?_eq_getElem hi, at_eq l i hi, sz_eq l i hi]
  rfl

theorem rasked_calls (s : Sp) (A : Option Addr) (n c : Nat) (now t : Int) (w : World) :
    Calls Try.prog 20 #[.agg (rbc s A n c now), .int .i64 t] w fun e w' => e = .returned (.int .i64 (if now ≤ t ∧ t ≤ 2147483647 then 0 else 2)) ∧ Fr0 w w' := by
  have HB := Lib.hid (heap_alloc_new w (.cells (rbc s A n c now) 32))
  have c6 : (w.alloc (.cells (rbc s A n c now) 32)).cell? ⟨w.heap.size, 6, none⟩ = some (.int .i64 now) := cell_of_blk HB.out 6
  have HF := Lib.hid ((Fr.refl (fun _ => False) w).alloc (.cells (rbc s A n c now) 32))
  by_cases h1 : t < now
  · rw [if_neg (by omega)]
    go_enter Try.func20, Try.ntmps20
    go_wp2_with fail
    go_ret
    exact ⟨rfl, HF.out⟩
  · by_cases h2 : 2147483647 < t
    · rw [if_neg (by omega)]
      go_enter Try.func20, Try.ntmps20
      go_wp2_with fail
      go_ret
      exact ⟨rfl, HF.out⟩
    · rw [if_pos (by omega)]
      go_enter Try.func20, Try.ntmps20
      go_wp2_with fail
      go_ret
      exact ⟨rfl, HF.out⟩

theorem rbkeeps_calls (s : Sp) (A : Option Addr) (c : Nat) (l : List (Int × Int)) (now t z : Int) (w : World) (hR : Rd (fun _ => False) w A (sends l)) (hl : l.length ≤ 100) (hc : l.length ≤ c) (hr : s.Right) :
    Calls Try.prog 22 #[.agg (rbc s A l.length c now), .int .i64 t, .int .i64 z] w fun e w' => e = .returned (.bool (decide (Keeps s (l ++ [(t, z)])))) ∧ Fr0 w w' := by
  have hf : postroadref12_Bucket_Keeps.f s.peak s.rate s.burst s.most s.least (l.map ofSe) now t z = some (decide (Keeps s (l ++ [(t, z)]))) := by
    unfold postroadref12_Bucket_Keeps.f
    rw [if_pos (by simp; omega)]
    simp only [Option.bind_some, List.nil_append]
    rw [if_pos (by simp; omega)]
    unfold postroadref02_Keeps.f
    have e : (l.map ofSe ++ [(⟨t, z⟩ : S36)]).map toSe = l ++ [(t, z)] := by
      rw [List.map_append, toSe_ofSe]
      rfl
    rw [if_pos ⟨hr, by simp; omega⟩, e]
    rfl
  have := postroadref12_Bucket_Keeps.calls s.peak s.rate s.burst s.most s.least A c (l.map ofSe) now t z _ w (kd_sends (by omega) hR) (by simpa using hc) hf
  rw [List.length_map] at this
  exact this.mono fun e w' ⟨he, hb⟩ => ⟨he, Fr0.of_below hb⟩

theorem rleast_f (a b : Int) : postroadref12_least.f a b = some (min a b) := by
  unfold postroadref12_least.f
  split <;> congr 1 <;> omega
theorem IsHas.uniq {cap rate : Int} {l : List (Int × Int)} {now h h' : Int} (a : IsHas cap rate l now h) (b : IsHas cap rate l now h') : h = h' := by
  have a1 := a.le
  have b1 := b.le
  rcases a.is with e | ⟨k, hk, e⟩
  · rcases b.is with f | ⟨j, hj, f⟩
    · omega
    · have := a.all j hj; omega
  · rcases b.is with f | ⟨j, hj, f⟩
    · have := b.all k hk; omega
    · have := a.all j hj; have := b.all k hk; omega
theorem keeps_order {s : Sp} {l : List (Int × Int)} (h : Keeps s l) : ∀ i, i < l.length → ∀ k, k ≤ i → at_ l k ≤ at_ l i := fun i hi =>
  at_mono (fun j hj => h j (by omega)) (h i hi).order
theorem w64 {x : Int} (h : -9223372036854775808 ≤ x ∧ x ≤ 9223372036854775807) : wrap64 x = x := by unfold wrap64; omega
theorem has_prod {r t u : Int} (a : 0 ≤ r) (b : r ≤ 1000000) (c : 0 ≤ t) (d : t ≤ u) (e : u ≤ 2147483647) : 0 ≤ r * (u - t) ∧ r * (u - t) ≤ 2147483647000000 :=
  ⟨Int.mul_nonneg a (by omega), by have := mul_le_of (a := r) (b := u - t) (x := 1000000) (y := 2147483647) a b (by omega) (by omega); omega⟩
theorem has_min {cap h x lo : Int} (h1 : h ≤ cap) (h2 : cap ≤ 10000000) (h3 : lo ≤ h) (h4 : 0 ≤ x) : lo ≤ min cap (h + x) ∧ min cap (h + x) ≤ 10000000 := by omega
/-- One step of the document's Has, of one kind: nothing wraps. -/
theorem has_step {cap rate h t u lo z : Int} (h1 : h ≤ cap) (h2 : cap ≤ 10000000) (h3 : lo ≤ h) (hlo : -1000000 ≤ lo) (r0 : 0 ≤ rate) (r1 : rate ≤ 1000000) (ht : 0 ≤ t) (htu : t ≤ u) (hu : u ≤ 2147483647) (z0 : 0 ≤ z) (z1 : z ≤ 2000) :
    wrap64 (min cap (wrap64 (h + wrap64 (rate * wrap64 (u - t)))) - z) = min cap (h + rate * (u - t)) - z ∧ lo - 2000 ≤ min cap (h + rate * (u - t)) - z := by
  have p := has_prod r0 r1 ht htu hu
  rw [w64 (x := u - t) (by omega)]
  generalize rate * (u - t) = x at *
  rw [w64 (x := x) (by omega), w64 (x := h + x) (by omega)]
  have q := has_min h1 h2 h3 p.1
  generalize min cap (h + x) = m at *
  rw [w64 (x := m - z) (by omega)]
  exact ⟨rfl, by omega⟩
theorem has_l (s : Sp) (hr : s.Right) (l : List (Int × Int)) (hk : Keeps s l) (hl : l.length ≤ 100) (now : Int) (hn : 0 ≤ now ∧ now ≤ 2147483647) (hlast : ∀ k, k < l.length → at_ l k ≤ now) (H0 H1 : Int) (i0 : IsHas s.burst s.rate l now H0) (i1 : IsHas s.most s.peak l now H1) (nw : Int) :
    ∀ (d i k : Nat) (h0 h1 t : Int), i + d = l.length → d + 1 < k → IsHas s.burst s.rate (l.take i) t h0 → IsHas s.most s.peak (l.take i) t h1 → -2000 * (i : Int) ≤ h0 → -2000 * (i : Int) ≤ h1 → 0 ≤ t → t ≤ now → (∀ j, i ≤ j → j < l.length → t ≤ at_ l j) →
      postroadref12_Bucket_Has.l0 k now h0 h1 t (i : Int) s.peak s.rate s.burst s.most s.least (l.map ofSe) nw = some (H0, H1) := by
  have hq : (0 ≤ s.rate ∧ s.rate ≤ 1000000) ∧ (0 ≤ s.peak ∧ s.peak ≤ 1000000) ∧ s.burst ≤ 10000000 ∧ s.most ≤ 10000000 ∧ 0 ≤ s.least ∧ s.most ≤ 2000 := by
    obtain ⟨q1, q2, q3, q4, q5, q6, q7, q8⟩ := hr
    omega
  obtain ⟨⟨r0, r1⟩, ⟨p0, p1⟩, b0, b1, ls, ms⟩ := hq
  clear hr
  intro d
  induction d with
  | zero =>
    intro i k h0 h1 t e hk2 j0 j1 c0 c1 ht htn _
    obtain ⟨k, rfl⟩ : ∃ m, k = m + 1 + 1 := ⟨k - 2, by omega⟩
    obtain rfl : i = l.length := by omega
    rw [List.take_length] at j0 j1
    have a0 := j0.adv r0 (t := now - t) (by omega)
    have a1 := j1.adv p0 (t := now - t) (by omega)
    rw [show t + (now - t) = now by omega] at a0 a1
    have e0 := i0.uniq a0
    have e1 := i1.uniq a1
    have s0 := has_step (z := 0) j0.le b0 c0 (by omega) r0 r1 ht htn hn.2 (by omega) (by omega)
    have s1 := has_step (z := 0) j1.le b1 c1 (by omega) p0 p1 ht htn hn.2 (by omega) (by omega)
    have hlast2 : ∀ a b c : Int, postroadref12_Bucket_Has.l0 (k + 1) now a b c ((l.length : Int) + 1) s.peak s.rate s.burst s.most s.least (l.map ofSe) nw = some (a, b) := fun a b c => by
      simp only [postroadref12_Bucket_Has.l0]
      rw [if_neg (by rw [List.length_map]; omega)]
    generalize hk1 : k + 1 = k1 at *
    simp only [postroadref12_Bucket_Has.l0]
    rw [if_pos (by rw [List.length_map]; omega), if_neg (by rw [List.length_map]; omega), rleast_f, rleast_f]
    rw [Option.bind_some, Option.bind_some]
    rw [w64 (x := (l.length : Int) + 1) (by omega), hlast2, s0.1, s1.1, ← e0, ← e1, Int.sub_zero, Int.sub_zero]
  | succ d ih =>
    intro i k h0 h1 t e hk2 j0 j1 c0 c1 ht htn hord
    obtain ⟨k, rfl⟩ : ∃ m, k = m + 1 := ⟨k - 1, by omega⟩
    have hi : i < l.length := by omega
    have g := hk i hi
    have hto := hord i (Nat.le_refl _) hi
    have hz := g.size
    have htk := g.tick
    have a0 := (j0.adv r0 (t := at_ l i - t) (by omega))
    have a1 := (j1.adv p0 (t := at_ l i - t) (by omega))
    rw [show t + (at_ l i - t) = at_ l i by omega] at a0 a1
    have t0 := a0.take (z := sz_ l i) (by omega)
    have t1 := a1.take (z := sz_ l i) (by omega)
    have etake : l.take i ++ [(at_ l i, sz_ l i)] = l.take (i + 1) := by
      rw [at_eq l i hi, sz_eq l i hi, List.take_succ_eq_append_getElem hi]
    rw [etake] at t0 t1
    have s0 := has_step (z := sz_ l i) j0.le b0 c0 (by omega) r0 r1 ht hto htk.2 (by omega) (by omega)
    have s1 := has_step (z := sz_ l i) j1.le b1 c1 (by omega) p0 p1 ht hto htk.2 (by omega) (by omega)
    have hih := ih (i + 1) k (min s.burst (h0 + s.rate * (at_ l i - t)) - sz_ l i) (min s.most (h1 + s.peak * (at_ l i - t)) - sz_ l i) (at_ l i) (by omega) (by omega) t0 t1 (by have := s0.2; omega) (by have := s1.2; omega) htk.1 (hlast i hi) (fun j h1 h2 => keeps_order hk j h2 i (by omega))
    simp only [postroadref12_Bucket_Has.l0]
    rw [if_pos (by rw [List.length_map]; omega), if_pos (by rw [List.length_map]; omega), if_pos (by omega), rleast_f, rleast_f, rd_ofSe l i hi]
    simp only [Option.bind_some]
    have hw : wrap64 ((i : Int) + 1) = ((i + 1 : Nat) : Int) := by rw [w64 (by omega)]; omega
    rw [s0.1, s1.1, hw]
    exact hih

theorem rhas_calls {s : Sp} {l : List (Int × Int)} {B : Bk} (h : BkOf s l B) (A : Option Addr) (c : Nat) (nw t : Int) (w : World) (hR : Rd (fun _ => False) w A (sends l)) (hl : l.length ≤ 100) (hc : l.length ≤ c) (hm : B.may t) :
    Calls Try.prog 21 #[.agg (rbc s A l.length c nw), .int .i64 t] w fun e w' => e = .returned (.tuple #[.int .i64 (B.adv t).k0.has, .int .i64 (B.adv t).k1.has]) ∧ Fr0 w w' := by
  have ha := h.adv hm.1 hm.2
  have hf : postroadref12_Bucket_Has.f (l.length + 2) s.peak s.rate s.burst s.most s.least (l.map ofSe) nw t = some ((B.adv t).k0.has, (B.adv t).k1.has) := by
    unfold postroadref12_Bucket_Has.f
    have hn := h.now
    obtain ⟨m1, m2⟩ := hm
    have e := has_l s h.right l h.keeps hl t ⟨by omega, m2⟩ (fun k hk => by have := h.last k hk; omega) _ _ ha.h0 ha.h1 nw l.length 0 (l.length + 2) s.burst s.most 0 (by omega) (by omega) (IsHas.nil _ _ _) (IsHas.nil _ _ _)
      (by obtain ⟨q1, q2, q3, q4, q5, q6, q7, q8⟩ := h.right; omega) (by obtain ⟨q1, q2, q3, q4, q5, q6, q7, q8⟩ := h.right; omega) (Int.le_refl _) (by omega) (fun j _ hj => (h.keeps j hj).tick.1)
    exact e
  have := postroadref12_Bucket_Has.calls (l.length + 2) s.peak s.rate s.burst s.most s.least A c (l.map ofSe) nw t _ _ w (kd_sends (by omega) hR) (by simpa using hc) hf
  rw [List.length_map] at this
  exact this.mono fun e w' ⟨he, hb⟩ => ⟨he, Fr0.of_below hb⟩
end Go.Proofs.Ytpelkgoipijiiaa
