/- Chapter 15: All: the iterator over the packets of a line. -/
import Derived.Test.YtfiiikgjgcnjgaaFfC
set_option linter.unusedVariables false
set_option linter.unusedSimpArgs false
namespace Go.Proofs.Ytfiiikgjgcnjgaa
open Go.RowKit
attribute [local go_sem] Oper.semAt_some

theorem pk_elem : Elem Try.prog 34 3 24 := Elem.of (.agg #[.int .i64 0, .int .i64 0, .int .i64 0]) (by kernel_rfl) rfl (by decide)
/-- An iterator over packets that lie in blocks from base on. -/
def IsSeq (base : Nat) (w : World) (f : Value) (l : List Pk) : Prop :=
  ∃ p A c, f = .func (.func 35) #[] #[.pointer (some ⟨p, 0, none⟩)] ∧ base ≤ p ∧ w.heap[p]? = some (.cells #[.slice A l.length c] 28 (0, 0)) ∧ Rd (· < base) w A (pks l)
theorem IsSeq.kept {base : Nat} {w w' : World} {f : Value} {l : List Pk} {S : Nat → Prop} (h : IsSeq base w f l) (hf : Fr S w w') (hS : ∀ k, S k → k < base) : IsSeq base w' f l := by
  obtain ⟨p, A, c, h1, h2, h3, h4⟩ := h
  exact ⟨p, A, c, h1, h2, hf.blk h3 (fun hs => by have := hS _ hs; omega), h4.kept (hf.mono (fun k _ hk => hS k hk))⟩
theorem IsSeq.kept0 {base : Nat} {w w' : World} {f : Value} {l : List Pk} (h : IsSeq base w f l) (hf : Fr0 w w') : IsSeq base w' f l := h.kept hf (fun _ h => h.elim)
theorem pk_one (X : Ln) (n : Nat) : pks [X.pk n] = pkc (X.pk n) := by simp [pks]
theorem all_take (X : Ln) (k : Nat) (h : k < X.many) : X.all.take (k + 1) = X.all.take k ++ [X.pk k] := by
  have hl : k < X.all.length := by rw [X.all_length]; exact h
  rw [List.take_succ_eq_append_getElem hl]
  simp [Ln.all]
theorem rd_pk1 (S : Nat → Prop) (w : World) (p : Pk) (t : TypeId) (hS : ¬ S w.heap.size) : Rd S (w.alloc (.cells #[.int .i64 p.id, .int .i64 p.flow, .int .i64 p.size] t)) (some ⟨w.heap.size, 0, none⟩) (pks [p]) := by
  refine .inr ⟨_, 0, rfl, hS, fun i hi => ?_⟩
  have := cell_of_blk (heap_alloc_new w (.cells #[.int .i64 p.id, .int .i64 p.flow, .int .i64 p.size] t)) (0 + i)
  rw [this, Nat.zero_add]
  simp [pks] at hi ⊢
theorem ring_pk {X : Ln} (h : X.Ok) (n : Nat) : (X.first + n) % X.ring.length < X.ring.length := Nat.mod_lt _ (by have := h.len; omega)

set_option maxHeartbeats 1000000 in
theorem fall_calls (b g : Nat) (X : Ln) (w : World) (h : IsLn w b g X) : Calls Try.prog 19 #[.pointer (some ⟨b, 0, none⟩)] w fun e w' => (∃ f, e = .returned f ∧ IsSeq w.heap.size w' f X.all) ∧ Fr0 w w' := by
  have hmf : ∀ (fn : Fn) (first cap : Array Value) (w : World), (Instr.makeFunc fn first cap).run Try.prog w = .ok (.func fn first cap) w := fun _ _ _ _ => rfl
  have hmx : Try.prog.follows .mixedOrders = true := by kernel_rfl
  have HX := Lib.hid h
  have hm1 := h.ok.many
  have hm2 := h.max
  have hm3 := X.all_length
  have HN := Lib.hid (fun w' (h : IsLn w' b g X) => fnone_calls b g X w' h)
  have HA := Lib.hid (fun n w' (h : IsLn w' b g X) hn => fat_calls b g X n w' h hn)
  have HL := Lib.hid hm3
  clear h hm3
  go_enter Try.func19, Try.ntmps19
  go_wp2_with fail
  go_loopw [4] (fun i wr => ∃ (k : Nat) (v : Value), k ≤ X.many ∧ i = .int .i64 (k : Int) ∧ Hid (wr.ownsRow w.heap.size 34 3 v k (pks (X.all.take k))) ∧ Hid (wr.heap[w.heap.size]? = some (.cells #[v] 28 (0, 0))) ∧ Hid (v.ownBlock ≠ some w.heap.size) ∧ Hid (Fr0 w wr)) (fun i _ => X.many - (intOf i).toNat)
  case atStart => exact ⟨0, .slice none 0 0, by omega, rfl, own_nil _ _ _ _, heap_alloc_new _ _, by simp [Hid, Value.ownBlock], (Fr.refl _ w).alloc _⟩
  case round =>
    obtain ⟨k, v, hk, rfl, HO, HP, HV, HF⟩ := hrel
    have HX2 := Lib.hid (HX.out.kept0 HF.out)
    obtain ⟨c, _, _, hb⟩ := HX2.out.blk
    obtain ⟨c0, c1, c2, c3, c4, c5, c6⟩ := ln_cells hb
    clear hb
    by_cases hlt : k < X.many
    · have HG := Lib.hid (show wr.heap.size = wr.heap.size from rfl)
      obtain ⟨A, cv, rfl, hvc, hvm⟩ := own_form HO.out
      go_wp2_with (first | (go_at_call 28; refine (HN.out _ HX2.out).mono ?_; rintro e w' ⟨rfl, rfl⟩))
      obtain ⟨t, sp, hr⟩ := HX2.out.row
      have hat := ring_pk HX2.out.ok k
      obtain ⟨d0, d1, d2⟩ := row_cells hr _ hat
      have hi1 : (0 : Int) ≤ (((X.first + k) % X.ring.length : Nat) : Int) := by omega
      have hi2 : (((X.first + k) % X.ring.length : Nat) : Int) < (X.ring.length : Int) := by omega
      have hpk : X.ring.getD ((X.first + k) % X.ring.length) pk0 = X.pk k := rfl
      rw [hpk] at d0 d1 d2
      have HAT := Lib.hid (fun w' h => HA.out k w' h (by omega))
      generalize (X.first + k) % X.ring.length = i at *
      have p0 : wr.cell? ⟨w.heap.size, 0, none⟩ = some (.slice A k cv) := cell_of_blk HP.out 0
      have HK := Lib.hid (fun U (h : Fr0 wr U) => (show U.cell? ⟨w.heap.size, 0, none⟩ = some (.slice A k cv) ∧ U.cell? ⟨b, 3, none⟩ = some (.slice (some ⟨g, 0, none⟩) X.ring.length c) ∧ U.cell? ⟨g, i * 3, none⟩ = some (.int .i64 (X.pk k).id) ∧ U.cell? ⟨g, i * 3 + 1, none⟩ = some (.int .i64 (X.pk k).flow) ∧ U.cell? ⟨g, i * 3 + 2, none⟩ = some (.int .i64 (X.pk k).size) from
        ⟨h.cell p0 (fun h => h), h.cell c3 (fun h => h), h.cell d0 (fun h => h), h.cell d1 (fun h => h), h.cell d2 (fun h => h)⟩))
      have HXD := Lib.hid (show IsLn wr.drew b g X from HX2.out.kept0 (Fr.refl _ wr).drew)
      have HTK := Lib.hid (all_take X k hlt)
      clear hpk hat hr
      generalize X.pk k = pk at *
      generalize X.ring.length = len at *
      go_region_law ((first
        | (go_simp; go_at_call 31; refine (HAT.out _ (by first | exact HXD.out)).mono ?_; rintro e w5 ⟨rfl, hf5⟩; have hfB : Fr0 wr w5 := (Fr.refl _ wr).drew.trans hf5; obtain ⟨q0, q1, q2, q3, q4⟩ := HK.out _ hfB; have q5 : ∀ o, (w5.alloc o).cell? ⟨w.heap.size, 0, none⟩ = some (.slice A k cv) := fun o => (hfB.alloc o).cell p0 (fun h => h))
        | (refine step_app rfl (.tmp 18) (.tmp 28) _ rfl Try.underlying28 pk_elem (base := w.heap.size) (.slice A k cv) k (pks (X.all.take k)) rfl (own_kept0 HO.out (hfB.alloc _)) (fun _ => False) _ 1 1 (pks [pk]) rfl (rd_pk1 _ _ pk _ (fun h => h)) rfl (pks_one _) (by simp only [maxLen]; omega) (by omega) (by have := HF.out.size; have := hfB.size; simp; omega) (by simp) ?_; intro v6 w6 hown hg hat; obtain ⟨A6, cv6, rfl, hvc6, hvm6⟩ := own_form hown; have hP6 := blk_grown (blk_alloc (hfB.blk HP.out (fun h => h)) _) hg (fun e => HV.out e.symm); have p6 : w6.cell? ⟨w.heap.size, 0, none⟩ = some (.slice A k cv) := cell_of_blk hP6 0; have f6 : w6.frozen? ⟨w.heap.size, 0, none⟩ = false := free_of_blk hP6 0)))
      all_goals
        have hlt5 : w.heap.size < w5.heap.size := by have h1 := lt_of_block HP.out; have h2 := hfB.size; omega
        have hne6 : (Value.slice A6 (k + 1) cv6).ownBlock ≠ some w.heap.size := by
          rcases hat with e | e
          · rw [e]; exact HV.out
          · rw [e]; simp; omega
        have HO7 := Lib.hid (own_kept (w' := w6.setCell ⟨w.heap.size, 0, none⟩ (.slice A6 (k + 1) cv6)) hown ((Fr.refl (· = w.heap.size) w6).setCell (fun _ => rfl) _) (fun q hq e => hne6 (by rw [hq, e])))
        have HP7 := Lib.hid (blk_setCell hP6 0 (.slice A6 (k + 1) cv6))
        have HF7 := Lib.hid ((((HF.out.trans hfB).alloc (.cells #[.int .i64 pk.id, .int .i64 pk.flow, .int .i64 pk.size] 34)).grown hg (fun q hq e => by have := (HO.out.lt q e).1; omega)).setCell (p := ⟨w.heap.size, 0, none⟩) (fun h => absurd h (Nat.lt_irrefl _)) (.slice A6 (k + 1) cv6))
        have HV7 := Lib.hid hne6
        generalize hW7 : w6.setCell ⟨w.heap.size, 0, none⟩ (.slice A6 (k + 1) cv6) = w7 at *
        rw [← pks_append, ← HTK.out] at HO7
        clear hW7 hne6 hlt5 hown hg hat hP6 p6 f6 q0 q1 q2 q3 q4 q5 hf5 hfB
        go_wp2_with fail
        go_roundw
        case rel => exact ⟨k + 1, _, by omega, by go_num, HO7.out, HP7.out, HV7.out, HF7.out⟩
        case measure => simp [intOf]; omega
    · have hkm : k = X.many := by omega
      subst hkm
      go_wp2_with (first | (go_at_call 28; refine (HN.out _ HX2.out).mono ?_; rintro e w' ⟨rfl, rfl⟩))
      go_ret
      obtain ⟨A, cv, rfl, hvc, hvm⟩ := own_form HO.out
      have ho := HO.out
      have htk : X.all.take X.many = X.all := List.take_of_length_le (by rw [HL.out]; omega)
      rw [htk] at ho
      exact ⟨⟨_, rfl, _, A, cv, rfl, Nat.le_refl _, by rw [HL.out]; exact HP.out, own_rd _ ho (fun q h1 h2 h3 => by omega)⟩, HF.out⟩
end Go.Proofs.Ytfiiikgjgcnjgaa
