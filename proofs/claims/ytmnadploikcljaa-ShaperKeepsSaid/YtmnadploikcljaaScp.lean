/- A scope, walked straight, inside a round of a range over a function. No program in sight. -/
import Derived.Test.YtmnadploikcljaaBase
import Derived.ScopeJumps
import Derived.Test.YtmnadploikcljaaRegion
set_option linter.unusedVariables false
set_option linter.unusedSimpArgs false
namespace Go.Proofs.Ytmnadploikcljaa
open Go.RowKit

section
variable {F : Fence} {n : Nat} {P : Program} {Q : Exit → Act → World → Prop} {a : Act} {w : World}
theorem stepR_scope {b : Frame} {k : List Item} {cs : List Frame} {c : Code} : step P (lone (b.atR a (.code (.scope c) :: k)) cs w) = .next (lone (b.atR a (.code c :: .inScope c :: k)) cs w) :=
  step_lone_go (by simp [stepG, stepG.exec, Frame.atR])
theorem stepR_inScope {b : Frame} {k : List Item} {cs : List Frame} {c : Code} : step P (lone (b.atR a (.inScope c :: k)) cs w) = .next (lone (b.atR a k) cs w) :=
  step_lone_go (by simp [stepG, stepG.exec, Frame.atR])
theorem wpIn_scope_straight {c : Code} (h : c.wpIn F n P (Exit.noGoto Q) a w) : (Code.scope c).wpIn F n P Q a w := by
  intro b k cs hro hb hr
  have h0 : (lone (b.atR a (.code (.scope c) :: k)) cs w).fenced P F := fenced_calm hb hr rfl
  obtain ⟨e, a₁, w₁, hq, harr⟩ := h b (.inScope c :: k) cs hro hb hr
  cases e with
  | normal => exact ⟨.normal, a₁, w₁, hq, .head h0 stepR_scope (StepsIn.trans harr (.one (fenced_calm hb hr rfl) stepR_inScope))⟩
  | exit id =>
    have hx : exitTo id (.inScope c :: k) = exitTo id k := by simp [exitTo]
    exact ⟨_, a₁, w₁, hq, fun k' hk => .head h0 stepR_scope (harr.1 k' (by rw [hx]; exact hk)),
      fun hr' hk => let ⟨k₁, h1, h2⟩ := harr.2 hr' (by rw [hx]; exact hk); ⟨k₁, h1, .head h0 stepR_scope h2⟩⟩
  | goto l => exact hq.elim
  | ret => exact ⟨_, a₁, w₁, hq, .of_steps (.one h0 stepR_scope) harr⟩
  | panic ch => exact ⟨_, a₁, w₁, hq, .of_steps (.one h0 stepR_scope) harr⟩
  | outgrown => exact ⟨_, a₁, w₁, hq, .of_steps (.one h0 stepR_scope) harr⟩
/-- A scope whose gotos all lead forward to one label. -/
theorem wpIn_scope_fwd {c rest : Code} (l : Nat) (hf : findLabel c l = some rest)
    (h : c.wpIn F n P (Exit.jump l (fun a w => rest.wpIn F n P (Exit.noGoto Q) a w) Q) a w) : (Code.scope c).wpIn F n P Q a w := by
  intro b k cs hro hb hr
  have h0 : (lone (b.atR a (.code (.scope c) :: k)) cs w).fenced P F := fenced_calm hb hr rfl
  have hg : gotoIn l (.inScope c :: k) = some (.code rest :: .inScope c :: k) := by simp [gotoIn, hf]
  have fin : ∀ e a₁ w₁, (Exit.noGoto Q) e a₁ w₁ → ∀ m, StepsIn (Machine.fenced P F) P (lone (b.atR a (.code (.scope c) :: k)) cs w) m → ArrivesIn (Machine.fenced P F) P m b (.inScope c :: k) cs e a₁ w₁ →
      ∃ e a' w', Q e a' w' ∧ ArrivesIn (Machine.fenced P F) P (lone (b.atR a (.code (.scope c) :: k)) cs w) b k cs e a' w' := by
    intro e a₁ w₁ hq m hm harr
    cases e with
    | normal => exact ⟨.normal, a₁, w₁, hq, hm.trans (StepsIn.trans harr (.one (fenced_calm hb hr rfl) stepR_inScope))⟩
    | exit id =>
      have hx : exitTo id (.inScope c :: k) = exitTo id k := by simp [exitTo]
      exact ⟨_, a₁, w₁, hq, fun k' hk => hm.trans (harr.1 k' (by rw [hx]; exact hk)),
        fun hr' hk => let ⟨k₁, h1, h2⟩ := harr.2 hr' (by rw [hx]; exact hk); ⟨k₁, h1, hm.trans h2⟩⟩
    | goto l => exact hq.elim
    | ret => exact ⟨_, a₁, w₁, hq, .of_steps hm harr⟩
    | panic ch => exact ⟨_, a₁, w₁, hq, .of_steps hm harr⟩
    | outgrown => exact ⟨_, a₁, w₁, hq, .of_steps hm harr⟩
  obtain ⟨e, a₁, w₁, hq, harr⟩ := h b (.inScope c :: k) cs hro hb hr
  have hm : StepsIn (Machine.fenced P F) P (lone (b.atR a (.code (.scope c) :: k)) cs w) (lone (b.atR a (.code c :: .inScope c :: k)) cs w) := .one h0 stepR_scope
  cases e with
  | goto l' =>
    obtain ⟨rfl, hJ⟩ := hq
    obtain ⟨e₂, a₂, w₂, hq₂, harr₂⟩ := hJ b (.inScope c :: k) cs hro hb hr
    exact fin e₂ a₂ w₂ hq₂ _ (hm.trans (harr.1 _ hg)) harr₂
  | normal => exact fin .normal _ _ hq _ hm harr
  | exit id => exact fin (.exit id) _ _ hq _ hm harr
  | ret => exact fin .ret _ _ hq _ hm harr
  | panic ch => exact fin (.panic ch) _ _ hq _ hm harr
  | outgrown => exact fin .outgrown _ _ hq _ hm harr
end
section
variable {P : Program} {ops : Array Oper} {a : Act} {w : World}
theorem listIn_of_list {r n : Nat} {Q : Exit → Act → World → Prop} (hout : ¬ LetsOut Q) : ∀ (l : List Oper), noDefer l = true → ∀ (a : Act) (w : World), wpList P ops Q l a w → wpListIn (Fence.wide.inRound r) n P ops Q l a w
  | [], _, _, _, h => h
  | o :: rest, hd, a, w, h => by
    have hd' : noDefer rest = true := by
      unfold noDefer at hd ⊢
      rw [List.all_cons, Bool.and_eq_true] at hd
      exact hd.2
    have ih := listIn_of_list (r := r) (n := n) hout rest hd'
    unfold wpList at h
    unfold wpListIn
    split
    · rename_i hwd
      rw [if_pos hwd] at h
      rcases h with h | ⟨_, h⟩
      · refine Oper.wpIn_mono (K := wpList P ops Q rest) (fun a' w' h' => ih a' w' h') ⟨fun f _ => trivial, ?_⟩
        have hnd : ∀ c, o.op ≠ .defer c := by
          intro c e
          unfold noDefer at hd
          rw [List.all_cons, Bool.and_eq_true, e] at hd
          exact absurd hd.1 (by simp)
        show o.uponIn (Fence.wide.inRound r) n P a (wpList P ops Q rest) Q ((o.semAt (some r) a.eval).run P w)
        rw [Oper.semAt_eq _ _ _ hnd]
        unfold Oper.wp at h
        generalize (execOp a.eval o).run P w = res at h
        cases res with
        | ok x w' =>
          cases x <;> simp only [Oper.upon] at h <;> simp only [Oper.uponIn] <;> try exact h
          case enter f args => exact ⟨fun hh => by simp [Fence.inRound, Fence.wide] at hh, CallsIn.inRound r (callsIn_wide.2 h)⟩
          case row row args => exact ⟨fun hh => by simp [Fence.inRound, Fence.wide] at hh, fun c cs _ => by obtain ⟨v, w'', hR, hs⟩ := h c cs; exact ⟨v, w'', hR, stepsIn_wide.2 hs⟩⟩
        | halt x w' => cases x <;> simp only [Oper.upon] at h <;> simp only [Oper.uponIn] <;> exact h
      · exact absurd h hout
    · rename_i hwd
      rw [if_neg hwd] at h
      exact ⟨fun f _ => trivial, ih _ _ h⟩
/-- A region in the text's order, in a round of a range over a function. -/
theorem wpIn_region_plain {id r n : Nat} {Q : Exit → Act → World → Prop} {l : List Oper} (hd : noDefer l = true) (hout : ¬ LetsOut Q) (h : wpList P l.toArray Q l a w) : (Code.region id l.toArray false).wpIn (Fence.wide.inRound r) n P Q a w :=
  wpIn_region_lit (listIn_of_list hout l hd a w h)
end
end Go.Proofs.Ytmnadploikcljaa
