/- Chapter 02: the statement SpecPairs walked. -/
import Derived.Test.YtedgnmpdmjcadaaSpW
import Derived.Test.YtedgnmpdmjcadaaRegC
set_option linter.unusedVariables false
set_option linter.unusedSimpArgs false
namespace Go.Proofs.Ytedgnmpdmjcadaa
open Go.RowKit

/-- What Within answers. -/
def wiA (a b : Sp) : Bool × Int := if a.Right ∧ b.Right then (decide (Inn a b), 0) else (false, 2)
theorem wiA_ret (a b : Sp) : (if a.Right ∧ b.Right then Value.tuple #[.bool (decide (Inn a b)), .int .i64 0] else .tuple #[.bool false, .int .i64 2]) = .tuple #[.bool (wiA a b).1, .int .i64 (wiA a b).2] := by
  unfold wiA; split <;> rfl
theorem withinA_calls (a b : Sp) (w : World) : Calls Try.prog 23 #[spv a, spv b] w fun e w' => e = .returned (.tuple #[.bool (wiA a b).1, .int .i64 (wiA a b).2]) ∧ Fr0 w w' := by
  have := within2_calls a b w
  rwa [wiA_ret] at this
theorem jointB_calls (A : Option Addr) (c : Nat) (l : List Sp) (w : World) (hR : Rd (fun _ => False) w A (sps l)) (hl : l.length ≤ 1000000) (hc : l.length ≤ c) :
    Calls Try.prog 22 #[.slice A l.length c] w fun e w' => e = .returned (.tuple #[spv (jnA l).1, .int .i64 (jnA l).2]) ∧ Fr0 w w' := by
  have := joint_calls A c l w hR hl hc
  rwa [jnA_ret] at this
theorem sumB_calls (A : Option Addr) (c : Nat) (l : List Sp) (w : World) (hR : Rd (fun _ => False) w A (sps l)) (hl : l.length ≤ 1000000) (hc : l.length ≤ c) :
    Calls Try.prog 19 #[.slice A l.length c] w fun e w' => e = .returned (.tuple #[spv (smA l).1, .int .i64 (smA l).2]) ∧ Fr0 w w' := by
  have := sum_calls A c l w hR hl hc
  rwa [smA_ret] at this
/-- All specs ahead of k may be, and there is one. -/
def okTo (l : List Sp) (k : Nat) : Prop := l ≠ [] ∧ ∀ j (h : j < l.length), j < k → l[j].Right
instance (l : List Sp) (k : Nat) : Decidable (okTo l k) := by unfold okTo; infer_instance

theorem okTo_zero (l : List Sp) : decide (0 < l.length) = decide (okTo l 0) :=
  decide_eq_decide.2 ⟨fun h => ⟨List.length_pos_iff.1 h, fun j _ h => absurd h (by omega)⟩, fun h => List.length_pos_iff.2 h.1⟩
theorem okTo_succ (l : List Sp) (i : Nat) (h : i < l.length) : (decide (okTo l i) && decide l[i].Right) = decide (okTo l (i + 1)) := by
  rw [← Bool.decide_and]
  refine decide_eq_decide.2 ⟨fun ⟨⟨h0, h1⟩, h2⟩ => ⟨h0, fun j hj hlt => ?_⟩, fun ⟨h0, h1⟩ => ⟨⟨h0, fun j hj hlt => h1 j hj (by omega)⟩, h1 i h (by omega)⟩⟩
  by_cases e : j = i
  · subst e; exact h2
  · exact h1 j hj (by omega)
theorem okTo_all (l : List Sp) : okTo l l.length ↔ (l ≠ [] ∧ AllR l) := by
  refine ⟨fun ⟨h0, h1⟩ => ⟨h0, fun s hs => ?_⟩, fun ⟨h0, h1⟩ => ⟨h0, fun j hj _ => h1 _ (List.getElem_mem hj)⟩⟩
  obtain ⟨j, hj, rfl⟩ := List.getElem_of_mem hs
  exact h1 j hj hj

set_option maxRecDepth 100000 in
set_option maxHeartbeats 4000000 in
theorem pairs_walk (a b : Sp) (A : Option Addr) (c : Nat) (l : List Sp) (w : World) (hR : Rd (fun _ => False) w A (sps l)) (hl : l.length ≤ 140737488351232) (hc : l.length ≤ c) :
    Calls Try.prog 9 #[spv a, spv b, .slice A l.length c] w (Good' w) := by
  have HR := Lib.hid hR
  clear hR
  have HB := Lib.hid (((Bx.nil w).box1 a rfl).box1 (n := w.heap.size + 1) b (by simp))
  have HKN := Lib.hid known_calls
  by_cases h10 : 10 < l.length
  · go_enter Try.func9, Try.ntmps9
    go_wp2_with (go_at_call 10; refine (HKN.out _).mono ?_; rintro e w' ⟨rfl, hf⟩)
    go_ret
    exact ⟨rfl, HB.out.2.trans hf⟩
  · have HWA := Lib.hid (withinA_calls a b)
    have HRA := Lib.hid (rright_calls a)
    have HRB := Lib.hid (rright_calls b)
    have HRW := Lib.hid (rwithin_calls a b)
    have hwi : wiA a b = if a.Right ∧ b.Right then (decide (Inn a b), 0) else (false, 2) := rfl
    have HWI := Lib.hid hwi
    clear hwi
    generalize wiA a b = wi at *
    obtain ⟨wx, wy⟩ := wi
    dsimp only at HWA
    go_enter Try.func9, Try.ntmps9
    go_upto_region 4 with (go_at_call 23; refine (HWA.out _).mono ?_; rintro e w2 ⟨rfl, hf2⟩)
    have HB := Lib.hid (HB.out.step hf2)
    clear hf2 HWA
    go_cut [34] (fun s34 wx => s34 = .bool (!decide (a.Right ∧ b.Right)) ∧ Hid (Bx [(w.heap.size + 1, b), (w.heap.size, a)] w wx))
    case first =>
      obtain ⟨a0, a1, a2, a3, a4⟩ := HB.out.at (b := w.heap.size) (s := a) (by simp)
      obtain ⟨b0, b1, b2, b3, b4⟩ := HB.out.at (b := w.heap.size + 1) (s := b) (by simp)
      by_cases ha : a.Right
      · rw [decide_eq_true ha] at HRA
        have hbb : decide (a.Right ∧ b.Right) = decide b.Right := by simp [ha]
        have HBB := Lib.hid hbb
        clear hbb b0 b1 b2 b3 b4
        generalize hrb : decide b.Right = rb at *
        clear hrb
        go_wp2_with fail
        refine (HRA.out _).mono ?_
        rintro e w3 ⟨rfl, hf3⟩
        have HB := Lib.hid (HB.out.step hf3)
        obtain ⟨b0, b1, b2, b3, b4⟩ := HB.out.at (b := w.heap.size + 1) (s := b) (by simp)
        clear hf3
        go_wp2_with fail
        refine (HRB.out _).mono ?_
        rintro e w4 ⟨rfl, hf4⟩
        have HB := Lib.hid (HB.out.step hf4)
        go_wp2_with fail
        go_meet
        exact ⟨congrArg (fun x => Value.bool (!x)) HBB.out.symm, HB⟩
      · rw [decide_eq_false ha] at HRA
        have hbb : decide (a.Right ∧ b.Right) = false := by simp [ha]
        have HBB := Lib.hid hbb
        clear hbb b0 b1 b2 b3 b4
        go_wp2_with fail
        refine (HRA.out _).mono ?_
        rintro e w3 ⟨rfl, hf3⟩
        have HB := Lib.hid (HB.out.step hf3)
        clear hf3
        go_wp2_with fail
        go_meet
        exact ⟨congrArg (fun x => Value.bool (!x)) HBB.out.symm, HB⟩
    case rest =>
      obtain ⟨rfl, HB⟩ := hcut
      go_upto_if 34 with fail
      go_cut [] (fun wx => Hid (Bx [(w.heap.size + 1, b), (w.heap.size, a)] w wx))
      case first =>
        by_cases hok : a.Right ∧ b.Right
        · have hwi := HWI.out
          rw [if_pos hok] at hwi
          obtain ⟨rfl, rfl⟩ : wx = decide (Inn a b) ∧ wy = 0 := by cases hwi; exact ⟨rfl, rfl⟩
          have hd : (!decide (a.Right ∧ b.Right)) = false := by simp [hok]
          clear hwi HWI hok
          obtain ⟨a0, a1, a2, a3, a4⟩ := HB.out.at (b := w.heap.size) (s := a) (by simp)
          obtain ⟨b0, b1, b2, b3, b4⟩ := HB.out.at (b := w.heap.size + 1) (s := b) (by simp)
          generalize decide (Inn a b) = x at *
          rw [hd]
          clear hd
          go_wp2_with (go_at_call 24; refine (HRW.out _).mono ?_; rintro e w5 ⟨rfl, hf5⟩)
          have HB := Lib.hid (HB.out.step hf5)
          go_meet
          exact HB
        · have hwi := HWI.out
          rw [if_neg hok] at hwi
          obtain ⟨rfl, rfl⟩ : wx = false ∧ wy = 2 := by cases hwi; exact ⟨rfl, rfl⟩
          have hd : (!decide (a.Right ∧ b.Right)) = true := by simp [hok]
          clear hwi HWI hok
          rw [hd]
          clear hd
          go_wp2_with fail
          go_meet
          exact HB
      case rest =>
        have HB := hcut
        have HJ := Lib.hid (fun w' (h : Fr0 w w') => jointB_calls A c l w' (HR.out.kept h) (by omega) hc)
        have HS := Lib.hid (fun w' (h : Fr0 w w') => sumB_calls A c l w' (HR.out.kept h) (by omega) hc)
        have hjA : jnA l = if l ≠ [] ∧ AllR l then (jn l, 0) else (noS, 2) := rfl
        have hsA : smA l = if l ≠ [] ∧ AllR l then (if (sm l).Right then (sm l, 0) else (noS, 3)) else (noS, 2) := rfl
        have HJA := Lib.hid hjA
        have HSA := Lib.hid hsA
        clear hjA hsA HWI HRA HRB HRW
        generalize jnA l = j at *
        generalize smA l = m at *
        obtain ⟨j, je⟩ := j
        obtain ⟨m, me⟩ := m
        dsimp only at HJ HS
        go_wp2_with fail
        refine (HJ.out _ HB.out.2).mono ?_
        rintro e w5 ⟨rfl, hf5⟩
        have HB := Lib.hid ((HB.out.step hf5).box j)
        clear hf5
        go_wp2_with fail
        refine (HS.out _ HB.out.2).mono ?_
        rintro e w6 ⟨rfl, hf6⟩
        have HB := Lib.hid ((HB.out.step hf6).box m)
        clear hf6 HJ HS
        go_wp2_with fail
        generalize hWW : w6.alloc (.cells (spc m) 23) = W6 at *
        clear hWW
        go_loopw [13, 14] (fun rt cnt wr => ∃ i : Nat, i ≤ l.length ∧ rt = .bool (decide (okTo l i)) ∧ cnt = .int .i64 (i : Int) ∧ Hid (Bx [(w6.heap.size, m), (w5.heap.size, j), (w.heap.size + 1, b), (w.heap.size, a)] w wr)) (fun _ cnt _ => l.length - (intOf cnt).toNat)
        case atStart => exact ⟨0, by omega, congrArg Value.bool (okTo_zero l), rfl, HB⟩
        case round =>
          obtain ⟨i, hi, rfl, rfl, HB⟩ := hrel
          by_cases hlt : i < l.length
          · have hsu := okTo_succ l i hlt
            have HSU := Lib.hid hsu
            clear hsu
            obtain ⟨p, off, rfl⟩ := (HR.out.kept HB.out.2).some_ (by rw [sps_length]; omega)
            obtain ⟨c0, c1, c2, c3, c4⟩ := rds_cells (HR.out.kept HB.out.2) i hlt
            have HRI := Lib.hid (rright_calls l[i])
            generalize l[i] = x at *
            generalize decide (okTo l i) = q0 at *
            generalize decide x.Right = rx at *
            cases q0
            · go_wp2_with fail
              go_roundw
              case rel => exact ⟨i + 1, by omega, congrArg Value.bool HSU.out, by go_num, HB.out⟩
              case measure => simp [intOf]; omega
            · go_wp2_with (go_at_call 13; refine (HRI.out _).mono ?_; rintro e w7 ⟨rfl, hf7⟩)
              have HB := Lib.hid (HB.out.step hf7)
              go_roundw
              case rel => exact ⟨i + 1, by omega, congrArg Value.bool HSU.out, by go_num, HB.out⟩
              case measure => simp [intOf]; omega
          · obtain rfl : i = l.length := by omega
            have HOK := Lib.hid (okTo_all l)
            by_cases hok : l ≠ [] ∧ AllR l
            · have hq : decide (okTo l l.length) = true := decide_eq_true (HOK.out.2 hok)
              have hj2 := HJA.out
              have hm2 := HSA.out
              rw [if_pos hok] at hj2 hm2
              rw [hq]
              cases hj2
              have HRS := Lib.hid (fun w' (h : Fr0 w w') => rsum_calls A c l w' (HR.out.kept h) (by omega) hok.1 hok.2 hc)
              have HRJ := Lib.hid (fun w' (h : Fr0 w w') => rjoint_calls A c l w' (HR.out.kept h) (by omega) hok.1 hc)
              generalize jn l = jv at *
              have hfin : ∃ (mv : Sp) (fit : Bool), m = mv ∧ me = (if fit then 0 else 3) ∧ Hid (∀ w', Fr0 w w' → Calls Try.prog 25 #[.slice A l.length c] w' fun e w2 => e = .returned (.tuple #[spv mv, .bool fit]) ∧ Fr0 w' w2) := by
                by_cases hr : (sm l).Right
                · rw [if_pos hr] at hm2
                  cases hm2
                  exact ⟨_, true, rfl, rfl, fun w' h => by have := HRS.out w' h; rwa [if_pos hr] at this⟩
                · rw [if_neg hr] at hm2
                  cases hm2
                  exact ⟨_, false, rfl, rfl, fun w' h => by have := HRS.out w' h; rwa [if_neg hr] at this⟩
              obtain ⟨mv, fit, rfl, rfl, HRS⟩ := hfin
              clear hm2 hq HOK HJA HSA hok
              cases fit
              all_goals
                go_wp2_with fail
                refine (HRS.out _ HB.out.2).mono ?_
                rintro e w7 ⟨rfl, hf7⟩
                have HB := Lib.hid ((HB.out.step hf7).box m)
                clear hf7 HRS
                go_wp2_with fail
                generalize hWW : w7.alloc (.cells (spc m) 23) = W7 at *
                have hj7 := HB.out.at (b := w5.heap.size) (s := jv) (by simp)
                have hm7 := HB.out.at (b := w6.heap.size) (s := m) (by simp)
                have hw7 := HB.out.at (b := w7.heap.size) (s := m) (by simp)
                clear hWW
                obtain ⟨j0, j1, j2, j3, j4⟩ := hj7
                obtain ⟨m0, m1, m2, m3, m4⟩ := hm7
                obtain ⟨v0, v1, v2, v3, v4⟩ := hw7
                have hj0 := cg_cell j0
                have hj1 := cg_cell j1
                have hj2 := cg_cell j2
                have hj3 := cg_cell j3
                have hj4 := cg_cell j4
                have hm0 := cg_cell m0
                have hm1 := cg_cell m1
                have hm2 := cg_cell m2
                have hm3 := cg_cell m3
                have hm4 := cg_cell m4
                have hv0 := cg_cell v0
                have hv1 := cg_cell v1
                have hv2 := cg_cell v2
                have hv3 := cg_cell v3
                have hv4 := cg_cell v4
                clear j0 j1 j2 j3 j4 m0 m1 m2 m3 m4 v0 v1 v2 v3 v4
                have HRJW := Lib.hid (fun (x : Wx W7) => HRJ.out x.u (HB.out.2.trans x.fr))
                refine wp_region_cg (by kernel_rfl) (by kernel_rfl) ?_
                repeat (first
                  | go_big_quiet_step (first
                    | (go_at_call 26; exact quiet_cg (HRJW.out _))
                    | (go_at_call 10; exact quiet_cg (HKN.out _))))
                refine wpQuiet_nil ?_
                intro W8 hf8
                go_wp2_with fail
                go_ret
                exact ⟨rfl, HB.out.2.trans hf8⟩
            · have hq : decide (okTo l l.length) = false := decide_eq_false (fun h => hok (HOK.out.1 h))
              have hj2 := HJA.out
              have hm2 := HSA.out
              rw [if_neg hok] at hj2 hm2
              cases hj2
              cases hm2
              rw [hq]
              clear hq HOK HJA HSA hok
              obtain ⟨a0, a1, a2, a3, a4⟩ := HB.out.at (b := w5.heap.size) (s := noS) (by simp)
              obtain ⟨b0, b1, b2, b3, b4⟩ := HB.out.at (b := w6.heap.size) (s := noS) (by simp)
              go_wp2_with (go_at_call 10; refine (HKN.out _).mono ?_; rintro e w7 ⟨rfl, hf7⟩)
              go_ret
              exact ⟨rfl, HB.out.2.trans hf7⟩
end Go.Proofs.Ytedgnmpdmjcadaa
