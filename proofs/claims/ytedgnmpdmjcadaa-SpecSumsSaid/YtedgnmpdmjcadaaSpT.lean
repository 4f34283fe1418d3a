/- The statement SpecSums walked. -/
import Derived.Test.YtedgnmpdmjcadaaSpS
set_option linter.unusedVariables false
set_option linter.unusedSimpArgs false
namespace Go.Proofs.Ytedgnmpdmjcadaa
open Go.RowKit

def kA (s : Sp) (l : List (Int × Int)) : Bool × Int := if s.Right then (decide (Keeps s l), 0) else (false, 2)
theorem kA_calls (s : Sp) (A : Option Addr) (c : Nat) (l : List (Int × Int)) (w : World) (hR : Rd (fun _ => False) w A (sends l)) (hl : l.length ≤ 140737488351232) :
    Calls Try.prog 11 #[spv s, .slice A l.length c] w fun e w' => e = .returned (.tuple #[.bool (kA s l).1, .int .i64 (kA s l).2]) ∧ Fr0 w w' := by
  have := keeps_calls s A c l w hR hl
  unfold kA
  split
  · rename_i h; rwa [if_pos h] at this
  · rename_i h; rwa [if_neg h] at this
theorem kA_ok {s : Sp} {l : List (Int × Int)} (h0 : (kA s l).2 = 0) (h1 : (kA s l).1 = true) : s.Right ∧ Keeps s l := by
  unfold kA at h0 h1
  split at h0
  · rename_i h
    rw [if_pos h] at h1
    exact ⟨h, of_decide_eq_true h1⟩
  · simp at h0
theorem smA_ok {l : List Sp} (h : (smA l).2 = 0) : AllR l ∧ (sm l).Right ∧ (smA l).1 = sm l := by
  unfold smA at *
  split at h
  · rename_i h1
    rw [if_pos h1]
    split at h
    · rename_i h2
      rw [if_pos h2]
      exact ⟨h1.2, h2, rfl⟩
    · simp at h
  · simp at h

attribute [local irreducible] at_ sz_ sumF alw

set_option maxHeartbeats 1000000 in
set_option maxRecDepth 4000 in
theorem sums_walk (a b : Sp) (A B : Option Addr) (c d : Nat) (x y : List (Int × Int)) (w : World) (hx : Rd (fun _ => False) w A (sends x)) (hy : Rd (fun _ => False) w B (sends y)) (hlx : x.length ≤ 140737488351232) (hly : y.length ≤ 140737488351232) :
    Calls Try.prog 6 #[spv a, spv b, .agg #[.slice A x.length c, .slice B y.length d]] w (Good' w) := by
  have HX := Lib.hid hx
  have HY := Lib.hid hy
  have HB := Lib.hid (((((Bx.nil w).box1 a rfl).box1 (n := w.heap.size + 1) b (by simp))).any (.cells #[.slice A x.length c, .slice B y.length d] 43))
  have HKN := Lib.hid known_calls
  clear hx hy
  by_cases h20 : x.length ≤ 20 ∧ y.length ≤ 20
  · obtain ⟨hx20, hy20⟩ := h20
    have H3 := Lib.hid (sumA_calls [a, b] 2 rfl)
    have HKA := Lib.hid (fun w' (h : Fr0 w w') => kA_calls a A c x w' (HX.out.kept h) hlx)
    have HKB := Lib.hid (fun w' (h : Fr0 w w') => kA_calls b B d y w' (HY.out.kept h) hly)
    have HS0 := Lib.hid (fun h => smA_ok (l := [a, b]) h)
    have HA0 := Lib.hid (fun h0 h1 => kA_ok (s := a) (l := x) h0 h1)
    have HB0 := Lib.hid (fun h0 h1 => kA_ok (s := b) (l := y) h0 h1)
    generalize smA [a, b] = m at *
    generalize kA a x = ka at *
    generalize kA b y = kb at *
    obtain ⟨m, me⟩ := m
    obtain ⟨ka, ke⟩ := ka
    obtain ⟨kb, le⟩ := kb
    dsimp only at H3 HKA HKB HS0 HA0 HB0
    go_enter Try.func6, Try.ntmps6
    go_wp2_with fail
    go_quiet (fail)
    have HB := Lib.hid (HB.out.step ((Fr.refl _ _).drewN nq))
    have hsz : ((((w.alloc (.cells (spc a) 23)).alloc (.cells (spc b) 23)).alloc (.cells #[.slice A x.length c, .slice B y.length d] 43)).drewN nq).heap.size = w.heap.size + 1 + 1 + 1 := by simp
    generalize ((((w.alloc (.cells (spc a) 23)).alloc (.cells (spc b) 23)).alloc (.cells #[.slice A x.length c, .slice B y.length d] 43)).drewN nq) = W1 at *
    have HSZ := Lib.hid hsz
    clear hsz
    obtain ⟨a0, a1, a2, a3, a4⟩ := HB.out.at (b := w.heap.size) (s := a) (by simp)
    obtain ⟨b0, b1, b2, b3, b4⟩ := HB.out.at (b := w.heap.size + 1) (s := b) (by simp)
    go_wp2_with fail
    refine (H3.out _ _ (rd_new _ W1 (sps [a, b]) _ (fun h => h)) (by decide)).mono ?_
    rintro e w2 ⟨rfl, hf2⟩
    have HB := Lib.hid (((HB.out.any _).step hf2).box m)
    clear hf2 a0 a1 a2 a3 a4 b0 b1 b2 b3 b4
    obtain ⟨a0, a1, a2, a3, a4⟩ := HB.out.at (b := w.heap.size) (s := a) (by simp)
    go_wp2_with fail
    refine (HKA.out _ HB.out.2).mono ?_
    rintro e w3 ⟨rfl, hf3⟩
    have HB := Lib.hid (HB.out.step hf3)
    clear hf3 a0 a1 a2 a3 a4
    obtain ⟨b0, b1, b2, b3, b4⟩ := HB.out.at (b := w.heap.size + 1) (s := b) (by simp)
    go_wp2_with fail
    refine (HKB.out _ HB.out.2).mono ?_
    rintro e w4 ⟨rfl, hf4⟩
    have HB := Lib.hid (HB.out.step hf4)
    clear hf4 b0 b1 b2 b3 b4
    obtain ⟨m0, m1, m2, m3, m4⟩ := HB.out.at (b := w2.heap.size) (s := m) (by simp)
    by_cases hok : (me = 0 ∧ ke = 0 ∧ le = 0) ∧ ka = true ∧ kb = true
    · obtain ⟨⟨rfl, rfl, rfl⟩, rfl, rfl⟩ := hok
      obtain ⟨hall, hsr, hme⟩ := HS0.out rfl
      obtain ⟨har, hkx⟩ := HA0.out rfl rfl
      obtain ⟨hbr, hky⟩ := HB0.out rfl rfl
      have hmr : m.Right := by rw [hme]; exact hsr
      have HTW := Lib.hid (fun f t (h : f ≤ t) => (by rw [hme]; exact two_le a b har hbr x y hkx hky f t h : sentTo x f t x.length + sentTo y f t y.length ≤ alw m (t - f) + m.most))
      have HSX := Lib.hid (fun f t (h : f ≤ t) => sent_le a har x hkx f t h)
      have HSY := Lib.hid (fun f t (h : f ≤ t) => sent_le b hbr y hky f t h)
      have HTK : Hid (∀ i, i < x.length + y.length → 0 ≤ tickOf x y i ∧ tickOf x y i ≤ 2147483647) := Lib.hid (fun i hi => by
        by_cases h : i < x.length
        · rw [show tickOf x y i = at_ x i from if_pos h]; exact (hkx i h).tick
        · rw [show tickOf x y i = at_ y (i - x.length) from if_neg h]; exact (hky _ (by omega)).tick)
      have HZX : Hid (∀ i, i < x.length → 0 ≤ sz_ x i ∧ sz_ x i ≤ 2000) := Lib.hid (fun i hi => by
        have := (hkx i hi).size; have := har.r4; have := har.r6; omega)
      have HZY : Hid (∀ i, i < y.length → 0 ≤ sz_ y i ∧ sz_ y i ≤ 2000) := Lib.hid (fun i hi => by
        have := (hky i hi).size; have := hbr.r4; have := hbr.r6; omega)
      have HALL := Lib.hid (fun t w => allowsx_calls m t w)
      have HMR := Lib.hid hmr
      clear hall hsr hme har hkx hbr hky hmr
      go_wp2_with fail
      clear m0 m1 m2 m3 m4
      go_loopw [15, 16, 17, 18, 19, 20] (fun iv _ _ _ _ _ wr => ∃ i : Nat, i ≤ x.length + y.length ∧ iv = .int .i64 (i : Int) ∧ Hid (Fr0 w4 wr)) (fun iv _ _ _ _ _ _ => x.length + y.length - (intOf iv).toNat)
      case atStart => exact ⟨0, by omega, rfl, Fr.refl _ _⟩
      case round =>
        obtain ⟨i, hi, rfl, HF⟩ := hrel
        by_cases hlt : i < x.length + y.length
        · have hd : decide ((i : Int) < (x.length : Int) + (y.length : Int)) = true := decide_eq_true (by omega)
          go_wp2_with fail
          obtain ⟨wm, rfl⟩ : ∃ wm : World, wm = wr := ⟨_, rfl⟩
          go_loopw [6, 16, 17, 18, 19, 20] (fun _ kv _ _ _ _ wr => ∃ k : Nat, k ≤ x.length + y.length ∧ kv = .int .i64 (k : Int) ∧ Hid (Fr0 w4 wr)) (fun _ kv _ _ _ _ _ => x.length + y.length - (intOf kv).toNat)
          case atStart => exact ⟨0, by omega, rfl, HF.out⟩
          case round =>
            obtain ⟨k, hk, rfl, HFK⟩ := hrel
            by_cases hlt2 : k < x.length + y.length
            · have hd2 : decide ((k : Int) < (x.length : Int) + (y.length : Int)) = true := decide_eq_true (by omega)
              have HTI := Lib.hid (fun w' (h : Fr0 w w') => tick_calls A B c d x y i w' (HX.out.kept h) (HY.out.kept h) hlt (by omega))
              have HTKK := Lib.hid (fun w' (h : Fr0 w w') => tick_calls A B c d x y k w' (HX.out.kept h) (HY.out.kept h) hlt2 (by omega))
              have hti := HTK.out i hlt
              have htk := HTK.out k hlt2
              have HBK := Lib.hid (HB.out.step HFK.out)
              obtain ⟨m0, m1, m2, m3, m4⟩ := HBK.out.at (b := w2.heap.size) (s := m) (by simp)
              generalize tickOf x y i = fr at *
              generalize tickOf x y k = to at *
              go_wp2_with fail
              refine (HTI.out _ HBK.out.2).mono ?_
              rintro e wt ⟨rfl, rfl⟩
              go_wp2_with fail
              refine (HTKK.out _ HBK.out.2).mono ?_
              rintro e wt ⟨rfl, rfl⟩
              by_cases hft : to < fr
              · have hd3 : decide (to < fr) = true := decide_eq_true hft
                go_wp2_with fail
                go_roundw
                case rel => exact ⟨k + 1, by omega, by go_num, HFK.out⟩
                case measure => simp [intOf]; omega
              · have hd3 : decide (to < fr) = false := decide_eq_false hft
                have HAT := Lib.hid (HALL.out (to - fr))
                rw [if_pos ⟨HMR.out, by omega, by omega⟩] at HAT
                have hmr := HMR.out
                have hra := alw_range hmr (t := to - fr) (by omega) (by omega)
                have h2 := HTW.out fr to (by omega)
                have h3 := (HSX.out fr to (by omega))
                have h4 := (HSY.out fr to (by omega))
                have hm1 := hmr.r6
                have hm2 := hmr.r4
                have hm3 := hmr.r5
                generalize alw m (to - fr) = vm at *
                have HSCX := Lib.hid (fun w' (h : Fr0 w w') => sent_calls A c x fr to w' (HX.out.kept h) (by omega) HZX.out)
                have HSCY := Lib.hid (fun w' (h : Fr0 w w') => sent_calls B d y fr to w' (HY.out.kept h) (by omega) HZY.out)
                have h5 := h3.2
                have h6 := h4.2
                clear h3 h4
                generalize sentTo x fr to x.length = sx at *
                generalize sentTo y fr to y.length = sy at *
                have hw1 : IntKind.i64.wrap (sx + sy) = sx + sy := by rw [IntKind.wrap_i64]; omega
                have hw2 : IntKind.i64.wrap (vm + m.most) = vm + m.most := by rw [IntKind.wrap_i64]; omega
                have hd4 : decide (vm + m.most < sx + sy) = false := decide_eq_false (by omega)
                go_wp2_with fail
                refine (HAT.out _).mono ?_
                rintro e wA ⟨rfl, hfA⟩
                have HFA := Lib.hid (HFK.out.trans hfA)
                have HBA := Lib.hid (HBK.out.step hfA)
                clear hfA m0 m1 m2 m3 m4
                obtain ⟨m0, m1, m2, m3, m4⟩ := HBA.out.at (b := w2.heap.size) (s := m) (by simp)
                go_wp2_with fail
                go_quiet (first
                  | (go_at_call_of 21 (Value.slice A x.length c); refine Calls.quiet_of_same ((HSCX.out _ (HBA.out.2.drewN _)).mono fun e w' h => ⟨h.1, h.2.symm⟩))
                  | (go_at_call_of 21 (Value.slice B y.length d); refine Calls.quiet_of_same ((HSCY.out _ (HBA.out.2.drewN _)).mono fun e w' h => ⟨h.1, h.2.symm⟩)))
                go_wp2_with fail
                go_roundw
                case rel => exact ⟨k + 1, by omega, by go_num, HFA.out.drewN nq⟩
                case measure => simp [intOf]; omega
            · have hd2 : decide ((k : Int) < (x.length : Int) + (y.length : Int)) = false := decide_eq_false (by omega)
              go_wp2_with fail
              refine ⟨⟨i + 1, by omega, by go_num, HFK.out⟩, by simp [intOf]; omega⟩
        · have hd : decide ((i : Int) < (x.length : Int) + (y.length : Int)) = false := decide_eq_false (by omega)
          go_wp2_with (go_at_call 10; refine (HKN.out _).mono ?_; rintro e wk ⟨rfl, hf⟩)
          go_ret
          exact ⟨rfl, HB.out.2.trans (HF.out.trans hf)⟩
    · clear HS0 HA0 HB0
      by_cases h1 : me = 0
      · by_cases h2 : ke = 0
        · by_cases h3 : le = 0
          · by_cases h4 : ka = true
            · have h5 : kb = false := by
                cases kb
                · rfl
                · exact absurd ⟨⟨h1, h2, h3⟩, h4, rfl⟩ hok
              subst h1 h2 h3 h4 h5
              clear hok
              go_wp2_with (go_at_call 10; refine (HKN.out _).mono ?_; rintro e wk ⟨rfl, hf⟩)
              go_ret
              exact ⟨rfl, HB.out.2.trans hf⟩
            · have h4' : ka = false := by simpa using h4
              subst h1 h2 h3 h4'
              clear hok h4
              go_wp2_with (go_at_call 10; refine (HKN.out _).mono ?_; rintro e wk ⟨rfl, hf⟩)
              go_ret
              exact ⟨rfl, HB.out.2.trans hf⟩
          · subst h1 h2
            clear hok
            go_wp2_with (go_at_call 10; refine (HKN.out _).mono ?_; rintro e wk ⟨rfl, hf⟩)
            go_ret
            exact ⟨rfl, HB.out.2.trans hf⟩
        · subst h1
          clear hok
          go_wp2_with (go_at_call 10; refine (HKN.out _).mono ?_; rintro e wk ⟨rfl, hf⟩)
          go_ret
          exact ⟨rfl, HB.out.2.trans hf⟩
      · clear hok
        go_wp2_with (go_at_call 10; refine (HKN.out _).mono ?_; rintro e wk ⟨rfl, hf⟩)
        go_ret
        exact ⟨rfl, HB.out.2.trans hf⟩
  · by_cases hx20 : 20 < x.length
    · have hd : decide ((20 : Int) < (x.length : Int)) = true := decide_eq_true (by omega)
      clear h20
      go_enter Try.func6, Try.ntmps6
      go_wp2_with fail
      go_quiet (fail)
      go_wp2_with (go_at_call 10; refine (HKN.out _).mono ?_; rintro e wk ⟨rfl, hf⟩)
      go_ret
      exact ⟨rfl, (HB.out.2.drewN nq).trans hf⟩
    · have hy20 : 20 < y.length := by omega
      have hd : decide ((20 : Int) < (x.length : Int)) = false := decide_eq_false (by omega)
      have hd2 : decide ((20 : Int) < (y.length : Int)) = true := decide_eq_true (by omega)
      clear h20
      go_enter Try.func6, Try.ntmps6
      go_wp2_with fail
      go_quiet (fail)
      go_wp2_with (go_at_call 10; refine (HKN.out _).mono ?_; rintro e wk ⟨rfl, hf⟩)
      go_ret
      exact ⟨rfl, (HB.out.2.drewN nq).trans hf⟩
end Go.Proofs.Ytedgnmpdmjcadaa
