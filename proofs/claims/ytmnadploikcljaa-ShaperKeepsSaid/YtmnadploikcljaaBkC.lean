/- Chapter 12: the iterator of a bucket: each goes over both kinds, so many ticks later. -/
import Derived.Test.YtmnadploikcljaaBkB
set_option linter.unusedVariables false
set_option linter.unusedSimpArgs false
namespace Go.Proofs.Ytmnadploikcljaa
open Go.RowKit
attribute [local go_sem] Oper.semAt_some

abbrev k3v (k : K3) : Value := .agg #[.int .i64 k.has, .int .i64 k.most, .int .i64 k.more]
abbrev k3c (k : K3) : Array Value := #[.int .i64 k.has, .int .i64 k.most, .int .i64 k.more]
/-- A kind that many ticks do not overflow. -/
structure K3.Ok (k : K3) (t : Int) : Prop where
  h : 0 ≤ k.has ∧ k.has ≤ 10000000
  m : 0 ≤ k.most ∧ k.most ≤ 10000000
  r : 0 ≤ k.more * t ∧ k.more * t ≤ 2147483647000000
/-- What the iterator tells: the one kind, the other. -/
def bkYs : List Bool := [false, true]
def kOf (B : Bk) (t : Int) : Bool → K3
  | false => B.k0.adv t
  | true => B.k1.adv t
abbrev bkEnc (B : Bk) (t : Int) (x : Bool) : Array Value := #[.int .i64 (if x then 1 else 0), k3v (kOf B t x)]
set_option maxRecDepth 100000 in
theorem index_k0 (a b c d e f : Int) (w : World) : (Instr.index 95 (.agg #[.int .i64 a, .int .i64 b, .int .i64 c, .int .i64 d, .int .i64 e, .int .i64 f]) (.int .i64 0)).run Try.prog w = .ok (.agg #[.int .i64 a, .int .i64 b, .int .i64 c]) w := by rfl
set_option maxRecDepth 100000 in
theorem index_k1 (a b c d e f : Int) (w : World) : (Instr.index 95 (.agg #[.int .i64 a, .int .i64 b, .int .i64 c, .int .i64 d, .int .i64 e, .int .i64 f]) (.int .i64 1)).run Try.prog w = .ok (.agg #[.int .i64 d, .int .i64 e, .int .i64 f]) w := by rfl

theorem beach_calls (b : Nat) (t : Int) (w : World) : Calls Try.prog 50 #[.pointer (some ⟨b, 0, none⟩), .int .i64 t] w fun e w' =>
    e = .returned (.func (.func 61) #[] #[.pointer (some ⟨w.heap.size, 0, none⟩), .pointer (some ⟨w.heap.size + 1, 0, none⟩)]) ∧ (w.alloc (.cells #[.pointer (some ⟨b, 0, none⟩)] 63)).alloc (.cells #[.int .i64 t] 2) = w' := by
  have hmf : ∀ (fn : Fn) (first cap : Array Value) (w : World), (Instr.makeFunc fn first cap).run Try.prog w = .ok (.func fn first cap) w := fun _ _ _ _ => rfl
  go_enter Try.func50, Try.ntmps50
  go_wp2
  go_ret
  exact ⟨rfl, rfl⟩

set_option maxHeartbeats 1000000 in
theorem beach1_in (F : Fence) (n : Nat) (hF : F.fn 61) (hro : F.round = none) (hn : 1 ≤ n) (l p1 p2 b : Nat) (S : Nat → Prop) (B : Bk) (t : Int) (J Jx : List Bool → World → Prop)
    (hJ : ∀ pre W o, J pre W → J pre (W.alloc o))
    (hY : ∀ pre x W, J pre W → pre.length < 2 → YieldAt F (n - 1) Try.prog l (bkEnc B t x) W fun e W' =>
      (e = .returned (.bool true) ∧ J (pre ++ [x]) W' ∧ Ck S W W') ∨ (e = .returned (.bool false) ∧ Jx (pre ++ [x]) W'))
    (W : World) (h1 : W.cell? ⟨p1, 0, none⟩ = some (.pointer (some ⟨b, 0, none⟩))) (h2 : W.cell? ⟨p2, 0, none⟩ = some (.int .i64 t)) (hS : ¬ S p2) (hb : IsBk W b B) (ok0 : B.k0.Ok t) (ok1 : B.k1.Ok t) (h0 : J [] W) :
    CallsIn F n Try.prog 61 #[.func (.yield l) #[] #[], .pointer (some ⟨p1, 0, none⟩), .pointer (some ⟨p2, 0, none⟩)] W fun e W' => (∃ v, e = .returned v) ∧
      ((∃ ys, ys = bkYs ∧ J ys W') ∨ (∃ pre, pre <+: bkYs ∧ Jx pre W')) := by
  obtain ⟨_, _, _, _, _, c5, c6, c7, c8, c9, c10, _⟩ := hb.cells
  have i0 := index_k0 B.k0.has B.k0.most B.k0.more B.k1.has B.k1.most B.k1.more
  have i1 := index_k1 B.k0.has B.k0.most B.k0.more B.k1.has B.k1.most B.k1.more
  have hys : bkYs = [false, true] := rfl
  have HYS := Lib.hid hys
  have hv0 : k3c (B.k0.adv t) = #[.int .i64 (min B.k0.most (B.k0.has + B.k0.more * t)), .int .i64 B.k0.most, .int .i64 B.k0.more] := rfl
  have hv1 : k3c (B.k1.adv t) = #[.int .i64 (min B.k1.most (B.k1.has + B.k1.more * t)), .int .i64 B.k1.most, .int .i64 B.k1.more] := rfl
  have HV0 := Lib.hid hv0
  have HV1 := Lib.hid hv1
  clear hys hv0 hv1
  obtain ⟨⟨a1, a2⟩, ⟨a3, a4⟩, a5, a6⟩ := ok0
  obtain ⟨⟨b1, b2⟩, ⟨b3, b4⟩, b5, b6⟩ := ok1
  refine callsIn_of_wp Try.func61 rfl hF ?_ hro
  simp only [Try.ntmps61, List.size_toArray, List.length_cons, List.length_nil, Nat.reduceAdd, Nat.reduceSub, Array.replicate_succ, Array.replicate_zero, List.push_toArray, List.append_toArray, List.nil_append, List.cons_append]
  gi_wp2
  gi_loopw [10] (fun i wr => ∃ k : Nat, k ≤ 2 ∧ i = .int .i64 k ∧ J (bkYs.take k) wr ∧ Ck S W wr)
    (fun i wr => 2 - (intOf i).toNat)
  case atStart => exact ⟨0, Nat.zero_le _, rfl, by simpa using h0, Ck.refl _ _⟩
  case round =>
    obtain ⟨k, hk, rfl, hJ0, hck⟩ := hrel
    have h2' := hck _ _ hS h2
    have h2a : ∀ o, (wr.alloc o).cell? ⟨p2, 0, none⟩ = some (.int .i64 t) := fun o => ((Fr.refl (fun _ => False) wr).alloc o).cell h2' (fun h => h)
    have hk3 : k = 0 ∨ k = 1 ∨ k = 2 := by omega
    rcases hk3 with rfl | rfl | rfl
    · by_cases hmin : B.k0.most ≤ B.k0.has + B.k0.more * t
      · have hadv : B.k0.adv t = ⟨B.k0.most, B.k0.most, B.k0.more⟩ := by simp only [K3.adv, K3.mk.injEq, and_true]; omega
        have hJ1 := hJ _ _ (.cells (k3c (B.k0.adv t)) 94) hJ0
        obtain ⟨fn, tmps, assign, body, hy, hR⟩ := hY [] false _ (by rw [HYS.out] at hJ1; simpa using hJ1) (by simp)
        have HJ3 := Lib.hid (show [] ++ [false] = bkYs.take 1 by rw [HYS.out]; rfl)
        rw [HJ3.out] at hR
        have hko : kOf B t false = B.k0.adv t := rfl
        rw [bkEnc, hko, hadv] at hy
        rw [hadv] at hR
        have hy2 : (Instr.yield l #[.int .i64 0, .agg #[.int .i64 (B.k0.most), .int .i64 B.k0.most, .int .i64 B.k0.more]]).run Try.prog (wr.alloc (.cells #[.int .i64 (B.k0.most), .int .i64 B.k0.most, .int .i64 B.k0.more] 94)) = .ok (.round l fn tmps assign body) (wr.alloc (.cells #[.int .i64 (B.k0.most), .int .i64 B.k0.most, .int .i64 B.k0.more] 94)) := hy
        have HR := Lib.hid hR
        have HW := Lib.hid (fun o => Ck.of_fr ((Fr.refl S wr).alloc o))
        clear hadv hJ1 hR hJ0 hy
        gi_wp2
        refine HR.out.mono ?_
        rintro e W3 (⟨rfl, hJ3, hk3⟩ | ⟨rfl, hJx3⟩)
        · gi_wp2
          go_roundw
          case rel => exact ⟨1, by omega, by go_num, hJ3, hck.trans ((HW.out _).trans hk3)⟩
          case measure => simp [intOf]
        · gi_wp2
          refine bodyPost_ret (results_none rfl _ _ _) rfl ?_
          exact ⟨⟨_, rfl⟩, .inr ⟨_, List.take_prefix _ _, hJx3⟩⟩
      · have hadv : B.k0.adv t = ⟨B.k0.has + B.k0.more * t, B.k0.most, B.k0.more⟩ := by simp only [K3.adv, K3.mk.injEq, and_true]; omega
        have hJ1 := hJ _ _ (.cells (k3c (B.k0.adv t)) 94) hJ0
        obtain ⟨fn, tmps, assign, body, hy, hR⟩ := hY [] false _ (by rw [HYS.out] at hJ1; simpa using hJ1) (by simp)
        have HJ3 := Lib.hid (show [] ++ [false] = bkYs.take 1 by rw [HYS.out]; rfl)
        rw [HJ3.out] at hR
        have hko : kOf B t false = B.k0.adv t := rfl
        rw [bkEnc, hko, hadv] at hy
        rw [hadv] at hR
        have hy2 : (Instr.yield l #[.int .i64 0, .agg #[.int .i64 (B.k0.has + B.k0.more * t), .int .i64 B.k0.most, .int .i64 B.k0.more]]).run Try.prog (wr.alloc (.cells #[.int .i64 (B.k0.has + B.k0.more * t), .int .i64 B.k0.most, .int .i64 B.k0.more] 94)) = .ok (.round l fn tmps assign body) (wr.alloc (.cells #[.int .i64 (B.k0.has + B.k0.more * t), .int .i64 B.k0.most, .int .i64 B.k0.more] 94)) := hy
        have HR := Lib.hid hR
        have HW := Lib.hid (fun o => Ck.of_fr ((Fr.refl S wr).alloc o))
        clear hadv hJ1 hR hJ0 hy
        gi_wp2
        refine HR.out.mono ?_
        rintro e W3 (⟨rfl, hJ3, hk3⟩ | ⟨rfl, hJx3⟩)
        · gi_wp2
          go_roundw
          case rel => exact ⟨1, by omega, by go_num, hJ3, hck.trans ((HW.out _).trans hk3)⟩
          case measure => simp [intOf]
        · gi_wp2
          refine bodyPost_ret (results_none rfl _ _ _) rfl ?_
          exact ⟨⟨_, rfl⟩, .inr ⟨_, List.take_prefix _ _, hJx3⟩⟩
    · by_cases hmin : B.k1.most ≤ B.k1.has + B.k1.more * t
      · have hadv : B.k1.adv t = ⟨B.k1.most, B.k1.most, B.k1.more⟩ := by simp only [K3.adv, K3.mk.injEq, and_true]; omega
        have hJ1 := hJ _ _ (.cells (k3c (B.k1.adv t)) 94) hJ0
        obtain ⟨fn, tmps, assign, body, hy, hR⟩ := hY [false] true _ (by rw [HYS.out] at hJ1; simpa using hJ1) (by simp)
        have HJ3 := Lib.hid (show [false] ++ [true] = bkYs.take 2 by rw [HYS.out]; rfl)
        rw [HJ3.out] at hR
        have hko : kOf B t true = B.k1.adv t := rfl
        rw [bkEnc, hko, hadv] at hy
        rw [hadv] at hR
        have hy2 : (Instr.yield l #[.int .i64 1, .agg #[.int .i64 (B.k1.most), .int .i64 B.k1.most, .int .i64 B.k1.more]]).run Try.prog (wr.alloc (.cells #[.int .i64 (B.k1.most), .int .i64 B.k1.most, .int .i64 B.k1.more] 94)) = .ok (.round l fn tmps assign body) (wr.alloc (.cells #[.int .i64 (B.k1.most), .int .i64 B.k1.most, .int .i64 B.k1.more] 94)) := hy
        have HR := Lib.hid hR
        have HW := Lib.hid (fun o => Ck.of_fr ((Fr.refl S wr).alloc o))
        clear hadv hJ1 hR hJ0 hy
        gi_wp2
        refine HR.out.mono ?_
        rintro e W3 (⟨rfl, hJ3, hk3⟩ | ⟨rfl, hJx3⟩)
        · gi_wp2
          go_roundw
          case rel => exact ⟨2, by omega, by go_num, hJ3, hck.trans ((HW.out _).trans hk3)⟩
          case measure => simp [intOf]
        · gi_wp2
          refine bodyPost_ret (results_none rfl _ _ _) rfl ?_
          exact ⟨⟨_, rfl⟩, .inr ⟨_, List.take_prefix _ _, hJx3⟩⟩
      · have hadv : B.k1.adv t = ⟨B.k1.has + B.k1.more * t, B.k1.most, B.k1.more⟩ := by simp only [K3.adv, K3.mk.injEq, and_true]; omega
        have hJ1 := hJ _ _ (.cells (k3c (B.k1.adv t)) 94) hJ0
        obtain ⟨fn, tmps, assign, body, hy, hR⟩ := hY [false] true _ (by rw [HYS.out] at hJ1; simpa using hJ1) (by simp)
        have HJ3 := Lib.hid (show [false] ++ [true] = bkYs.take 2 by rw [HYS.out]; rfl)
        rw [HJ3.out] at hR
        have hko : kOf B t true = B.k1.adv t := rfl
        rw [bkEnc, hko, hadv] at hy
        rw [hadv] at hR
        have hy2 : (Instr.yield l #[.int .i64 1, .agg #[.int .i64 (B.k1.has + B.k1.more * t), .int .i64 B.k1.most, .int .i64 B.k1.more]]).run Try.prog (wr.alloc (.cells #[.int .i64 (B.k1.has + B.k1.more * t), .int .i64 B.k1.most, .int .i64 B.k1.more] 94)) = .ok (.round l fn tmps assign body) (wr.alloc (.cells #[.int .i64 (B.k1.has + B.k1.more * t), .int .i64 B.k1.most, .int .i64 B.k1.more] 94)) := hy
        have HR := Lib.hid hR
        have HW := Lib.hid (fun o => Ck.of_fr ((Fr.refl S wr).alloc o))
        clear hadv hJ1 hR hJ0 hy
        gi_wp2
        refine HR.out.mono ?_
        rintro e W3 (⟨rfl, hJ3, hk3⟩ | ⟨rfl, hJx3⟩)
        · gi_wp2
          go_roundw
          case rel => exact ⟨2, by omega, by go_num, hJ3, hck.trans ((HW.out _).trans hk3)⟩
          case measure => simp [intOf]
        · gi_wp2
          refine bodyPost_ret (results_none rfl _ _ _) rfl ?_
          exact ⟨⟨_, rfl⟩, .inr ⟨_, List.take_prefix _ _, hJx3⟩⟩
    · have HJ3 := Lib.hid (show bkYs.take 2 = bkYs by rw [HYS.out]; rfl)
      rw [HJ3.out] at hJ0
      gi_wp2
      go_end0
      exact ⟨⟨_, rfl⟩, .inl ⟨_, rfl, hJ0⟩⟩
/-- The iterator's word, for whoever ranges over it. -/
theorem beach1_stops (F : Fence) (n : Nat) (hF : F.fn 61) (hro : F.round = none) (hn : 1 ≤ n) (p1 p2 b : Nat) (S : Nat → Prop) (B : Bk) (t : Int)
    (w : World) (h1 : w.cell? ⟨p1, 0, none⟩ = some (.pointer (some ⟨b, 0, none⟩))) (h2 : w.cell? ⟨p2, 0, none⟩ = some (.int .i64 t)) (hS : ¬ S p2) (hb : IsBk w b B) (ok0 : B.k0.Ok t) (ok1 : B.k1.Ok t) :
    SeqStopsK F n Try.prog 61 #[.pointer (some ⟨p1, 0, none⟩), .pointer (some ⟨p2, 0, none⟩)] (bkEnc B t) (Ck S) (fun xs => xs = bkYs) (fun pre => pre <+: bkYs) 2 w := by
  intro l J Jx W hW hJ hJx hY h0
  have hf := Fr0.of_below hW
  exact beach1_in F n hF hro hn l p1 p2 b S B t J Jx (fun pre W1 o h => hJ pre W1 _ none h (World.grownBy_alloc W1 o none) (fun r e => by cases e)) hY W (hf.cell h1 (fun h => h)) (hf.cell h2 (fun h => h)) hS (hb.kept0 hf) ok0 ok1 h0
end Go.Proofs.Ytmnadploikcljaa
