/- The contract of Adder.add: a range over the bytes of parts. -/
import Derived.Test.YtkggkbcnlpjbjaaSumB
import Derived.Test.YtkggkbcnlpjbjaaRegion
set_option linter.unusedVariables false
set_option linter.unusedSimpArgs false
namespace Go.Proofs.Ytkggkbcnlpjbjaa
open Go.RowKit Go.Shelf
attribute [local go_sem] Oper.semAt_some

/-- A sum under way, as numbers. -/
structure Ad where
  is : Bool
  high : Int
  sum : Int
def Ad.ok (a : Ad) : Prop := 0 ≤ a.high ∧ a.high ≤ 255 ∧ 0 ≤ a.sum ∧ a.sum ≤ 65535
def Ad.step (a : Ad) (x : UInt8) : Ad := ⟨!a.is, x.toNat, if a.is then putI a.sum (a.high * 256 + x.toNat) else a.sum⟩
def Ad.run (a : Ad) (l : List UInt8) : Ad := l.foldl Ad.step a
def Ad.all (a : Ad) : Int := 65535 - (if a.is then putI a.sum (a.high * 256) else a.sum)
abbrev IsAd (w : World) (b : Nat) (a : Ad) : Prop := IsAdder w b a.is a.high a.sum
theorem Ad.step_ok {a : Ad} (h : a.ok) (x : UInt8) : (a.step x).ok := by
  obtain ⟨h0, h1, h2, h3⟩ := h
  have hx := x.toNat_lt
  refine ⟨by simp [Ad.step], by simp [Ad.step]; omega, ?_⟩
  unfold Ad.step
  dsimp only
  split
  · exact putI_range h2 h3 (by omega) (by omega)
  · exact ⟨h2, h3⟩
theorem Ad.run_ok {a : Ad} (h : a.ok) (l : List UInt8) : (a.run l).ok := by
  induction l generalizing a with
  | nil => exact h
  | cons x l ih => exact ih (Ad.step_ok h x)
theorem Ad.run_snoc (a : Ad) (l : List UInt8) (x : UInt8) : a.run (l ++ [x]) = (a.run l).step x := by simp [Ad.run]
theorem or_join {x y : Int} (h0 : 0 ≤ x) (h1 : x ≤ 255) (h2 : 0 ≤ y) (h3 : y ≤ 255) : bits .or .u32 (x * 256) y = x * 256 + y :=
  bits_join .u32 32 (by decide) (fun n h0 h1 => by rw [IntKind.wrap_u32]; omega) 8 (x * 256) y (by omega) (by omega) (by omega) h2 (by omega) (by omega)

theorem each_calls (A : Option Addr) (m c : Nat) (w : World) : Calls Try.prog 31 #[.slice A m c] w fun e w' =>
    e = .returned (.func (.func 32) #[] #[.pointer (some ⟨w.heap.size, 0, none⟩)]) ∧ w.alloc (.cells #[.slice A m c] 39) = w' := by
  have hmf : ∀ (fn : Fn) (first cap : Array Value) (w : World), (Instr.makeFunc fn first cap).run Try.prog w = .ok (.func fn first cap) w := fun _ _ _ _ => rfl
  go_enter Try.func31, Try.ntmps31
  go_wp2
  go_ret
  exact ⟨rfl, rfl⟩

set_option maxHeartbeats 2000000 in
theorem add_calls (b : Nat) (a : Ad) (v : Value) (parts : List (List UInt8)) (w : World) (hb : IsAd w b a) (ha : a.ok) (hR : RdBB (· = b) w v parts)
    (hm : parts.length ≤ maxLen) (hm2 : ∀ p ∈ parts, p.length ≤ maxLen) :
    Calls Try.prog 26 #[.pointer (some ⟨b, 0, none⟩), v] w fun e w' => e = .returned (.tuple #[]) ∧ IsAd w' b (a.run parts.flatten) ∧ Fr (· = b) w w' := by
  obtain ⟨A, c, vs, rfl, hR'⟩ : ∃ A c vs, v = .slice A parts.length c ∧ vs = u8s [] := by obtain ⟨A, c, vs, e, _⟩ := hR; exact ⟨A, c, _, e, rfl⟩
  clear hR'
  refine (callsIn_wide (n := 5)).1 ?_
  refine callsIn_of_wp_marks Try.func26 rfl trivial ?_ rfl
  simp only [Try.ntmps26, List.size_toArray, List.length_cons, List.length_nil, Nat.reduceAdd, Nat.reduceSub, Array.replicate_succ, Array.replicate_zero, List.push_toArray, List.append_toArray, List.nil_append, List.cons_append]
  gi_wp2_with (refine ⟨trivial, ?_⟩; gi_at_call 31; refine (callsIn_wide.2 (each_calls _ _ _ _)).mono ?_; rintro e w' ⟨rfl, rfl⟩)
  obtain ⟨W0, hW0⟩ : ∃ W0, (w.alloc (.cells #[.pointer (some ⟨b, 0, none⟩)] 41)).alloc (.cells #[.slice A parts.length c] 39) = W0 := ⟨_, rfl⟩
  rw [hW0]
  have hblt : b < w.heap.size := lt_of_block hb
  have hsz : W0.heap.size = w.heap.size + 2 := by rw [← hW0]; simp
  have hfr0 : Fr0 w W0 := by rw [← hW0]; exact ((Fr.refl _ w).alloc _).alloc _
  have hbox : W0.cell? ⟨w.heap.size, 0, none⟩ = some (.pointer (some ⟨b, 0, none⟩)) := by rw [← hW0]; simp
  have hcap : W0.cell? ⟨w.heap.size + 1, 0, none⟩ = some (.slice A parts.length c) := by rw [← hW0]; simp
  clear hW0
  have hseq := each1_stops Fence.wide (5 - 1) trivial rfl (by omega) (w.heap.size + 1) (· = b) _ parts hm hm2 W0 hcap (fun e : w.heap.size + 1 = b => by omega) (hR.kept hfr0.any)
  refine wpIn_rangeFunc_ownG rfl (by omega) (gf := 32) (lb := #[.pointer (some ⟨w.heap.size + 1, 0, none⟩)]) rfl trivial (enters_of Try.func32 (by kernel_rfl) rfl)
    hseq (fun h k => h.trans k) (fun W l o o' _ h ho _ => Ck.putObj W l o o' h ho) (Below.refl _ _) (fun _ => rfl)
    (fun pre W => IsAd W b (a.run pre) ∧ W.cell? ⟨w.heap.size, 0, none⟩ = some (.pointer (some ⟨b, 0, none⟩)) ∧ Fr (· = b) w W)
    (fun _ _ _ => False) ?own (fun _ _ _ _ _ hs _ _ => hs) ⟨(hfr0.blk hb (fun h => h)), hbox, hfr0.any⟩ ?a1 ?assign ?body ?done ?stop
  case own =>
    rintro pre A1 B1 row ⟨hA, hbx, hf⟩ hg hr
    have hn : ∀ k cs t fr, A1.heap[k]? = some (.cells cs t fr) → some k ≠ row := by
      rintro k cs t fr hk rfl
      obtain ⟨_, o, ho, hc⟩ := hr k rfl
      rw [hk] at ho; cases ho; simp [Obj.isCells] at hc
    refine ⟨blk_grown hA hg (hn _ _ _ _ hA), cell_kept hbx hg (fun r e => (hr r e).2), hf.grown hg (fun k hk e => ?_)⟩
    have := (hr k e).1
    omega
  case assign =>
    intro l x W K hK
    gi_wp2
    exact hK
  case body =>
    rintro l pre x W ⟨hA, hbx, hf⟩ _
    have hmx : Try.prog.follows .mixedOrders = true := by kernel_rfl
    have hrs := Ad.run_snoc a pre x
    obtain ⟨h0, h1, h2, h3⟩ := Ad.run_ok ha pre
    generalize a.run pre = s at hA hrs h0 h1 h2 h3
    have HS := Lib.hid hrs
    clear hrs
    have hx := x.toNat_lt
    have c0 : W.cell? ⟨b, 0, none⟩ = some (.bool s.is) := cell_of_blk hA 0
    have c1 : W.cell? ⟨b, 1, none⟩ = some (.int .u8 s.high) := cell_of_blk hA 1
    have c2 : W.cell? ⟨b, 2, none⟩ = some (.int .u32 s.sum) := cell_of_blk hA 2
    have f0 : W.frozen? ⟨b, 0, none⟩ = false := free_of_blk hA 0
    have f1 : W.frozen? ⟨b, 1, none⟩ = false := free_of_blk hA 1
    have f2 : W.frozen? ⟨b, 2, none⟩ = false := free_of_blk hA 2
    have hne : b ≠ w.heap.size := by omega
    obtain ⟨is, high, sum⟩ := s
    dsimp only at h0 h1 h2 h3 c0 c1 c2
    have hor := or_join h0 h1 (y := (x.toNat : Int)) (by omega) (by omega)
    have hd : 1 ≤ 5 - 1 - 1 := by omega
    have hw1 : IntKind.u32.wrap high = high := by rw [IntKind.wrap_u32]; omega
    have hw2 : IntKind.u32.wrap (high * 256) = high * 256 := by rw [IntKind.wrap_u32]; omega
    have hw3 : IntKind.u32.wrap (x.toNat : Int) = (x.toNat : Int) := by rw [IntKind.wrap_u32]; omega
    have fin : ∀ W' : World, (∃ n, (⟨!is, x.toNat, if is then putI sum (high * 256 + x.toNat) else sum⟩ : Ad) = ⟨!is, x.toNat, n⟩ ∧ W'.heap[b]? = some (.cells #[.bool (!is), .int .u8 x.toNat, .int .u32 n, .bool true] 52 (0, 0))) →
        Fr (· = b) W W' → KeepsFrom W0.heap.size W W' ∧ Ck (· = b) W W' ∧ IsAd W' b (a.run (pre ++ [x])) ∧ W'.cell? ⟨w.heap.size, 0, none⟩ = some (.pointer (some ⟨b, 0, none⟩)) ∧ Fr (· = b) w W' := by
      rintro W' ⟨n, hn, hb'⟩ hfr
      refine ⟨⟨hfr.size, fun k o hk ho _ => hfr.blk ho (fun e : k = b => by omega)⟩, .of_fr hfr, ?_, hfr.cell hbx (fun e : w.heap.size = b => hne e.symm), hf.trans hfr⟩
      rw [HS.out]
      show IsAd W' b ⟨_, _, _⟩
      rw [hn]
      exact hb'
    have FIN := Lib.hid fin
    clear fin
    cases is
    · gi_wp2
      refine wpIn_region_class (· = W.drew) 11 hmx (by kernel_rfl) (by kernel_rfl) (fun ⟨_, _, h⟩ => h) rfl ?_
      simp only [List.take_succ_cons, List.take_zero, List.drop_succ_cons, List.drop_zero]
      repeat (quiet_step (fail))
      refine wpQuiet_nil ?_
      rintro _ rfl
      go_wp2
      refine FIN.out _ ⟨_, rfl, ?_⟩ ?_
      · exact blk_drew (blk_setCell (blk_setCell hA 0 _) 1 _)
      · exact (((Fr.refl (· = b) W).setCell (fun _ => rfl) _).setCell (fun _ => rfl) _).drew
    · gi_wp2
      refine wpIn_region_class (· = W.drew) 18 hmx (by kernel_rfl) (by kernel_rfl) (fun ⟨_, _, h⟩ => h) rfl ?_
      simp only [List.take_succ_cons, List.take_zero, List.drop_succ_cons, List.drop_zero]
      repeat (quiet_step (fail))
      refine wpQuiet_step (fun K hK => ?_)
      go_simp
      refine ⟨_, (put_calls _ _ h2 h3 (by omega) (by omega) _).mono fun e w' h => ⟨h.1, h.2.symm⟩, hK _ ?_⟩
      clear hK K
      repeat (quiet_step (fail))
      refine wpQuiet_nil ?_
      rintro _ rfl
      go_wp2
      have hA2 : (W.setCell ⟨b, 2, none⟩ (.int .u32 (putI sum (high * 256 + x.toNat)))).drew.heap[b]? = some (.cells #[.bool true, .int .u8 high, .int .u32 (putI sum (high * 256 + x.toNat)), .bool true] 52 (0, 0)) := blk_drew (blk_setCell hA 2 _)
      have hfr2 : Fr (· = b) W (W.setCell ⟨b, 2, none⟩ (.int .u32 (putI sum (high * 256 + x.toNat)))).drew := ((Fr.refl (· = b) W).setCell (fun _ => rfl) _).drew
      generalize (W.setCell ⟨b, 2, none⟩ (.int .u32 (putI sum (high * 256 + x.toNat)))).drew = W2 at *
      have hbx2 := hfr2.cell hbx (fun e : w.heap.size = b => hne e.symm)
      have d0 := cell_of_blk hA2 0
      have d1 := cell_of_blk hA2 1
      have d2 := cell_of_blk hA2 2
      have g0 := free_of_blk hA2 0
      have g1 := free_of_blk hA2 1
      gi_wp2
      refine wpIn_region_class (· = W2.drew) 11 hmx (by kernel_rfl) (by kernel_rfl) (fun ⟨_, _, h⟩ => h) rfl ?_
      simp only [List.take_succ_cons, List.take_zero, List.drop_succ_cons, List.drop_zero]
      repeat (quiet_step (fail))
      refine wpQuiet_nil ?_
      rintro _ rfl
      go_wp2
      refine FIN.out _ ⟨_, rfl, ?_⟩ ?_
      · exact blk_drew (blk_setCell (blk_setCell hA2 0 _) 1 _)
      · exact hfr2.trans (((Fr.refl (· = b) W2).setCell (fun _ => rfl) _).setCell (fun _ => rfl) _).drew
  case done =>
    rintro D xs W hD rfl ⟨hA, hbx, hf⟩ hK
    gi_wp2
    have hDb : D ≠ b := by omega
    refine ⟨by simp, .inl ⟨_, _, rfl, run_takeDeferred hK, ?_⟩⟩
    exact ⟨_, results_none rfl _ _ _, rfl, (World.putObj_heap_other (Ne.symm hDb)).trans hA, hf.grown (grownBy_putObj' W D _) (fun k hk e => by cases e; omega)⟩
  case stop => exact fun _ _ _ _ _ _ h _ => h.elim

end Go.Proofs.Ytkggkbcnlpjbjaa
