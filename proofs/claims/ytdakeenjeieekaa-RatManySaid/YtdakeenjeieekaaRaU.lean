/- Chapter 01: two. -/
import Derived.Test.YtdakeenjeieekaaRaM
import Derived.Test.YtdakeenjeieekaaRaT
set_option linter.unusedVariables false
set_option linter.unusedSimpArgs false
namespace Go.Proofs.Ytdakeenjeieekaa
open Go.RowKit
attribute [local go_sem] Oper.semAt_some

/-- What two fractions make; none, where one is no fraction. -/
def twoR (a b : Int × Int) (r : Ra) : Ra := if RtOk a.1 a.2 ∧ RtOk b.1 b.2 then r else .error 2
theorem endR_cases (r : Ra) : (∃ p1 p2, endR r = .returned (rtv p1 p2)) ∨ ∃ k, endR r = .panicked [stopE k] := by
  cases r with
  | ok p => exact .inl ⟨p.1, p.2, rfl⟩
  | error k => exact .inr ⟨k, rfl⟩
set_option maxHeartbeats 1000000 in
theorem rtwo1_calls (K : FuncId) (a b : Int × Int) (r : Ra) (ia : I64r a.1 ∧ I64r a.2) (ib : I64r b.1 ∧ I64r b.2) (pa pb pf : Nat) (w : World)
    (ha : w.heap[pa]? = some (.cells (rtc a.1 a.2) 23 (0, 0))) (hb : w.heap[pb]? = some (.cells (rtc b.1 b.2) 23 (0, 0))) (hf : w.cell? ⟨pf, 0, none⟩ = some (clv K #[]))
    (HE : ∀ (args : Array Value) (U : World), (callFunc K args).run Try.prog U = .ok (.enter K args) U)
    (HK : RtOk a.1 a.2 → RtOk b.1 b.2 → ∀ U, Calls Try.prog K #[rtv a.1 a.2, rtv b.1 b.2] U fun e w' => e = endR r ∧ Fr0 U w') :
    Calls Try.prog 66 #[.pointer (some ⟨pa, 0, none⟩), .pointer (some ⟨pb, 0, none⟩), .pointer (some ⟨pf, 0, none⟩)] w fun e w' => e = endR (twoR a b r) ∧ Fr0 w w' := by
  obtain ⟨an, ad⟩ := a
  obtain ⟨bn, bd⟩ := b
  simp only at *
  have HF := Lib.hid (((Fr.refl (fun _ => False) w).alloc (.cells (rtc 0 0) 23)).alloc (.cells #[.int .i64 an, .int .i64 ad, .int .i64 bn, .int .i64 bd] 23))
  have HB := Lib.hid (blk_alloc (heap_alloc_new w (.cells (rtc 0 0) 23)) (.cells #[.int .i64 an, .int .i64 ad, .int .i64 bn, .int .i64 bd] 23))
  have HS := Lib.hid (heap_an (w := w.alloc (.cells (rtc 0 0) 23)) (k := w.heap.size + 1) (.cells #[.int .i64 an, .int .i64 ad, .int .i64 bn, .int .i64 bd] 23) (by simp))
  have HBO := Lib.hid (rboth_calls (some ⟨w.heap.size + 1, 0, none⟩) 2 [(an, ad), (bn, bd)] ((w.alloc (.cells (rtc 0 0) 23)).alloc (.cells #[.int .i64 an, .int .i64 ad, .int .i64 bn, .int .i64 bd] 23))
    (.inr ⟨w.heap.size + 1, 0, rfl, fun h => h, fun i hi => by
      rw [cell_of_blk HS.out]
      have : i < 4 := hi
      match i, this with
      | 0, _ => rfl
      | 1, _ => rfl
      | 2, _ => rfl
      | 3, _ => rfl⟩)
    (fun x hx => by
      rcases List.mem_cons.1 hx with rfl | hx
      · exact ia
      · rw [List.mem_singleton.1 hx]; exact ib) (by simp))
  obtain ⟨ca0, ca1, _, _⟩ := two_facts (((Fr.refl (fun _ => False) w).alloc (.cells (rtc 0 0) 23)).blk ha (fun h => h))
  obtain ⟨cb0, cb1, _, _⟩ := two_facts (((Fr.refl (fun _ => False) w).alloc (.cells (rtc 0 0) 23)).blk hb (fun h => h))
  have HC := Lib.hid (And.intro ha (And.intro hb hf))
  have hall : AllR [(an, ad), (bn, bd)] ↔ RtOk an ad ∧ RtOk bn bd :=
    ⟨fun h => ⟨h (an, ad) (List.mem_cons_self ..), h (bn, bd) (List.mem_cons_of_mem _ (List.mem_cons_self ..))⟩, fun h x hx => by
      rcases List.mem_cons.1 hx with rfl | hx
      · exact h.1
      · rw [List.mem_singleton.1 hx]; exact h.2⟩
  clear ha hb ia ib
  unfold twoR
  unfold bothE at HBO
  by_cases hok : RtOk an ad ∧ RtOk bn bd
  · rw [if_pos hok]
    rw [if_pos (hall.2 hok)] at HBO
    have HK' := Lib.hid (HK hok.1 hok.2)
    clear hok hall HK
    obtain ⟨er, her⟩ : ∃ er, er = endR r := ⟨_, rfl⟩
    rw [← her] at HK' ⊢
    rcases endR_cases r with ⟨p1, p2, h⟩ | ⟨k, h⟩
    · rw [h] at her
      subst her
      clear h
      go_enter Try.func66, Try.ntmps66
      go_wp2_with (first
        | (go_at_call 56; refine HBO.out.mono ?_; rintro _ w5 ⟨rfl, hf5⟩; have hf0 := HF.out.trans hf5; obtain ⟨xa0, xa1, _, _⟩ := two_facts (hf0.blk HC.out.1 (fun h => h)); obtain ⟨xb0, xb1, _, _⟩ := two_facts (hf0.blk HC.out.2.1 (fun h => h)); have xf := hf0.cell HC.out.2.2 (fun h => h))
        | (go_at_fn K; refine (HK'.out _).mono ?_; rintro _ w6 ⟨rfl, hf6⟩; have hb6 := (hf5.trans hf6).blk HB.out (fun h => h); obtain ⟨e0, e1, f0, f1⟩ := two_facts hb6)
        | fail)
      exact bodyPost_ret (results_cell_row rfl _ _ w.heap.size _ _ _ _ rfl (two_set hb6 (.int .i64 p1) (.int .i64 p2)) Try.underlying23 rfl (by kernel_rfl)) rfl ⟨rfl, two_fr ((HF.out.trans hf5).trans hf6) (by omega) _ _⟩
    · rw [h] at her
      subst her
      clear h
      go_enter Try.func66, Try.ntmps66
      go_wp2_with (first
        | (go_at_call 56; refine HBO.out.mono ?_; rintro _ w5 ⟨rfl, hf5⟩; have hf0 := HF.out.trans hf5; obtain ⟨xa0, xa1, _, _⟩ := two_facts (hf0.blk HC.out.1 (fun h => h)); obtain ⟨xb0, xb1, _, _⟩ := two_facts (hf0.blk HC.out.2.1 (fun h => h)); have xf := hf0.cell HC.out.2.2 (fun h => h))
        | (go_at_fn K; refine (HK'.out _).mono ?_; rintro _ w6 ⟨rfl, hf6⟩)
        | fail)
      exact ⟨rfl, rfl, (HF.out.trans hf5).trans hf6⟩
  · rw [if_neg hok]
    rw [if_neg (fun h => hok (hall.1 h))] at HBO
    clear hok hall HK
    go_enter Try.func66, Try.ntmps66
    go_wp2_with (first
      | (go_at_call 56; refine HBO.out.mono ?_; rintro _ w5 ⟨rfl, hf5⟩)
      | fail)
    exact ⟨rfl, rfl, HF.out.trans hf5⟩
end Go.Proofs.Ytdakeenjeieekaa
