/- Chapter 24: two lists of messages, compared. -/
import Derived.Test.YtbhdkpcakjookaaPoB
set_option linter.unusedVariables false
set_option linter.unusedSimpArgs false
namespace Go.Proofs.Ytbhdkpcakjookaa
open Go.RowKit
attribute [local go_sem] Oper.semAt_some

theorem IsLs.at_ {w : World} {A : Option Addr} {c : Nat} {L : List Rm} (h : IsLs w A c L) (k : Nat) (hk : k < L.length) : L[k].Ok w := h.ok _ (List.getElem_mem hk)
set_option maxHeartbeats 1000000 in
theorem rsame_calls (A B : Option Addr) (c d : Nat) (L M : List Rm) (w : World) (h : IsLs w A c L) (k : IsLs w B d M) :
    Calls Try.prog 22 #[.slice A L.length c, .slice B M.length d] w fun e w' => e = .returned (.bool (decide (msgs L = msgs M))) ∧ Fr0 w w' := by
  have hmx : Try.prog.follows .mixedOrders = true := by kernel_rfl
  have HA := Lib.hid h
  have HB := Lib.hid k
  have hmL := h.most
  have hmM := k.most
  clear h k
  by_cases hlen : L.length = M.length
  · have HLN := Lib.hid hlen
    have hq2 : ((L.length : Int) != (M.length : Int)) = false := by rw [hlen]; simp
    clear hlen
    go_enter Try.func22, Try.ntmps22
    go_wp2_with fail
    go_loopw [5] (fun i wr => ∃ (k : Nat), k ≤ L.length ∧ i = .int .i64 (k : Int) ∧ Hid (msgs (L.take k) = msgs (M.take k)) ∧ Hid (Fr0 w wr)) (fun i _ => L.length - (intOf i).toNat)
    case atStart => exact ⟨0, by omega, rfl, by simp [Hid], Fr.refl _ _⟩
    case round =>
      obtain ⟨k, hk, rfl, HT, HF⟩ := hrel
      by_cases hlt : k < L.length
      · have hlt2 : k < M.length := by have := HLN.out; omega
        have hr := (HA.out.kept HF.out).rd
        have hs := (HB.out.kept HF.out).rd
        obtain ⟨b, off, rfl⟩ := hr.some_ (by rw [rms_length]; omega)
        obtain ⟨b2, off2, rfl⟩ := hs.some_ (by rw [rms_length]; omega)
        obtain ⟨d0, d1, d2, d3⟩ := rd_rm hr k hlt
        obtain ⟨e0, e1, e2, e3⟩ := rd_rm hs k hlt2
        have hi1 : (0 : Int) ≤ (k : Int) := by omega
        have hi2 : (k : Int) < (L.length : Int) := by omega
        have hi3 : (k : Int) < (M.length : Int) := by omega
        have HON := Lib.hid (fun w' (hf : Fr0 wr w') => one_calls L[k] M[k] w' ((HA.out.at_ k hlt).kept (HF.out.trans hf)) ((HB.out.at_ k hlt2).kept (HF.out.trans hf)))
        have HSN := Lib.hid (rmsgs_snoc L M k hlt hlt2 HT.out)
        have HNE := Lib.hid (msgs_ne L M k hlt hlt2)
        generalize L[k] = x at *
        generalize M[k] = y at *
        have ra := cg_cell (W := wr) d0
        have rb := cg_cell (W := wr) d1
        have rc := cg_cell (W := wr) d2
        have rd := cg_cell (W := wr) d3
        have re := cg_cell (W := wr) e0
        have rf := cg_cell (W := wr) e1
        have rg := cg_cell (W := wr) e2
        have rh := cg_cell (W := wr) e3
        clear hr hs d0 d1 d2 d3 e0 e1 e2 e3
        by_cases he : x.m = y.m
        · have HS := Lib.hid (HSN.out he)
          have HO := Lib.hid (fun w' (hf : Fr0 wr w') => (show Calls Try.prog 25 #[rmv x, rmv y] w' fun e w'' => e = .returned (.bool true) ∧ Fr0 w' w'' from by have := HON.out w' hf; rwa [decide_eq_true he] at this))
          clear HSN HNE HON he
          go_wp2_with fail
          refine wp_region_cg hmx (by kernel_rfl) ?_
          repeat (first
            | go_big_quiet_step (fail)
            | go_big_quiet_step (first | (go_at_call 25; exact quiet_cg (HO.out _ (Wx.fr _)))))
          refine wpQuiet_nil ?_
          intro w5 hf5
          have HF5 := Lib.hid (HF.out.trans hf5)
          go_wp2_with fail
          go_roundw
          case rel => exact ⟨k + 1, by omega, by go_num, HS.out, HF5.out⟩
          case measure => simp [intOf]; omega
        · have HS := Lib.hid (decide_eq_false (HNE.out he))
          have HO := Lib.hid (fun w' (hf : Fr0 wr w') => (show Calls Try.prog 25 #[rmv x, rmv y] w' fun e w'' => e = .returned (.bool false) ∧ Fr0 w' w'' from by have := HON.out w' hf; rwa [decide_eq_false he] at this))
          clear HSN HNE HON he
          go_wp2_with fail
          refine wp_region_cg hmx (by kernel_rfl) ?_
          repeat (first
            | go_big_quiet_step (fail)
            | go_big_quiet_step (first | (go_at_call 25; exact quiet_cg (HO.out _ (Wx.fr _)))))
          refine wpQuiet_nil ?_
          intro w5 hf5
          have HF5 := Lib.hid (HF.out.trans hf5)
          go_wp2_with fail
          go_ret
          exact ⟨by rw [HS.out]; rfl, HF5.out⟩
      · have hkm : k = L.length := by omega
        subst hkm
        go_wp2_with fail
        go_ret
        have he : msgs L = msgs M := by have h1 := HT.out; have h2 := HLN.out; rw [h2, List.take_length, ← h2, List.take_length] at h1; exact h1
        exact ⟨by rw [decide_eq_true he]; rfl, HF.out⟩
  · have hq2 : ((L.length : Int) != (M.length : Int)) = true := by simp; omega
    have HNE := Lib.hid (decide_eq_false (fun e : msgs L = msgs M => hlen (by have := congrArg List.length e; simpa [msgs] using this)))
    clear hlen
    go_enter Try.func22, Try.ntmps22
    go_wp2_with fail
    go_ret
    exact ⟨by rw [HNE.out]; rfl, Fr.refl _ _⟩
abbrev sameFn : Value := .func (.func 37) #[] #[]
set_option maxHeartbeats 1000000 in
theorem eqfunc_calls (A B : Option Addr) (c d : Nat) (L M : List Rm) (w : World) (h : IsLs w A c L) (k : IsLs w B d M) :
    Calls Try.prog 39 #[.slice A L.length c, .slice B M.length d, sameFn] w fun e w' => e = .returned (.bool (decide (msgs L = msgs M))) ∧ Fr0 w w' := by
  have HA := Lib.hid h
  have HB := Lib.hid k
  have hmL := h.most
  have hmM := k.most
  clear h k
  by_cases hlen : L.length = M.length
  · have HLN := Lib.hid hlen
    have hq2 : ((L.length : Int) != (M.length : Int)) = false := by rw [hlen]; simp
    clear hlen
    go_enter Try.func39, Try.ntmps39
    go_wp2_with fail
    go_loopw [17] (fun i wr => ∃ (k : Nat), k ≤ L.length ∧ i = .int .i64 (k : Int) ∧ Hid (msgs (L.take k) = msgs (M.take k)) ∧ Hid (Fr0 w wr)) (fun i _ => L.length - (intOf i).toNat)
    case atStart => exact ⟨0, by omega, rfl, by simp [Hid], Fr.refl _ _⟩
    case round =>
      obtain ⟨k, hk, rfl, HT, HF⟩ := hrel
      by_cases hlt : k < L.length
      · have hlt2 : k < M.length := by have := HLN.out; omega
        have hr := (HA.out.kept HF.out).rd
        have hs := fun o => ((HB.out.kept HF.out).kept ((Fr.refl _ wr).alloc o)).rd
        obtain ⟨b, off, rfl⟩ := hr.some_ (by rw [rms_length]; omega)
        obtain ⟨b2, off2, rfl⟩ := HB.out.rd.some_ (by rw [rms_length]; omega)
        obtain ⟨d0, d1, d2, d3⟩ := rd_rm hr k hlt
        have e0 := fun o => (rd_rm (hs o) k hlt2).1
        have e1 := fun o => (rd_rm (hs o) k hlt2).2.1
        have e2 := fun o => (rd_rm (hs o) k hlt2).2.2.1
        have e3 := fun o => (rd_rm (hs o) k hlt2).2.2.2
        have hi1 : (0 : Int) ≤ (k : Int) := by omega
        have hi2 : (k : Int) < (L.length : Int) := by omega
        have hi3 : (k : Int) < (M.length : Int) := by omega
        have HON := Lib.hid (fun w' (hf : Fr0 wr w') => sameone_calls L[k] M[k] w' ((HA.out.at_ k hlt).kept (HF.out.trans hf)) ((HB.out.at_ k hlt2).kept (HF.out.trans hf)))
        have HSN := Lib.hid (rmsgs_snoc L M k hlt hlt2 HT.out)
        have HNE := Lib.hid (msgs_ne L M k hlt hlt2)
        generalize L[k] = x at *
        generalize M[k] = y at *
        have HFA := Lib.hid (((Fr.refl (fun _ => False) wr).alloc (.cells (rmc x).toArray 31)).alloc (.cells (rmc y).toArray 31))
        clear hr hs
        by_cases he : x.m = y.m
        · have HS := Lib.hid (HSN.out he)
          have HO := Lib.hid (fun w' (hf : Fr0 wr w') => (show Calls Try.prog 37 #[rmv x, rmv y] w' fun e w'' => e = .returned (.bool true) ∧ Fr0 w' w'' from by have := HON.out w' hf; rwa [decide_eq_true he] at this))
          clear HSN HNE HON he
          go_wp2_with (go_at_call 37; refine (HO.out _ HFA.out).mono ?_; rintro e w5 ⟨rfl, hf5⟩)
          have HF5 := Lib.hid ((HF.out.trans HFA.out).trans hf5)
          go_wp2_with fail
          go_roundw
          case rel => exact ⟨k + 1, by omega, by go_num, HS.out, HF5.out⟩
          case measure => simp [intOf]; omega
        · have HS := Lib.hid (decide_eq_false (HNE.out he))
          have HO := Lib.hid (fun w' (hf : Fr0 wr w') => (show Calls Try.prog 37 #[rmv x, rmv y] w' fun e w'' => e = .returned (.bool false) ∧ Fr0 w' w'' from by have := HON.out w' hf; rwa [decide_eq_false he] at this))
          clear HSN HNE HON he
          go_wp2_with (go_at_call 37; refine (HO.out _ HFA.out).mono ?_; rintro e w5 ⟨rfl, hf5⟩)
          have HF5 := Lib.hid ((HF.out.trans HFA.out).trans hf5)
          go_wp2_with fail
          go_ret
          exact ⟨by rw [HS.out]; rfl, HF5.out⟩
      · have hkm : k = L.length := by omega
        subst hkm
        go_wp2_with fail
        go_ret
        have he : msgs L = msgs M := by have h1 := HT.out; have h2 := HLN.out; rw [h2, List.take_length, ← h2, List.take_length] at h1; exact h1
        exact ⟨by rw [decide_eq_true he]; rfl, HF.out⟩
  · have hq2 : ((L.length : Int) != (M.length : Int)) = true := by simp; omega
    have HNE := Lib.hid (decide_eq_false (fun e : msgs L = msgs M => hlen (by have := congrArg List.length e; simpa [msgs] using this)))
    clear hlen
    go_enter Try.func39, Try.ntmps39
    go_wp2_with fail
    go_ret
    exact ⟨by rw [HNE.out]; rfl, Fr.refl _ _⟩
end Go.Proofs.Ytbhdkpcakjookaa
