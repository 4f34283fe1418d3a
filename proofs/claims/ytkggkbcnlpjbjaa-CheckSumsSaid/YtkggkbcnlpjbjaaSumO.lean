/- The statement CheckSums walked. -/
import Derived.Test.YtkggkbcnlpjbjaaSumN
import Derived.Test.YtkggkbcnlpjbjaaOpenB
set_option linter.unusedVariables false
set_option linter.unusedSimpArgs false
namespace Go.Proofs.Ytkggkbcnlpjbjaa
open Go.RowKit

/-- A copy that was made behind some parts, or none. -/
def HasCopy (base : Nat) (wr : World) (a : Nat) (l : List (List UInt8)) (c n : Value) : Prop :=
  (c = .pointer none ∧ n = .int .i64 0) ∨ ∃ bc j, c = .pointer (some ⟨bc, 0, none⟩) ∧ n = .int .i64 (ck (l.take j).flatten) ∧ bc ≠ a ∧ base ≤ bc ∧ IsAd wr bc (Ad.run ⟨false, 0, 0⟩ (l.take j).flatten)
theorem HasCopy.kept {base : Nat} {w w' : World} {a : Nat} {l : List (List UInt8)} {c n : Value} (h : HasCopy base w a l c n) (hf : Fr (· = a) w w') : HasCopy base w' a l c n := by
  rcases h with h | ⟨bc, j, h1, h2, h3, h4, h5⟩
  · exact .inl h
  · exact .inr ⟨bc, j, h1, h2, h3, h4, hf.blk h5 h3⟩
theorem Ad.run_append (a : Ad) (x y : List UInt8) : (a.run x).run y = a.run (x ++ y) := by simp [Ad.run, List.foldl_append]

set_option maxHeartbeats 800000 in
theorem sums_walk (A : Option Addr) (c : Nat) (l : List (List UInt8)) (at_ : Int) (w : World) (hR : RdBB (fun _ => False) w (.slice A l.length c) l) (hl : l.length * 24 ≤ 140737488351232) (hp : ∀ p ∈ l, p.length ≤ 140737488351232) (hat : -9223372036854775808 ≤ at_) (hat2 : at_ ≤ 9223372036854775807) :
    Calls Try.prog 8 #[.slice A l.length c, .int .i64 at_] w (Good w) := by
  have HR := Lib.hid hR
  have HP := Lib.hid hp
  have HJ := Lib.hid (joined_calls A c l w hR (by omega) hp)
  clear hR hp
  go_enter Try.func8, Try.ntmps8
  go_wp2_with fail
  refine HJ.out.mono ?_
  rintro e w1 (⟨v, rfl, hfi, ho, hf⟩ | ⟨v, rfl, hfi, hf⟩)
  · by_cases hlen : 3000 < l.flatten.length
    · have hd : decide ((l.flatten.length : Int) ≤ 3000) = false := decide_eq_false (by omega)
      rw [hd]
      have HF := Lib.hid hf
      clear hf ho
      go_wp2_with (go_at_call 10; refine (known_calls _).mono ?_; rintro e w' ⟨rfl, hf⟩)
      go_ret
      exact ⟨rfl, HF.out.trans hf⟩
    · have hd : decide ((l.flatten.length : Int) ≤ 3000) = true := decide_eq_true (by omega)
      rw [hd]
      have HF := Lib.hid hf
      have HO := Lib.hid ho
      clear hf ho
      go_wp2_with (go_at_call 19; refine (new_calls _).mono ?_; rintro e w2 ⟨a, rfl, ha, hA, hf1⟩)
      have HA := Lib.hid hA
      have HF2 := Lib.hid hf1
      clear hA hf1
      go_loopw [8, 9, 10] (fun cc n i wr => ∃ k : Nat, k ≤ l.length ∧ i = .int .i64 (k : Int) ∧ Hid (IsAd wr a (Ad.run ⟨false, 0, 0⟩ (l.take k).flatten)) ∧ Hid (HasCopy w1.heap.size wr a l cc n) ∧ Hid (Fr0 w1 wr)) (fun _ _ i _ => l.length - (intOf i).toNat)
      case atStart => exact ⟨0, by omega, rfl, HA.out, .inl ⟨rfl, rfl⟩, HF2.out⟩
      case round =>
        obtain ⟨k, hk, rfl, HAD, HC, HFR⟩ := hrel
        have hsz := HF.out.size
        have HRW := Lib.hid (HR.out.kept (HF.out.trans HFR.out))
        by_cases hlt : k < l.length
        · have HRA := Lib.hid ((HR.out.mono (fun k hk (e : k = a) => by omega)).kept (Fr0.any (HF.out.trans HFR.out)))
          obtain ⟨A', c', vs, e', hvl, hA', hrows⟩ := HRA.out
          cases e'
          obtain ⟨b, off, rfl⟩ := hA'.some_ (by omega)
          have hc := hA'.at_ k (by omega)
          obtain ⟨A1, c1, e1, hA1⟩ := hrows k (by omega) hlt
          rw [e1] at hc
          have hpl := HP.out _ (List.getElem_mem hlt)
          have HT := Lib.hid (flatten_at l k hlt).2
          have hlf : (l.take k).flatten.length ≤ 140737488351232 := by
            have := (flatten_at l k hlt).1
            have h2 := congrArg List.length this
            rw [List.length_append, List.length_append] at h2
            omega
          generalize l[k] = row at *
          have HA1 := Lib.hid hA1
          clear e1 hA1 hA' hrows
          by_cases hka : (k : Int) = at_
          · subst hka
            have HFC := Lib.hid (firsts_calls (some ⟨b, off, none⟩) c l k)
            have hlk : l.length ≤ 140737488351232 := by omega
            have HLF : Hid (l.flatten.length ≤ 140737488351232) := Lib.hid (by omega)
            generalize hpre : (l.take k).flatten = pre at *
            go_wp2_with (first
              | (go_at_call 20; refine (copy_calls a _ wr HAD.out).mono ?_; rintro e w3 ⟨bc, rfl, hbc, hIC, hf3⟩; have HIC := Lib.hid hIC; have HF3 := Lib.hid hf3; clear hIC hf3)
              | (go_at_call 22; refine (HFC.out w3 (HRW.out.kept HF3.out) hk hlk HLF.out).mono ?_; rintro e w4 ⟨v4, rfl, ho4, hf4⟩; obtain ⟨A4, c4, rfl, _, _⟩ := own_form ho4; have HO4 := Lib.hid ho4; have HF4 := Lib.hid hf4; clear ho4 hf4))
            have HW2 := Lib.hid (Ad.run_ok ad0_ok pre)
            have HAD4 := Lib.hid ((HF3.out.trans HF4.out).blk HAD.out (fun h => h))
            have HIC4 := Lib.hid (HF4.out.blk HIC.out (fun h => h))
            have HA14 := Lib.hid (HA1.out.kept (Fr0.any (HF3.out.trans HF4.out)))
            have hsza := lt_of_block HAD.out
            have hc4 := (HF3.out.trans HF4.out).cell hc (fun h => h)
            refine (rsum_calls A4 c4 pre w4 (own_rd _ HO4.out (fun _ _ _ h => h)) (by omega)).mono ?_
            rintro e w5 ⟨rfl, rfl⟩
            go_wp2_with (go_at_call 23; refine (write_calls a _ A1 row.length c1 row w4 HAD4.out HW2.out ⟨_, _, rfl, HA14.out⟩ (by simp only [maxLen]; omega)).mono ?_; rintro e w5 ⟨rfl, hA5, hf5⟩; have HA5 := Lib.hid hA5; have HF5 := Lib.hid hf5; clear hA5 hf5)
            go_roundw
            case rel =>
              refine ⟨k + 1, by omega, by go_num, ?_, ?_, ?_⟩
              · rw [HT.out, ← Ad.run_append]; exact HA5.out
              · exact (HasCopy.kept (.inr ⟨bc, k, rfl, by rw [hpre], by omega, Nat.le_trans HFR.out.size hbc, by rw [hpre]; exact HIC4.out⟩) HF5.out)
              · exact (HFR.out.trans (HF3.out.trans HF4.out)).then HF5.out (fun i hi e => by omega)
            case measure => simp [intOf]; omega
          · go_wp2_with (go_at_call 23; refine (write_calls a _ A1 row.length c1 row wr HAD.out (Ad.run_ok ad0_ok _) ⟨_, _, rfl, HA1.out⟩ (by simp only [maxLen]; omega)).mono ?_; rintro e w3 ⟨rfl, hA3, hf3⟩; have HA3 := Lib.hid hA3; have HF3 := Lib.hid hf3; clear hA3 hf3)
            go_roundw
            case rel => exact ⟨k + 1, by omega, by go_num, by rw [HT.out, ← Ad.run_append]; exact HA3.out, HC.out.kept HF3.out, HFR.out.then HF3.out (fun i hi e => by omega)⟩
            case measure => simp [intOf]; omega
        · have hk2 : k = l.length := by omega
          subst hk2
          rw [List.take_length] at HAD
          have HOR := Lib.hid (own_kept0 HO.out HFR.out)
          obtain ⟨Av, cv, rfl, _, _⟩ := own_form HOR.out
          have HBV := Lib.hid (BArg.own HOR.out (by omega))
          have HPP : Hid (Parts l) := Lib.hid ⟨by simp only [maxLen]; omega, fun p hp => by have := HP.out p hp; simp only [maxLen]; omega⟩
          have hcr := ck_range l.flatten
          have hwc : IntKind.i64.wrap (ck l.flatten) = ck l.flatten := by rw [IntKind.wrap_i64]; omega
          have HFW := Lib.hid (HF.out.trans HFR.out)
          have hall : (Ad.run ⟨false, 0, 0⟩ l.flatten).all = ck l.flatten := rfl
          have HOK := Lib.hid (Ad.run_ok ad0_ok l.flatten)
          have HSM := Lib.hid (sum_calls A l.length c l wr HRW.out HPP.out)
          have hfl : l.flatten.length ≤ 3000 := by omega
          generalize hfd : l.flatten = fl at *
          generalize hckd : ck fl = q at *
          go_wp2_with (first
            | (go_at_call 21; refine (rsum_calls Av cv fl wr HBV.out.rd (by omega)).mono ?_; rintro e w5 ⟨rfl, rfl⟩; rw [hckd]))
          refine HSM.out.mono ?_
          rintro e w5 ⟨rfl, hf5⟩
          have HF5 := Lib.hid hf5
          have HB5 := Lib.hid (HBV.out.kept hf5)
          have HAD5 := Lib.hid (hf5.blk HAD.out (fun h => h))
          have HC5 := Lib.hid (HC.out.kept (Fr0.any hf5))
          clear hf5
          have HSB := Lib.hid (fun (W : World) h1 h2 => sum_blk W w5.heap.size Av cv fl fl.length rfl h1 h2 (by simp only [maxLen]; omega))
          rw [hckd] at HSB
          go_wp2_with fail
          refine (HSB.out _ (Blk.new _ _ _) (HB5.out.kept ((Fr.refl _ w5).alloc _))).mono ?_
          rintro e w6 ⟨rfl, hf6⟩
          have hf56 := ((Fr.refl (fun _ => False) w5).alloc (.cells #[.slice Av fl.length cv] 22)).trans hf6
          have HF6 := Lib.hid (HF5.out.trans hf56)
          have HB6 := Lib.hid (HB5.out.kept hf56)
          have HAD6 := Lib.hid (hf56.blk HAD5.out (fun h => h))
          have HC6 := Lib.hid (HC5.out.kept (Fr0.any hf56))
          clear hf6 hf56
          have HRC := Lib.hid (right_calls Av fl.length cv fl w6 ⟨_, cv, rfl, HB6.out.rd⟩ (by simp only [maxLen]; omega))
          rw [hckd] at HRC
          have HAS := Lib.hid (asum_calls a _ w6 HAD6.out HOK.out)
          rw [hall] at HAS
          go_wp2_with (first
            | (go_at_call 24; refine HAS.out.mono ?_; rintro e w7 ⟨rfl, rfl⟩))
          refine HRC.out.mono ?_
          rintro e w7 ⟨rfl, hf7⟩
          have HF7 := Lib.hid (HF6.out.trans hf7)
          have HAD7 := Lib.hid (hf7.blk HAD6.out (fun h => h))
          have HC7 := Lib.hid (HC6.out.kept (Fr0.any hf7))
          clear hf7
          have HFL := Lib.hid (HFW.out.trans HF7.out)
          rcases HC7.out with ⟨rfl, rfl⟩ | ⟨bc, j, rfl, rfl, hbca, hbc, hib⟩
          · go_wp2_with (go_at_call 10; refine (known_calls _).mono ?_; rintro e w' ⟨rfl, hf⟩)
            go_ret
            exact ⟨rfl, HFL.out.trans hf⟩
          · have hjr := ck_range (l.take j).flatten
            have hwj : IntKind.i64.wrap (ck (l.take j).flatten) = ck (l.take j).flatten := by rw [IntKind.wrap_i64]; omega
            have HJK := Lib.hid (Ad.run_ok ad0_ok (l.take j).flatten)
            have HIB := Lib.hid hib
            have hblt := lt_of_block hib
            have HCS := Lib.hid (asum_calls bc _ w7 hib HJK.out)
            have hjall : (Ad.run ⟨false, 0, 0⟩ (l.take j).flatten).all = ck (l.take j).flatten := rfl
            rw [hjall] at HCS
            generalize (l.take j).flatten = fj at *
            generalize ck fj = qj at *
            have hb8 : RdB (· = bc) (w7.alloc (.cells #[.int .u8 7] 5)) (.slice (some ⟨w7.heap.size, 0, none⟩) 1 1) [7] :=
              ⟨_, 1, rfl, .inr ⟨_, 0, rfl, by show ¬ w7.heap.size = bc; omega, fun i hi => by
                have hi' : i = 0 := by simpa [u8s] using hi
                subst hi'
                exact cell_of_blk (heap_alloc_new w7 (.cells #[.int .u8 7] 5)) 0⟩⟩
            have hf8 : Fr0 w7 (w7.alloc (.cells #[.int .u8 7] 5)) := (Fr.refl _ w7).alloc _
            have HWC := Lib.hid (write_calls bc _ _ 1 1 [7] _ (hf8.blk hib (fun h => h)) HJK.out hb8 (by simp [maxLen]))
            have HFX := Lib.hid (HFL.out.trans hf8)
            have HAX := Lib.hid (hf8.blk HAD7.out (fun h => h))
            clear hjall hb8 hf8 hib
            have hszw := HF.out.size
            go_wp2_with (first
              | (go_at_call 24; refine HCS.out.mono ?_; rintro e w8 ⟨rfl, rfl⟩))
            refine HWC.out.mono ?_
            rintro e w8 ⟨rfl, _, hf8⟩
            have HF8 := Lib.hid (HFX.out.then hf8 (fun i hi (e : i = bc) => by omega))
            have HA8 := Lib.hid (asum_calls a _ w8 (hf8.blk HAX.out (fun e => hbca e.symm)) HOK.out)
            rw [hall] at HA8
            clear hf8
            go_wp2_with (first
              | (go_at_call 24; refine HA8.out.mono ?_; rintro e w9 ⟨rfl, rfl⟩)
              | (go_at_call 10; refine (known_calls _).mono ?_; rintro e w' ⟨rfl, hf⟩))
            go_ret
            exact ⟨rfl, HF8.out.trans hf⟩
  · have HF := Lib.hid hf
    clear hf
    go_wp2_with (go_at_call 10; refine (known_calls _).mono ?_; rintro e w' ⟨rfl, hf⟩)
    go_ret
    exact ⟨rfl, HF.out.trans hf⟩
end Go.Proofs.Ytkggkbcnlpjbjaa
