/- Chapter 01, the document: Div. -/
import Derived.Test.YtdakeenjeieekaaRb2
import Derived.Test.YtdakeenjeieekaaRb3
import Derived.Test.YtdakeenjeieekaaRbP
set_option linter.unusedVariables false
set_option linter.unusedSimpArgs false
namespace Go.Proofs.Ytdakeenjeieekaa
open Go.RowKit
attribute [local go_sem] Oper.semAt_some

theorem u32s_zeros (n : Nat) : List.replicate n (Value.int .u32 0) = u32s (List.replicate n 0) := by simp [u32s]
theorem len_mono {n m : Nat} (h : n ≤ m) : (bd n).length ≤ (bd m).length := (bd_len_le n _).2 (Nat.lt_of_le_of_lt h (bd_lt_len m))
theorem len_double {n b : Nat} (h : n < 2 * b + 2) (hb : 0 < b) : (bd n).length ≤ (bd b).length + 1 := by
  refine (bd_len_le n _).2 ?_
  have := bd_lt_len b
  rw [Nat.pow_succ]
  omega
set_option maxHeartbeats 4000000 in
theorem bdiv_calls (a b : Nat) (va vb : Value) (w : World) (hb0 : 0 < b) (ha : IsB w va a) (hb : IsB w vb b) (hla : (bd a).length ≤ 400) (hlb : (bd b).length ≤ 400) :
    Calls Try.prog 64 #[va, vb] w fun e w' => (∃ v1 v2, e = .returned (.tuple #[v1, v2]) ∧ IsB w' v1 (a / b) ∧ IsB w' v2 (a % b)) ∧ Fr0 w w' := by
  have hmx : Try.prog.follows .mixedOrders = true := by kernel_rfl
  have HVB := Lib.hid hb
  have HLB := Lib.hid hlb
  obtain ⟨Aa, ca, rfl, hca, hRA⟩ := ha
  have HRA := Lib.hid hRA
  clear hRA hb hlb
  obtain ⟨la, hla2⟩ : ∃ l, l = (bd a).length := ⟨_, rfl⟩
  rw [← hla2] at hla hca ⊢
  have HLA := Lib.hid hla2
  clear hla2
  obtain ⟨iz, z, hi, hz, hsz, hby, hzs⟩ : ∃ i z, Try.prog.info? 62 = some i ∧ i.zero = some z ∧ i.size = 1 ∧ i.bytes = 4 ∧ z = .int .u32 0 := ⟨_, _, rfl, rfl, rfl, rfl, rfl⟩
  obtain ⟨w2, hrun, hown, hgr⟩ := run_make_full (P := Try.prog) w w.heap.size 58 62 iz z 1 Try.underlying58 hi hz hsz .i64 .i64 la (by rw [hby]; omega) (by simp only [maxLen]; omega) (Nat.le_refl _)
  have HOQ : Hid (w2.ownsRow w.heap.size 62 1 (.slice (some ⟨w.heap.size, 0, none⟩) la la) la (u32s (List.replicate la 0))) := by
    rw [← u32s_zeros]
    have e : (madeCells z.cells (la * 1)).toList = List.replicate la (Value.int .u32 0) := by
      rw [hzs]
      refine List.ext_getElem (by simp [madeCells]) (fun i h1 h2 => ?_)
      simp [madeCells, Value.cells, Nat.mod_one]
    rw [e] at hown
    exact hown
  have HF2 := Lib.hid ((Fr.refl (fun _ => False) w).grown hgr (by simp))
  clear hown hgr hi hz hsz hby hzs
  have hw1 : wrap64 (16 * (la : Int)) = ((16 * la : Nat) : Int) := by rw [w64_id (by omega) (by omega)]; simp
  have hw2 : wrap64 (((16 * la : Nat) : Int) - 1) = ((16 * la : Nat) : Int) - 1 := w64_id (by omega) (by omega)
  obtain ⟨l16, hl16⟩ : ∃ l, l = 16 * la := ⟨_, rfl⟩
  rw [← hl16] at hw1 hw2
  have HL16 := Lib.hid hl16
  clear hl16
  go_enter Try.func64, Try.ntmps64
  go_wp2_with fail
  go_loopw [7, 8] (fun s7 s8 wr => ∃ (k R : Nat) (Q : List Nat), k ≤ l16 ∧ s8 = .int .i64 ((k : Int) - 1) ∧ Hid (IsBS (fun k => k = w.heap.size) wr s7 R) ∧ Hid (R = a / 2 ^ k % b) ∧ Hid (wr.ownsRow w.heap.size 62 1 (.slice (some ⟨w.heap.size, 0, none⟩) la la) la (u32s Q)) ∧ Hid (Q.length = la) ∧ Hid (∀ x ∈ Q, x < 65536) ∧ Hid (bv Q = 2 ^ k * (a / 2 ^ k / b)) ∧ Hid (Fr0 w wr)) (fun _ s8 _ => (intOf s8 + 1).toNat)
  case atStart =>
    have hz : a / 2 ^ l16 = 0 := Nat.div_eq_of_lt (by rw [HL16.out, ← pow16]; exact (bd_len_le a la).1 (by rw [← HLA.out]; omega))
    refine ⟨l16, 0, List.replicate la 0, Nat.le_refl _, congrArg (Value.int .i64) (by have := HL16.out; omega), ?_, ?_, HOQ, List.length_replicate .., fun x hx => ?_, ?_, HF2⟩
    · exact isBS_zero _ _ _ _
    · show 0 = a / 2 ^ l16 % b
      rw [hz, Nat.zero_mod]
    · rw [List.eq_of_mem_replicate hx]; omega
    · show bv _ = 2 ^ l16 * (a / 2 ^ l16 / b)
      rw [hz, Nat.zero_div, Nat.mul_zero, bv_zeros]
  case round =>
    obtain ⟨k, R, Q, hk, rfl, HR, HRE, HQ, HQL, HQD, HQV, HF⟩ := hrel
    rcases k with _ | k
    · have hr1 : R = a % b := by have := HRE.out; simpa using this
      have hq1 : bv Q = a / b := by have := HQV.out; simpa using this
      subst hr1
      have hown5 := HQ.out
      rw [← HQL.out] at hown5
      obtain ⟨A5, c5, e5, h5, hR5⟩ := isD_own hown5
      cases e5
      have HT := Lib.hid (rtrim_calls (some ⟨w.heap.size, 0, none⟩) Q.length Q wr hR5 h5 HQD.out (by rw [HQL.out]; omega))
      rw [HQL.out, hq1] at HT
      clear hown5 h5 hR5 hq1 HQV HRE
      go_wp2_with (first | (go_at_call 73; refine HT.out.mono ?_; rintro _ w5 ⟨⟨v5, rfl, hb5⟩, hf5⟩) | fail)
      go_ret2
      exact ⟨⟨_, _, rfl, hb5, HR.out.weak.kept hf5⟩, HF.out.trans hf5⟩
    · have hra := HRA.out.kept HF.out
      have hj : k / 16 < la := by have := HL16.out; omega
      obtain ⟨ba, oa, rfl⟩ := hra.some_ (by rw [u32s_length, ← HLA.out]; omega)
      have cella := rd_digit hra (k / 16) (by rw [← HLA.out]; exact hj)
      rw [bd_get (by rw [← HLA.out]; exact hj)] at cella
      have HBIT := Lib.hid (bit_at a k)
      have hxl : a / 65536 ^ (k / 16) % 65536 < 65536 := Nat.mod_lt _ (by omega)
      obtain ⟨x, hx⟩ : ∃ x, x = a / 65536 ^ (k / 16) % 65536 := ⟨_, rfl⟩
      rw [← hx] at cella HBIT hxl
      have e1 : ((k + 1 : Nat) : Int) - 1 = (k : Int) := by omega
      rw [e1]
      have ht16 : k % 16 < 16 := Nat.mod_lt _ (by omega)
      have hsh : (x : Int) / (2 : Int) ^ (k % 16) = ((x / 2 ^ (k % 16) : Nat) : Int) := by simp
      have hxs : x / 2 ^ (k % 16) ≤ x := Nat.div_le_self _ _
      have hqq : (k : Int).tdiv 16 = ((k / 16 : Nat) : Int) := quoN rfl
      have hqr : (k : Int).tmod 16 = ((k % 16 : Nat) : Int) := remN rfl
      have HQB := Lib.hid (quo_bit (k := k) (q := a / 2 ^ (k + 1) / b) HQD.out HQV.out (by rw [HQL.out]; exact hj))
      have HHS := Lib.hid (half_step a k)
      obtain ⟨j, hjj⟩ : ∃ j, j = k / 16 := ⟨_, rfl⟩
      obtain ⟨t, htt⟩ : ∃ j, j = k % 16 := ⟨_, rfl⟩
      rw [← hjj] at hj cella hqq
      rw [← htt] at hsh hxs hqr ht16
      rw [← htt] at HBIT
      obtain ⟨x1, hx1⟩ : ∃ y, y = x / 2 ^ t := ⟨_, rfl⟩
      rw [← hx1] at hsh hxs HBIT
      obtain ⟨pw, hpw⟩ : ∃ y, y = 2 ^ t := ⟨_, rfl⟩
      have hp1 : (2 : Int) ^ t = (pw : Int) := by rw [hpw]; simp
      rw [hp1] at hsh
      have HPW := Lib.hid hpw
      clear hpw
      have hbr : (x1 : Int).tmod 2 = ((x1 % 2 : Nat) : Int) := remN rfl
      have hbl : x1 % 2 < 2 := Nat.mod_lt _ (by omega)
      obtain ⟨bit, hbit⟩ : ∃ y, y = x1 % 2 := ⟨_, rfl⟩
      rw [← hbit] at hbr hbl HBIT
      have hb32 : (bit : Int) % 4294967296 = (bit : Int) := by omega
      have hb64 : IntKind.u64.wrap (bit : Int) = (bit : Int) := by rw [IntKind.wrap_u64]; omega
      have hi1 : (0 : Int) ≤ (j : Int) := by omega
      have hi2 : (j : Int) < (la : Int) := by omega
      have hi3 : (0 : Int) ≤ (k : Int) := by omega
      have hd1 : decide ((0 : Int) ≤ (k : Int)) = true := decide_eq_true hi3
      have ht0 : (0 : Int) ≤ (t : Int) := by omega
      have HJ := Lib.hid hjj
      have HT := Lib.hid htt
      clear hra hx hx1 hbit hjj htt hxs e1
      have hwk : wrap64 ((k : Int) - 1) = (k : Int) - 1 := w64_id (by omega) (by have := HL16.out; omega)
      have hRb : R < b := by rw [HRE.out]; exact Nat.mod_lt _ hb0
      have hdv := div_step hb0 (HHS.out) (by rw [← HBIT.out]; exact hbl)
      rw [← HRE.out, ← HBIT.out] at hdv
      have l1 : (bd R).length ≤ 1000 := by have := len_mono (Nat.le_of_lt hRb); have := HLB.out; omega
      have l2 : (bd (R + R)).length ≤ 1000 := by have := len_double (n := R + R) (by omega) hb0; have := HLB.out; omega
      have l3 : (bd bit).length ≤ 1000 := by have := len_mono (n := bit) (m := 2 * b) (by omega); have := len_double (n := 2 * b) (by omega) hb0; have := HLB.out; omega
      have l4 : (bd (R + R + bit)).length ≤ 1000 := by have := len_double (n := R + R + bit) (by omega) hb0; have := HLB.out; omega
      have l5 : (bd b).length ≤ 1000 := by have := HLB.out; omega
      have hgs : w.heap.size < wr.heap.size := by
        obtain ⟨cs, h⟩ := (own_blk HQ.out (k := w.heap.size) rfl).2
        exact (Array.getElem?_eq_some_iff.1 h).1
      have HGS := Lib.hid hgs
      clear hgs
      have HLN := Lib.hid (And.intro l1 (And.intro l2 (And.intro l3 (And.intro l4 l5))))
      have hb64l : bit < 18446744073709551616 := by omega
      have HDV := Lib.hid hdv
      have HKK := Lib.hid (show 2 ^ (k + 1) * (a / 2 ^ (k + 1) / b) = 2 ^ k * (2 * (a / 2 ^ (k + 1) / b)) by rw [Nat.pow_succ, Nat.mul_assoc])
      clear l1 l2 l3 l4 l5 hdv HHS HBIT
      by_cases hc : R + R + bit < b
      · have HREL : Hid (R + R + bit = a / 2 ^ k % b ∧ bv Q = 2 ^ k * (a / 2 ^ k / b)) := by
          obtain ⟨h1, h2⟩ := HDV.out.1 (by omega)
          refine ⟨by rw [h1]; omega, by rw [HQV.out, h2, HKK.out]⟩
        have hcd := decide_eq_true hc
        clear HDV HQB HKK HQV HRE
        have HC := Lib.hid hcd
        clear hcd hc hRb
        go_wp2_with (first
          | (go_at_call 51; (with_reducible refine (badd_calls R R _ _ _ HR.out.weak HR.out.weak HLN.out.1 HLN.out.1).mono ?_); rintro _ w5 ⟨⟨v1, rfl, hv1⟩, hf5⟩)
          | (go_at_call 40; (with_reducible refine (rof_calls bit hb64l _).mono ?_); rintro _ w6 ⟨⟨v2, rfl, hv2⟩, hf6⟩)
          | (go_at_call 51; (with_reducible refine (badd_calls (R + R) bit _ _ _ (hv1.weak.kept hf6) hv2 HLN.out.2.1 HLN.out.2.2.1).mono ?_); rintro _ w7 ⟨⟨v3, rfl, hv3⟩, hf7⟩; have hvb := ((HVB.out.kept (HF.out)).kept ((hf5.trans hf6).trans hf7)))
          | (go_at_call 52; (with_reducible refine (bless_calls (R + R + bit) b _ _ _ hv3.weak hvb HLN.out.2.2.2.1 HLN.out.2.2.2.2).mono ?_); rintro _ w8 ⟨he8, hf8⟩; rw [HC.out] at he8; subst he8)
          | fail)
        go_roundw
        case rel =>
          have hft := ((hf5.trans hf6).trans hf7).trans hf8
          exact ⟨k, R + R + bit, Q, by omega, rfl, (hv3.mono (fun k _ h => by have h0 := HGS.out; have h1 := hf5.size; have h2 := hf6.size; omega)).kept0 hf8, HREL.out.1, own_kept0 HQ.out hft, HQL, HQD, HREL.out.2, HF.out.trans hft⟩
        case measure => first | (simp [intOf]; done) | (simp [intOf]; omega)
      · have HREL : Hid (R + R + bit - b = a / 2 ^ k % b ∧ a / 2 ^ k / b = 2 * (a / 2 ^ (k + 1) / b) + 1) := by
          obtain ⟨h1, h2⟩ := HDV.out.2 (by omega)
          exact ⟨by rw [h1]; omega, h2⟩
        have hcd := decide_eq_false hc
        have hle : b ≤ R + R + bit := by omega
        clear HDV HKK HQV HRE
        have HC := Lib.hid hcd
        have hjq : j < Q.length := by rw [HQL.out]; exact hj
        obtain ⟨xq, hxq⟩ : ∃ y, y = Q[j] := ⟨_, rfl⟩
        have HQB2 : Hid (xq + 2 ^ t < 65536 ∧ bv (Q.set j (xq + 2 ^ t)) = 2 ^ k * (2 * (a / 2 ^ (k + 1) / b) + 1)) := by
          have h1 := HJ.out; have h2 := HT.out
          subst h1 h2
          rw [hxq]
          exact HQB.out
        rw [← HPW.out] at HQB2
        have hp2 := HQB2.out.1
        have hp3 : (pw : Int) % 4294967296 = (pw : Int) := by omega
        obtain ⟨ns, hns⟩ : ∃ y, y = xq + pw := ⟨_, rfl⟩
        rw [← hns] at HQB2
        have hp4 : ((xq : Int) + (pw : Int)) % 4294967296 = (ns : Int) := by omega
        have HXQ := Lib.hid hxq
        clear hcd hc hRb HQB hxq hns hp2
        have hkq : ∀ U, Fr0 wr U → Hid (U.ownsRow w.heap.size 62 1 (.slice (some ⟨w.heap.size, 0, none⟩) la la) la (u32s Q)) := fun U hU => own_kept0 HQ.out hU
        go_upto_region 10 with (first
          | (go_at_call 51; (with_reducible refine (badd_calls R R _ _ _ HR.out.weak HR.out.weak HLN.out.1 HLN.out.1).mono ?_); rintro _ w5 ⟨⟨v1, rfl, hv1⟩, hf5⟩)
          | (go_at_call 40; (with_reducible refine (rof_calls bit hb64l _).mono ?_); rintro _ w6 ⟨⟨v2, rfl, hv2⟩, hf6⟩)
          | (go_at_call 51; (with_reducible refine (badd_calls (R + R) bit _ _ _ (hv1.weak.kept hf6) hv2 HLN.out.2.1 HLN.out.2.2.1).mono ?_); rintro _ w7 ⟨⟨v3, rfl, hv3⟩, hf7⟩; have hvb := ((HVB.out.kept (HF.out)).kept ((hf5.trans hf6).trans hf7)))
          | (go_at_call 52; (with_reducible refine (bless_calls (R + R + bit) b _ _ _ hv3.weak hvb HLN.out.2.2.2.1 HLN.out.2.2.2.2).mono ?_); rintro _ w8 ⟨he8, hf8⟩; rw [HC.out] at he8; subst he8)
          | (go_at_call 53; (with_reducible refine (bsub_calls (R + R + bit) b _ _ _ hle (hv3.weak.kept hf8) (hvb.kept hf8) HLN.out.2.2.2.1 HLN.out.2.2.2.2).mono ?_); rintro _ w9 ⟨⟨v4, rfl, hv4⟩, hf9⟩)
          | fail)
        have hft := Lib.hid ((((hf5.trans hf6).trans hf7).trans hf8).trans hf9)
        have HQ9 := hkq _ hft.out
        obtain ⟨cq, hcq, hxs⟩ := own_some HQ9.out j hj
        have hcq2 : cq = .int .u32 (xq : Int) := by
          rw [show (u32s Q)[j]? = some (.int .u32 (xq : Int)) by rw [HXQ.out]; simp [u32s, hjq]] at hxs
          exact (Option.some.inj hxs).symm
        subst hcq2
        obtain ⟨cs9, hb9⟩ := (own_blk HQ9.out (k := w.heap.size) rfl).2
        have hfz : w9.frozen? ⟨w.heap.size, j, none⟩ = false := free_of_blk hb9 j
        have hcq0 : w9.cell? ⟨w.heap.size, 0 + j, none⟩ = some (.int .u32 (xq : Int)) := by rw [Nat.zero_add]; exact hcq
        have hfz0 : w9.frozen? ⟨w.heap.size, 0 + j, none⟩ = false := by rw [Nat.zero_add]; exact hfz
        have HV4 := Lib.hid (hv4.mono (T := fun k => k = w.heap.size) (fun k _ h => by have h0 := HGS.out; have h1 := hf5.size; have h2 := hf6.size; have h3 := hf7.size; have h4 := hf8.size; omega))
        clear hb9 hxs hkq hv1 hv2 hv3 hvb hf5 hf6 hf7 hf8 hf9 hv4
        go_region
        go_wp2_with fail
        go_roundw
        case rel =>
          have hso := own_kept0 (own_set HQ9.out j (.int .u32 (ns : Int))) (Fr.refl (fun _ => False) _).drew
          rw [show (u32s Q).set j (.int .u32 (ns : Int)) = u32s (Q.set j ns) by simp [u32s, List.map_set]] at hso
          have hsf : Fr (fun k => k = w.heap.size) w9 (w9.setCell ⟨w.heap.size, j, none⟩ (.int .u32 (ns : Int))).drew := Fr.drew (Fr.setCell (S := fun k => k = w.heap.size) (Fr.refl _ w9) (p := ⟨w.heap.size, j, none⟩) (fun _ => rfl) _)
          refine ⟨k, R + R + bit - b, Q.set j ns, by omega, rfl, HV4.out.kept hsf, HREL.out.1, hso, by rw [List.length_set]; exact HQL.out, set_lt HQD.out HQB2.out.1, by rw [HREL.out.2]; exact HQB2.out.2, ?_⟩
          exact (((HF.out.trans hft.out).setCell (fun h => by simp at h) _)).drew
        case measure => first | (simp [intOf]; done) | (simp [intOf]; omega)
end Go.Proofs.Ytdakeenjeieekaa
