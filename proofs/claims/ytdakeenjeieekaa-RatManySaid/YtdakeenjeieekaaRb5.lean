/- Chapter 01, the document: Mul. -/
import Derived.Test.YtdakeenjeieekaaRb4
import Derived.Test.YtdakeenjeieekaaRbM
set_option linter.unusedVariables false
set_option linter.unusedSimpArgs false
namespace Go.Proofs.Ytdakeenjeieekaa
open Go.RowKit
attribute [local go_sem] Oper.semAt_some

set_option maxHeartbeats 4000000 in
theorem bmul_calls (a b : Nat) (va vb : Value) (w : World) (ha : IsB w va a) (hb : IsB w vb b) (hla : (bd a).length ≤ 400) (hlb : (bd b).length ≤ 400) :
    Calls Try.prog 50 #[va, vb] w fun e w' => (∃ v, e = .returned v ∧ IsBS (fun k => k < w.heap.size) w' v (a * b)) ∧ Fr0 w w' := by
  have hmx : Try.prog.follows .mixedOrders = true := by kernel_rfl
  obtain ⟨Aa, ca, rfl, hca, hRA⟩ := ha
  obtain ⟨Ab, cb, rfl, hcb, hRB⟩ := hb
  have HRA := Lib.hid hRA
  have HRB := Lib.hid hRB
  clear hRA hRB
  obtain ⟨la, hla2⟩ : ∃ l, l = (bd a).length := ⟨_, rfl⟩
  obtain ⟨lb, hlb2⟩ : ∃ l, l = (bd b).length := ⟨_, rfl⟩
  rw [← hla2] at hla hca ⊢
  rw [← hlb2] at hlb hcb ⊢
  have HLA := Lib.hid hla2
  have HLB := Lib.hid hlb2
  clear hla2 hlb2
  obtain ⟨n, hn⟩ : ∃ n, n = la + lb := ⟨_, rfl⟩
  obtain ⟨iz, z, hi, hz, hsz, hby, hzs⟩ : ∃ i z, Try.prog.info? 62 = some i ∧ i.zero = some z ∧ i.size = 1 ∧ i.bytes = 4 ∧ z = .int .u32 0 := ⟨_, _, rfl, rfl, rfl, rfl, rfl⟩
  obtain ⟨w2, hrun, hown, hgr⟩ := run_make_full (P := Try.prog) w w.heap.size 58 62 iz z 1 Try.underlying58 hi hz hsz .i64 .i64 n (by rw [hby]; omega) (by simp only [maxLen]; omega) (Nat.le_refl _)
  have HOQ : Hid (w2.ownsRow w.heap.size 62 1 (.slice (some ⟨w.heap.size, 0, none⟩) n n) n (u32s (List.replicate n 0))) := by
    rw [← u32s_zeros]
    have e : (madeCells z.cells (n * 1)).toList = List.replicate n (Value.int .u32 0) := by
      rw [hzs]
      refine List.ext_getElem (by simp [madeCells]) (fun i h1 h2 => ?_)
      simp [madeCells, Value.cells, Nat.mod_one]
    rw [e] at hown
    exact hown
  have HF2 := Lib.hid ((Fr.refl (fun _ => False) w).grown hgr (by simp))
  have hw1 : (la : Int) + (lb : Int) = ((n : Nat) : Int) := by omega
  have HN := Lib.hid hn
  have hnl : n ≤ 800 := by omega
  clear hown hgr hi hz hsz hby hzs hn
  go_enter Try.func50, Try.ntmps50
  go_wp2_with fail
  go_loopw [6] (fun s6 wr => ∃ (i : Nat) (L : List Nat), i ≤ la ∧ s6 = .int .i64 (i : Int) ∧ Hid (wr.ownsRow w.heap.size 62 1 (.slice (some ⟨w.heap.size, 0, none⟩) n n) n (u32s L)) ∧ Hid (L.length = n) ∧ Hid (∀ x ∈ L, x < 65536) ∧ Hid (bv L = a % 65536 ^ i * b) ∧ Hid (Fr0 w wr)) (fun s6 _ => la - (intOf s6).toNat)
  case atStart =>
    refine ⟨0, List.replicate n 0, Nat.zero_le _, rfl, HOQ, List.length_replicate .., fun x hx => ?_, ?_, HF2⟩
    · rw [List.eq_of_mem_replicate hx]; omega
    · show bv _ = _
      rw [bv_zeros, Nat.pow_zero, Nat.mod_one, Nat.zero_mul]
  case round =>
    obtain ⟨i, L, him, rfl, HO, HL, HD, HV, HF⟩ := hrel
    by_cases qa : i < la
    · have ha1 : decide ((i : Int) < (la : Int)) = true := decide_eq_true (by omega)
      have ha2 : decide (i < la) = true := decide_eq_true (by omega)
      have ha3 : (i : Int) < (la : Int) := by omega
      have hi1 : (0 : Int) ≤ (i : Int) := by omega
      have hwi : wrap64 ((i : Int) + 1) = ((i + 1 : Nat) : Int) := by rw [w64_id (by omega) (by omega)]; omega
      go_wp2_with fail
      go_loopw [7, 8] (fun s7 s8 wr => ∃ (k c : Nat) (L : List Nat), k ≤ lb + 1 ∧ c < 65536 ∧ s7 = u64v c ∧ s8 = .int .i64 (k : Int) ∧ Hid (wr.ownsRow w.heap.size 62 1 (.slice (some ⟨w.heap.size, 0, none⟩) n n) n (u32s L)) ∧ Hid (L.length = n) ∧ Hid (∀ x ∈ L, x < 65536) ∧ Hid (bv L + c * 65536 ^ (i + k) = a % 65536 ^ i * b + a / 65536 ^ i % 65536 * (b % 65536 ^ k) * 65536 ^ i) ∧ Hid (Fr0 w wr)) (fun _ s8 _ => lb + 1 - (intOf s8).toNat)
      case atStart =>
        refine ⟨0, 0, L, Nat.zero_le _, by omega, rfl, rfl, HO, HL, HD, ?_, HF⟩
        have := HV.out
        show _ = _
        rw [Nat.pow_zero, Nat.mod_one, this, Nat.mul_zero, Nat.zero_mul, Nat.zero_mul]
      case round =>
        clear HO HL HD HV HF
        obtain ⟨k, c, L, hk, hc, rfl, rfl, HO, HL, HD, HV, HF⟩ := hrel
        by_cases qe : lb ≤ k ∧ c = 0
        · obtain ⟨qb, rfl⟩ := qe
          have hb1 : decide ((k : Int) < (lb : Int)) = false := decide_eq_false (by omega)
          have hb2 : decide (k < lb) = false := decide_eq_false (by omega)
          have HV2 : Hid (bv L = a % 65536 ^ (i + 1) * b) := by
            have := HV.out
            rw [Nat.zero_mul, Nat.add_zero, mul_row ((bd_len_le b k).1 (by rw [← HLB.out]; exact qb))] at this
            exact this
          clear HV
          go_wp2_with fail
          go_roundw
          case rel => exact ⟨i + 1, L, by omega, rfl, HO, HL, HD, HV2, HF⟩
          case measure => first | (simp [intOf]; done) | (simp [intOf]; omega)
        · have hkl : k ≤ lb := by
            rcases Nat.lt_or_ge k lb with h | h
            · omega
            · exact mul_room ((bd_len_le b lb).1 (by rw [← HLB.out]; exact Nat.le_refl _)) (show 0 < c by omega) HV.out
          have hjn : i + k < n := by have := HN.out; omega
          have hwk : wrap64 ((k : Int) + 1) = ((k + 1 : Nat) : Int) := by rw [w64_id (by omega) (by omega)]; omega
          have hms : lb + 1 - (k + 1) < lb + 1 - k := by omega
          have HMS := Lib.hid hms
          have hjL : i + k < L.length := by rw [HL.out]; exact hjn
          obtain ⟨cq, hcq, hxs⟩ := own_some HO.out (i + k) hjn
          have hcq2 : cq = .int .u32 ((L[i + k] : Nat) : Int) := by
            rw [show (u32s L)[i + k]? = some (.int .u32 ((L[i + k] : Nat) : Int)) by simp [u32s, hjL]] at hxs
            exact (Option.some.inj hxs).symm
          subst hcq2
          obtain ⟨cs9, hb9⟩ := (own_blk HO.out (k := w.heap.size) rfl).2
          have hfz : wr.frozen? ⟨w.heap.size, i + k, none⟩ = false := free_of_blk hb9 (i + k)
          have hll : L[i + k] < 65536 := HD.out _ (List.getElem_mem hjL)
          clear hxs hb9 hms
          by_cases qb : k < lb
          · have HNX := Lib.hid (mul_step (z := a / 65536 ^ i % 65536 * (b / 65536 ^ k % 65536)) hjL HV.out)
            rw [mul_next rfl] at HNX
            obtain ⟨x, hx⟩ : ∃ x, x = a / 65536 ^ i % 65536 := ⟨_, rfl⟩
            obtain ⟨y, hy⟩ : ∃ y, y = b / 65536 ^ k % 65536 := ⟨_, rfl⟩
            obtain ⟨l, hl⟩ : ∃ l, l = L[i + k] := ⟨_, rfl⟩
            have hra := HRA.out.kept HF.out
            obtain ⟨ba, oa, rfl⟩ := hra.some_ (by rw [u32s_length, ← HLA.out]; omega)
            have cella := rd_digit hra i (by rw [← HLA.out]; exact qa)
            rw [bd_get (by rw [← HLA.out]; exact qa), ← hx] at cella
            have hrb := HRB.out.kept HF.out
            obtain ⟨bb, ob, rfl⟩ := hrb.some_ (by rw [u32s_length, ← HLB.out]; omega)
            have cellb := rd_digit hrb k (by rw [← HLB.out]; exact qb)
            rw [bd_get (by rw [← HLB.out]; exact qb), ← hy] at cellb
            rw [← hl] at hcq hll HNX
            rw [← hx, ← hy] at HNX
            have hxl : x < 65536 := by rw [hx]; exact Nat.mod_lt _ (by omega)
            have hyl : y < 65536 := by rw [hy]; exact Nat.mod_lt _ (by omega)
            have hxy : x * y ≤ 65535 * 65535 := Nat.mul_le_mul (by omega) (by omega)
            obtain ⟨p, hp⟩ : ∃ p, p = x * y := ⟨_, rfl⟩
            obtain ⟨t, ht⟩ : ∃ t, t = c + l + p := ⟨_, rfl⟩
            rw [← hp] at hxy HNX
            rw [← ht] at HNX
            have hpi : (x : Int) * (y : Int) = (p : Int) := by rw [hp]; simp
            obtain ⟨t1, ht1⟩ : ∃ t, t = c + l := ⟨_, rfl⟩
            have hti : (c : Int) + (l : Int) = (t1 : Int) := by omega
            have htj : (t1 : Int) + (p : Int) = (t : Int) := by omega
            have htl : t < 4294967296 := by omega
            have hpl : p < 4294967296 := by omega
            have htl1 : t1 < 4294967296 := by omega
            have hmd : (t : Int).tmod 65536 = ((t % 65536 : Nat) : Int) := remN rfl
            have hqo : (t : Int).tdiv 65536 = ((t / 65536 : Nat) : Int) := quoN rfl
            have hcl2 : t / 65536 < 65536 := by omega
            have hvl2 : t % 65536 < 65536 := Nat.mod_lt _ (by omega)
            obtain ⟨c2, hc2⟩ : ∃ c2, c2 = t / 65536 := ⟨_, rfl⟩
            obtain ⟨v2, hv2⟩ : ∃ c2, c2 = t % 65536 := ⟨_, rfl⟩
            rw [← hc2] at hqo hcl2 HNX
            rw [← hv2] at hmd hvl2 HNX
            have HVL := Lib.hid hvl2
            have hvw : (v2 : Int) % 4294967296 = (v2 : Int) := by omega
            have hb1 : decide ((k : Int) < (lb : Int)) = true := decide_eq_true (by omega)
            have hb2 : decide (k < lb) = true := decide_eq_true (by omega)
            have hb3 : (k : Int) < (lb : Int) := by omega
            have hk0 : (0 : Int) ≤ (k : Int) := by omega
            obtain ⟨j, hj⟩ : ∃ j, j = i + k := ⟨_, rfl⟩
            rw [← hj] at hcq hfz hjn
            have hji : (i : Int) + (k : Int) = (j : Int) := by omega
            have hj0 : (0 : Int) ≤ (j : Int) := by omega
            have hjn2 : (j : Int) < (n : Int) := by omega
            have hcq0 : wr.cell? ⟨w.heap.size, 0 + j, none⟩ = some (.int .u32 (l : Int)) := by rw [Nat.zero_add]; exact hcq
            have hfz0 : wr.frozen? ⟨w.heap.size, 0 + j, none⟩ = false := by rw [Nat.zero_add]; exact hfz
            rw [show i + k + 1 = i + (k + 1) by omega, ← hj] at HNX
            have HJ := Lib.hid hj
            have HX := Lib.hid hx
            clear hx hy hl hp ht ht1 hc2 hv2 hj hra hrb HV qe
            go_upto_region 11 with fail
            have r0 := cg_cell (W := wr) cella
            have r1 := cg_cell (W := wr) cellb
            refine wp_region_cg hmx (by kernel_rfl) ?_
            repeat (go_big_quiet_step (fail))
            refine wpQuiet_nil ?_
            intro w6 hf6
            have HO6 := Lib.hid (own_kept0 HO.out hf6)
            clear hcq hcq0 hfz hfz0 cella cellb r0 r1
            obtain ⟨cs6, hb6⟩ := (own_blk HO6.out (k := w.heap.size) rfl).2
            have hfz : w6.frozen? ⟨w.heap.size, j, none⟩ = false := free_of_blk hb6 j
            have hfz0 : w6.frozen? ⟨w.heap.size, 0 + j, none⟩ = false := by rw [Nat.zero_add]; exact hfz
            obtain ⟨cq6, hcq6, hxs6⟩ := own_some HO6.out j hjn
            have hcq6b : w6.cell? ⟨w.heap.size, 0 + j, none⟩ = some cq6 := by rw [Nat.zero_add]; exact hcq6
            have HF6 := Lib.hid hf6
            clear hb6 hxs6 hjL hf6
            go_wp2_with fail
            go_roundw
            case rel =>
              have hso := own_set HO6.out j (.int .u32 (v2 : Int))
              rw [show (u32s L).set j (.int .u32 (v2 : Int)) = u32s (L.set j v2) by simp [u32s, List.map_set]] at hso
              refine ⟨k + 1, c2, L.set j v2, by omega, hcl2, rfl, rfl, hso, by rw [List.length_set]; exact HL.out, set_lt HD.out HVL.out, ?_, (HF.out.trans HF6.out).setCell (fun h => by simp at h) _⟩
              have h1 := HNX.out
              have h2 := HJ.out
              subst h2
              rw [HX.out] at h1
              exact h1
            case measure => have := HMS.out; first | (simp [intOf]; done) | (simp [intOf]; omega)
          · have HNX := Lib.hid (mul_step (z := 0) hjL HV.out)
            rw [Nat.zero_mul, Nat.add_zero, Nat.add_zero, mul_over ((bd_len_le b k).1 (by rw [← HLB.out]; omega)) rfl] at HNX
            obtain ⟨l, hl⟩ : ∃ l, l = L[i + k] := ⟨_, rfl⟩
            rw [← hl] at hcq hll HNX
            obtain ⟨t, ht⟩ : ∃ t, t = c + l := ⟨_, rfl⟩
            rw [← ht] at HNX
            have hti : (c : Int) + (l : Int) = (t : Int) := by omega
            have htl : t < 4294967296 := by omega
            have hmd : (t : Int).tmod 65536 = ((t % 65536 : Nat) : Int) := remN rfl
            have hqo : (t : Int).tdiv 65536 = ((t / 65536 : Nat) : Int) := quoN rfl
            have hcl2 : t / 65536 < 65536 := by omega
            have hvl2 : t % 65536 < 65536 := Nat.mod_lt _ (by omega)
            obtain ⟨c2, hc2⟩ : ∃ c2, c2 = t / 65536 := ⟨_, rfl⟩
            obtain ⟨v2, hv2⟩ : ∃ c2, c2 = t % 65536 := ⟨_, rfl⟩
            rw [← hc2] at hqo hcl2 HNX
            rw [← hv2] at hmd hvl2 HNX
            have HVL := Lib.hid hvl2
            have hvw : (v2 : Int) % 4294967296 = (v2 : Int) := by omega
            have hb1 : decide ((k : Int) < (lb : Int)) = false := decide_eq_false (by omega)
            have hb2 : decide (k < lb) = false := decide_eq_false qb
            have hc0 : decide ((0 : Int) < (c : Int)) = true := decide_eq_true (by omega)
            have hc1 : decide (0 < c) = true := decide_eq_true (by omega)
            have hk0 : (0 : Int) ≤ (k : Int) := by omega
            obtain ⟨j, hj⟩ : ∃ j, j = i + k := ⟨_, rfl⟩
            rw [← hj] at hcq hfz hjn
            have hji : (i : Int) + (k : Int) = (j : Int) := by omega
            have hj0 : (0 : Int) ≤ (j : Int) := by omega
            have hjn2 : (j : Int) < (n : Int) := by omega
            have hcq0 : wr.cell? ⟨w.heap.size, 0 + j, none⟩ = some (.int .u32 (l : Int)) := by rw [Nat.zero_add]; exact hcq
            have hfz0 : wr.frozen? ⟨w.heap.size, 0 + j, none⟩ = false := by rw [Nat.zero_add]; exact hfz
            rw [show i + k + 1 = i + (k + 1) by omega, ← hj] at HNX
            have HJ := Lib.hid hj
            clear hl ht hc2 hv2 hj HV qe hjL
            go_wp2_with fail
            go_roundw
            case rel =>
              have hso := own_set HO.out j (.int .u32 (v2 : Int))
              rw [show (u32s L).set j (.int .u32 (v2 : Int)) = u32s (L.set j v2) by simp [u32s, List.map_set]] at hso
              refine ⟨k + 1, c2, L.set j v2, by omega, hcl2, rfl, rfl, hso, by rw [List.length_set]; exact HL.out, set_lt HD.out HVL.out, ?_, HF.out.setCell (fun h => by simp at h) _⟩
              have h1 := HNX.out
              have h2 := HJ.out
              subst h2
              exact h1
            case measure => have := HMS.out; first | (simp [intOf]; done) | (simp [intOf]; omega)
    · have hil : i = la := by omega
      have ha1 : decide ((i : Int) < (la : Int)) = false := decide_eq_false (by omega)
      have ha2 : decide (i < la) = false := decide_eq_false (by omega)
      have hv : bv L = a * b := by
        rw [HV.out, hil, Nat.mod_eq_of_lt ((bd_len_le a la).1 (by rw [← HLA.out]; exact Nat.le_refl _))]
      have hown5 := HO.out
      rw [← HL.out] at hown5
      obtain ⟨A5, c5, e5, h5, hR5⟩ := isD_ownS hown5
      cases e5
      have HT := Lib.hid (rtrim_calls (some ⟨w.heap.size, 0, none⟩) L.length L wr hR5 h5 HD.out (by rw [HL.out]; omega))
      rw [HL.out, hv] at HT
      clear hv HV hR5 hown5 h5 hil qa
      go_wp2_with (first | (go_at_call 73; refine HT.out.mono ?_; rintro _ w5 ⟨⟨v5, rfl, hb5⟩, hf5⟩) | fail)
      go_ret
      exact ⟨⟨_, rfl, hb5⟩, HF.out.trans hf5⟩
end Go.Proofs.Ytdakeenjeieekaa
