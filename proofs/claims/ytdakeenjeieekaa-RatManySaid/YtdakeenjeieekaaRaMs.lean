/- Chapter 01: Sum. -/
import Derived.Test.YtdakeenjeieekaaRaMa0
set_option linter.unusedVariables false
set_option linter.unusedSimpArgs false
namespace Go.Proofs.Ytdakeenjeieekaa
open Go.RowKit
attribute [local go_sem] Oper.semAt_some

set_option maxHeartbeats 2000000 in
theorem rsum1_calls (A : Option Addr) (c p : Nat) (l : List (Int × Int)) (w : World) (hp : w.heap[p]? = some (.cells #[.slice A l.length c] 47 (0, 0)))
    (hR : Rd (fun _ => False) w A (sends l)) (hl : I64l l) (hlen : l.length ≤ 1000000000) :
    Calls Try.prog 58 #[.pointer (some ⟨p, 0, none⟩)] w fun e w' => e = endR (sumR l) ∧ Fr0 w w' := by
  have HR := Lib.hid hR
  have HP := Lib.hid hp
  have HL := Lib.hid hl
  have HB0 := Lib.hid (heap_alloc_new w (.cells (rtc 0 0) 23))
  have HF0 := Lib.hid ((Fr.refl (fun _ => False) w).alloc (.cells (rtc 0 0) 23))
  have HBO := Lib.hid (fun (U : World) (hf : Fr0 w U) => rboth_calls A c l U (hR.kept hf) hl hlen)
  have p0 := HF0.out.cell (cell_of_blk hp 0) (fun h => h)
  change (w.alloc _).cell? ⟨p, 0, none⟩ = some (.slice A l.length c) at p0
  unfold bothE at HBO
  clear hp hR hl
  unfold sumR
  by_cases hall : AllR l
  · rw [if_pos hall] at HBO ⊢
    have HA := Lib.hid hall
    clear hall
    go_enter Try.func58, Try.ntmps58
    go_wp2_with (first | (go_at_call 56; (with_reducible refine (HBO.out _ HF0.out).mono ?_); rintro _ w3 ⟨rfl, hf3⟩; have p1 := (hf3.alloc (.cells (rtc 0 1) 23)).cell p0 (fun h => h)) | fail)
    have hb3 := heap_alloc_new w3 (.cells (rtc 0 1) 23)
    have hr3 := blk_alloc (hf3.blk HB0.out (fun h => h)) (.cells (rtc 0 1) 23)
    have HF3 := Lib.hid ((HF0.out.trans hf3).alloc (.cells (rtc 0 1) 23))
    have hsz : w.heap.size < w3.heap.size := by have := hf3.size; simp at this; omega
    generalize w3.alloc (.cells (rtc 0 1) 23) = W3 at *
    generalize w3.heap.size = o at *
    have HO := Lib.hid hsz
    clear hsz hf3 HBO p0 p1
    go_loopw [10] (fun i wr => ∃ (k : Nat) (n d : Int), k ≤ l.length ∧ i = .int .i64 (k : Int) ∧ Hid (sumK l k = .ok (n, d)) ∧ Hid (wr.heap[o]? = some (.cells (rtc n d) 23 (0, 0))) ∧ Hid (wr.heap[w.heap.size]? = some (.cells (rtc 0 0) 23 (0, 0))) ∧ Hid (Fr0 w wr)) (fun i _ => l.length - (intOf i).toNat)
    case atStart => exact ⟨0, 0, 1, by omega, rfl, sumK_zero l, hb3, hr3, HF3.out⟩
    case round =>
      obtain ⟨k, n, d, hk, rfl, HK, HB, HQ, HF⟩ := hrel
      by_cases hlt : k < l.length
      · have hr := HR.out.kept HF.out
        obtain ⟨b, off, rfl⟩ := hr.some_ (by rw [sends_length]; omega)
        obtain ⟨d0, d1⟩ := rdl_cells hr k hlt
        have hi1 : (0 : Int) ≤ (k : Int) := by omega
        have hi2 : (k : Int) < (l.length : Int) := by omega
        have hi64 := HL.out _ (at_mem hlt)
        obtain ⟨g1, g2, g3⟩ := sumK_good HK.out (by omega)
        have HC := Lib.hid (fun U => radded_calls n d (at_ l k) (sz_ l k) g1 (allR_at HA.out hlt) ⟨g2, g3⟩ hi64 U)
        have hcs := sumK_cases l HK.out hlt
        have hbo := blk_alloc HB.out (.cells (rtc (at_ l k) (sz_ l k)) 23)
        have hbn := heap_alloc_new wr (.cells (rtc (at_ l k) (sz_ l k)) 23)
        have HQ1 := Lib.hid (blk_alloc HQ.out (.cells (rtc (at_ l k) (sz_ l k)) 23))
        have HF1 := Lib.hid (HF.out.alloc (.cells (rtc (at_ l k) (sz_ l k)) 23))
        obtain ⟨c0, c1, _, _⟩ := two_facts hbo
        obtain ⟨e0, e1, _, _⟩ := two_facts hbn
        have HBO1 := Lib.hid hbo
        clear hr hi64 g1 g2 g3 hbo hbn hb3 hr3
        rcases hcs with ⟨x, y, hs, hsk⟩ | ⟨e, hs, hsk⟩
        · rw [hs] at HC
          have HSK := Lib.hid hsk
          clear hs hsk
          change Hid (∀ U, Calls Try.prog _ _ U fun e w' => e = .returned (rtv x y) ∧ Fr0 U w') at HC
          go_wp2_with (first | (go_at_call 45; (with_reducible refine (HC.out _).mono ?_); rintro _ w5 ⟨rfl, hf5⟩; have hb5 := hf5.blk HBO1.out (fun h => h); obtain ⟨_, _, f0, f1⟩ := two_facts hb5) | fail)
          go_roundw
          case rel =>
            exact ⟨k + 1, x, y, by omega, by go_num, HSK.out, two_set hb5 _ _, blk_setCell_other (blk_setCell_other (hf5.blk HQ1.out (fun h => h)) (p := ⟨o, 0, none⟩) (by have := HO.out; simp; omega) _) (p := ⟨o, 1, none⟩) (by have := HO.out; simp; omega) _,
              two_fr (HF1.out.trans hf5) (by have := HO.out; omega) _ _⟩
          case measure => simp [intOf]; omega
        · rw [hs] at HC
          have HSK := Lib.hid hsk
          clear hs hsk
          change Hid (∀ U, Calls Try.prog _ _ U fun e' w' => e' = .panicked [stopE e] ∧ Fr0 U w') at HC
          go_wp2_with (first | (go_at_call 45; (with_reducible refine (HC.out _).mono ?_); rintro _ w5 ⟨rfl, hf5⟩) | fail)
          exact ⟨rfl, (by rw [HSK.out]; rfl), HF1.out.trans hf5⟩
      · have hkm : k = l.length := by omega
        subst hkm
        obtain ⟨c0, c1, _, _⟩ := two_facts HB.out
        obtain ⟨_, _, f0, f1⟩ := two_facts HQ.out
        have HB1 := two_set HQ.out (.int .i64 n) (.int .i64 d)
        go_wp2_with fail
        exact bodyPost_ret (results_cell_row rfl _ _ w.heap.size _ _ _ _ rfl HB1 Try.underlying23 rfl (by kernel_rfl)) rfl ⟨(by rw [HK.out]; rfl), two_fr HF.out (by omega) _ _⟩
  · rw [if_neg hall] at HBO ⊢
    clear hall
    go_enter Try.func58, Try.ntmps58
    go_wp2_with (first | (go_at_call 56; (with_reducible refine (HBO.out _ HF0.out).mono ?_); rintro _ w3 ⟨rfl, hf3⟩) | fail)
    exact ⟨rfl, rfl, HF0.out.trans hf3⟩
/-- The sum of many. -/
theorem rsum_calls (A : Option Addr) (c : Nat) (l : List (Int × Int)) (w : World) (hR : Rd (fun _ => False) w A (sends l)) (hl : I64l l) (hlen : l.length ≤ 1000000000) :
    Calls Try.prog 31 #[.slice A l.length c] w fun e w' => e = .returned (tupR (sumR l)) ∧ Fr0 w w' := by
  have HF := Lib.hid (((Fr.refl (fun _ => False) w).alloc (.cells #[.slice A l.length c] 47)).alloc (.cells (rtc 0 0) 23))
  have HS := Lib.hid (blk_alloc (heap_alloc_new w (.cells #[.slice A l.length c] 47)) (.cells (rtc 0 0) 23))
  have HB := Lib.hid (heap_an (w := w.alloc (.cells #[.slice A l.length c] 47)) (k := w.heap.size + 1) (.cells (rtc 0 0) 23) (by simp))
  have HT := Lib.hid (rtry_calls 58 #[.pointer (some ⟨w.heap.size, 0, none⟩)] (sumR l) _ (enters_of' Try.func58 (by kernel_rfl) rfl)
    (fun U hU => rsum1_calls A c w.heap.size l U (hU.blk HS.out (fun h => h)) (hR.kept (HF.out.trans hU)) hl hlen))
  have hmf : ∀ (fn : Fn) (first cap : Array Value) (w : World), (Instr.makeFunc fn first cap).run Try.prog w = .ok (.func fn first cap) w := fun _ _ _ _ => rfl
  unfold tupR at HT ⊢
  generalize rN (sumR l) = x at *
  generalize rD (sumR l) = y at *
  generalize rE (sumR l) = k at *
  go_enter Try.func31, Try.ntmps31
  go_wp2_with (first | (go_at_call 34; (with_reducible refine HT.out.mono ?_); rintro _ w3 ⟨rfl, hf3⟩; have hb3 := hf3.blk HB.out (fun h => h); obtain ⟨c0, c1, f0, f1⟩ := two_facts hb3) | fail)
  exact bodyPost_ret (results_row_tmp (p := 2) (u := 3) rfl _ _ (w.heap.size + 1) _ _ _ _ rfl (two_set hb3 _ _) Try.underlying23 rfl (by kernel_rfl)) rfl ⟨rfl, two_fr (HF.out.trans hf3) (by omega) _ _⟩
end Go.Proofs.Ytdakeenjeieekaa
