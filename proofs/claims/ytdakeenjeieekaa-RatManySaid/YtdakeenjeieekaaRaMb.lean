/- Chapter 01: the first of many. -/
import Derived.Test.YtdakeenjeieekaaRaMa0
import Derived.Test.YtdakeenjeieekaaRaCm
set_option linter.unusedVariables false
set_option linter.unusedSimpArgs false
namespace Go.Proofs.Ytdakeenjeieekaa
open Go.RowKit
attribute [local go_sem] Oper.semAt_some

/-- Which of two is ahead: the lesser, or the greater. -/
def ahB (s : Bool) (x b : Int × Int) : Bool := if s then decide (cmpN x.1 x.2 b.1 b.2 < 0) else decide (0 < cmpN x.1 x.2 b.1 b.2)
def pickR (s : Bool) (b x : Int × Int) : Int × Int := if ahB s x b then x else b
/-- The first of the first k (k > 0). -/
def firstK (s : Bool) (l : List (Int × Int)) (k : Nat) : Int × Int := ((l.take k).drop 1).foldl (pickR s) (at_ l 0, sz_ l 0)
def firstR (s : Bool) (l : List (Int × Int)) : Ra := if l.length = 0 then .error 2 else if AllR l then .ok (firstK s l l.length) else .error 2
theorem firstK_one (s : Bool) (l : List (Int × Int)) : firstK s l 1 = (at_ l 0, sz_ l 0) := by
  unfold firstK
  cases l <;> rfl
theorem firstK_succ {s : Bool} {l : List (Int × Int)} {k : Nat} (h0 : 1 ≤ k) (h : k < l.length) : firstK s l (k + 1) = pickR s (firstK s l k) (at_ l k, sz_ l k) := by
  unfold firstK
  rw [List.take_succ_eq_append_getElem h, List.drop_append_of_le_length (by rw [List.length_take]; omega), List.foldl_append, at_eq l k h, sz_eq l k h]
  rfl
theorem pick_mem {s : Bool} {l : List (Int × Int)} : ∀ (r : List (Int × Int)) (b : Int × Int), b ∈ l → (∀ x ∈ r, x ∈ l) → r.foldl (pickR s) b ∈ l
  | [], _, h, _ => h
  | x :: r, b, h, hr => by
    refine pick_mem r (pickR s b x) ?_ (fun y hy => hr y (List.mem_cons_of_mem _ hy))
    unfold pickR
    split
    · exact hr x (List.mem_cons_self ..)
    · exact h
theorem firstK_mem {s : Bool} {l : List (Int × Int)} (h : 0 < l.length) (k : Nat) : firstK s l k ∈ l :=
  pick_mem _ _ (at_mem h) (fun x hx => List.mem_of_mem_take (List.mem_of_mem_drop hx))
theorem rleast1_calls (x b : Int × Int) (hx : RtOk x.1 x.2) (hb : RtOk b.1 b.2) (ix : I64r x.1 ∧ I64r x.2) (ib : I64r b.1 ∧ I64r b.2) (w : World) :
    Calls Try.prog 60 #[rtv x.1 x.2, rtv b.1 b.2] w fun e w' => e = .returned (.bool (ahB true x b)) ∧ Fr0 w w' := by
  obtain ⟨n, d⟩ := x
  obtain ⟨m, e⟩ := b
  have HC := Lib.hid (fun U => rcompared_calls n d m e hx hb ix ib U)
  show Calls _ _ #[rtv n d, rtv m e] _ fun e' w' => e' = .returned (.bool (decide (cmpN n d m e < 0))) ∧ _
  have hb1 := blk_alloc (heap_alloc_new w (.cells (rtc n d) 23)) (.cells (rtc m e) 23)
  have hb2 := heap_an (w := w.alloc (.cells (rtc n d) 23)) (k := w.heap.size + 1) (.cells (rtc m e) 23) (by simp)
  have HF := Lib.hid (((Fr.refl (fun _ => False) w).alloc (.cells (rtc n d) 23)).alloc (.cells (rtc m e) 23))
  obtain ⟨a0, a1, _, _⟩ := two_facts hb1
  obtain ⟨b0, b1, _, _⟩ := two_facts hb2
  clear hb1 hb2
  generalize cmpN n d m e = c at *
  go_enter Try.func60, Try.ntmps60
  go_wp2_with (first | (go_at_call 57; (with_reducible refine (HC.out _).mono ?_); rintro _ w3 ⟨rfl, hf3⟩) | fail)
  go_ret
  exact ⟨rfl, HF.out.trans hf3⟩
theorem rgreatest1_calls (x b : Int × Int) (hx : RtOk x.1 x.2) (hb : RtOk b.1 b.2) (ix : I64r x.1 ∧ I64r x.2) (ib : I64r b.1 ∧ I64r b.2) (w : World) :
    Calls Try.prog 61 #[rtv x.1 x.2, rtv b.1 b.2] w fun e w' => e = .returned (.bool (ahB false x b)) ∧ Fr0 w w' := by
  obtain ⟨n, d⟩ := x
  obtain ⟨m, e⟩ := b
  have HC := Lib.hid (fun U => rcompared_calls n d m e hx hb ix ib U)
  show Calls _ _ #[rtv n d, rtv m e] _ fun e' w' => e' = .returned (.bool (decide (0 < cmpN n d m e))) ∧ _
  have hb1 := blk_alloc (heap_alloc_new w (.cells (rtc n d) 23)) (.cells (rtc m e) 23)
  have hb2 := heap_an (w := w.alloc (.cells (rtc n d) 23)) (k := w.heap.size + 1) (.cells (rtc m e) 23) (by simp)
  have HF := Lib.hid (((Fr.refl (fun _ => False) w).alloc (.cells (rtc n d) 23)).alloc (.cells (rtc m e) 23))
  obtain ⟨a0, a1, _, _⟩ := two_facts hb1
  obtain ⟨b0, b1, _, _⟩ := two_facts hb2
  clear hb1 hb2
  generalize cmpN n d m e = c at *
  go_enter Try.func61, Try.ntmps61
  go_wp2_with (first | (go_at_call 57; (with_reducible refine (HC.out _).mono ?_); rintro _ w3 ⟨rfl, hf3⟩) | fail)
  go_ret
  exact ⟨rfl, HF.out.trans hf3⟩

set_option maxHeartbeats 2000000 in
theorem rfirst1_calls (s : Bool) (K : FuncId) (A : Option Addr) (c p q : Nat) (l : List (Int × Int)) (w : World) (hp : w.heap[p]? = some (.cells #[.slice A l.length c] 47 (0, 0)))
    (hq : w.cell? ⟨q, 0, none⟩ = some (.func (.func K) #[] #[]))
    (HE : ∀ (args : Array Value) (U : World), (callFunc K args).run Try.prog U = .ok (.enter K args) U)
    (HKC : ∀ (x b : Int × Int), RtOk x.1 x.2 → RtOk b.1 b.2 → (I64r x.1 ∧ I64r x.2) → (I64r b.1 ∧ I64r b.2) → ∀ U, Calls Try.prog K #[rtv x.1 x.2, rtv b.1 b.2] U fun e w' => e = .returned (.bool (ahB s x b)) ∧ Fr0 U w')
    (hR : Rd (fun _ => False) w A (sends l)) (hl : I64l l) (hlen : l.length ≤ 1000000000) (hc : l.length ≤ c) :
    Calls Try.prog 75 #[.pointer (some ⟨p, 0, none⟩), .pointer (some ⟨q, 0, none⟩)] w fun e w' => e = endR (firstR s l) ∧ Fr0 w w' := by
  have HR := Lib.hid hR
  have HL := Lib.hid hl
  have HB0 := Lib.hid (heap_alloc_new w (.cells (rtc 0 0) 23))
  have HF0 := Lib.hid ((Fr.refl (fun _ => False) w).alloc (.cells (rtc 0 0) 23))
  have HBO := Lib.hid (fun (U : World) (hf : Fr0 w U) => rboth_calls A c l U (hR.kept hf) hl hlen)
  have p0 := HF0.out.cell (cell_of_blk hp 0) (fun h => h)
  change (w.alloc _).cell? ⟨p, 0, none⟩ = some (.slice A l.length c) at p0
  have q0 := HF0.out.cell hq (fun h => h)
  have HY := Lib.hid (fun U => rmust_yes 2 U)
  have HN := Lib.hid (fun U => rmust_no 2 U)
  have HKC' := Lib.hid HKC
  have HQF := Lib.hid hq
  unfold bothE at HBO
  clear hp hR hl HKC hq
  unfold firstR
  by_cases h0 : l.length = 0
  · rw [if_pos h0]
    have h0d : decide (0 < l.length) = false := decide_eq_false (by omega)
    have h0e : decide ((0 : Int) < (l.length : Int)) = false := decide_eq_false (by omega)
    clear h0 HBO
    go_enter Try.func75, Try.ntmps75
    go_wp2_with (first | (go_at_call 36; (with_reducible refine (HN.out _).mono ?_); rintro _ _ ⟨rfl, rfl⟩) | fail)
    exact ⟨rfl, rfl, HF0.out⟩
  rw [if_neg h0]
  have h0d : decide (0 < l.length) = true := decide_eq_true (by omega)
  have h0e : decide ((0 : Int) < (l.length : Int)) = true := decide_eq_true (by omega)
  by_cases hall : AllR l
  · rw [if_pos hall] at HBO ⊢
    have HA := Lib.hid hall
    clear hall
    obtain ⟨b, off, rfl⟩ := HR.out.some_ (by rw [sends_length]; omega)
    have hpos : 0 < l.length := by omega
    have hi2 : (0 : Int) < (l.length : Int) := by omega
    have hlc : (l.length : Int) ≤ (c : Int) := by omega
    go_enter Try.func75, Try.ntmps75
    go_wp2_with (first
      | (go_at_call 36; (with_reducible refine (HY.out _).mono ?_); rintro _ _ ⟨rfl, rfl⟩)
      | (go_at_call 56; (with_reducible refine (HBO.out _ HF0.out).mono ?_); rintro _ w3 ⟨rfl, hf3⟩; obtain ⟨d0, d1⟩ := rdl_cells (HR.out.kept (HF0.out.trans hf3)) 0 hpos; rw [show off + 0 * 2 = off by omega] at d0 d1; have p1 := hf3.cell p0 (fun h => h); have p2 := (hf3.alloc (.cells (rtc (at_ l 0) (sz_ l 0)) 23)).cell p0 (fun h => h); have q2 := (hf3.alloc (.cells (rtc (at_ l 0) (sz_ l 0)) 23)).cell q0 (fun h => h))
      | fail)
    · have hb3 := heap_alloc_new w3 (.cells (rtc (at_ l 0) (sz_ l 0)) 23)
      have hr3 := blk_alloc (hf3.blk HB0.out (fun h => h)) (.cells (rtc (at_ l 0) (sz_ l 0)) 23)
      have HF3 := Lib.hid ((HF0.out.trans hf3).alloc (.cells (rtc (at_ l 0) (sz_ l 0)) 23))
      have hsz : w.heap.size < w3.heap.size := by have := hf3.size; simp at this; omega
      generalize w3.alloc (.cells (rtc (at_ l 0) (sz_ l 0)) 23) = W3 at *
      generalize w3.heap.size = o at *
      have HO := Lib.hid hsz
      clear hsz hf3 HBO p0 p1 p2 q0 q2 d0 d1
      go_loopw [18] (fun i wr => ∃ (j : Nat) (m e : Int), j + 1 ≤ l.length ∧ i = .int .i64 (j : Int) ∧ Hid (firstK s l (j + 1) = (m, e)) ∧ Hid (wr.heap[o]? = some (.cells (rtc m e) 23 (0, 0))) ∧ Hid (wr.heap[w.heap.size]? = some (.cells (rtc 0 0) 23 (0, 0))) ∧ Hid (Fr0 w wr)) (fun i _ => l.length - (intOf i).toNat)
      case atStart => exact ⟨0, _, _, by omega, rfl, firstK_one s l, hb3, hr3, HF3.out⟩
      case round =>
        obtain ⟨j, m, e, hj, rfl, HK, HB, HQ, HF⟩ := hrel
        by_cases hlt : j + 1 < l.length
        · exact absurd hlt (by omega)
        · have hkm : j = l.length - 1 := by omega
          have HK2 : Hid (firstK s l l.length = (m, e)) := by
            show _ = _
            rw [← HK.out]; congr 1; omega
          subst hkm
          obtain ⟨c0, c1, _, _⟩ := two_facts HB.out
          obtain ⟨_, _, f0, f1⟩ := two_facts HQ.out
          have HB1 := two_set HQ.out (.int .i64 m) (.int .i64 e)
          clear HK
          go_wp2_with fail
          exact bodyPost_ret (results_cell_row rfl _ _ w.heap.size _ _ _ _ rfl HB1 Try.underlying23 rfl (by kernel_rfl)) rfl ⟨(by rw [HK2.out]; rfl), two_fr HF.out (by omega) _ _⟩
    · have hb3 := heap_alloc_new w3 (.cells (rtc (at_ l 0) (sz_ l 0)) 23)
      have hr3 := blk_alloc (hf3.blk HB0.out (fun h => h)) (.cells (rtc (at_ l 0) (sz_ l 0)) 23)
      have HF3 := Lib.hid ((HF0.out.trans hf3).alloc (.cells (rtc (at_ l 0) (sz_ l 0)) 23))
      have hsz : w.heap.size < w3.heap.size := by have := hf3.size; simp at this; omega
      generalize w3.alloc (.cells (rtc (at_ l 0) (sz_ l 0)) 23) = W3 at *
      generalize w3.heap.size = o at *
      have HO := Lib.hid hsz
      clear hsz hf3 HBO p0 p1 p2 q0 q2 d0 d1
      go_loopw [18] (fun i wr => ∃ (j : Nat) (m e : Int), j + 1 ≤ l.length ∧ i = .int .i64 (j : Int) ∧ Hid (firstK s l (j + 1) = (m, e)) ∧ Hid (wr.heap[o]? = some (.cells (rtc m e) 23 (0, 0))) ∧ Hid (wr.heap[w.heap.size]? = some (.cells (rtc 0 0) 23 (0, 0))) ∧ Hid (Fr0 w wr)) (fun i _ => l.length - (intOf i).toNat)
      case atStart => exact ⟨0, _, _, by omega, rfl, firstK_one s l, hb3, hr3, HF3.out⟩
      case round =>
        obtain ⟨j, m, e, hj, rfl, HK, HB, HQ, HF⟩ := hrel
        by_cases hlt : j + 1 < l.length
        · have hr := HR.out.kept HF.out
          obtain ⟨d0, d1⟩ := rdl_cells hr (j + 1) hlt
          rw [show off + (j + 1) * 2 = off + 2 + j * 2 by omega] at d0 d1
          have hi1 : (0 : Int) ≤ (j : Int) := by omega
          have hi2 : (j : Int) < ((l.length - 1 : Nat) : Int) := by omega
          have hmm := firstK_mem (s := s) (l := l) hpos (j + 1)
          rw [HK.out] at hmm
          have HC := Lib.hid (fun U => HKC'.out (at_ l (j + 1), sz_ l (j + 1)) (m, e) (allR_at HA.out hlt) (HA.out _ hmm) (HL.out _ (at_mem hlt)) (HL.out _ hmm) U)
          have hbo := blk_alloc HB.out (.cells (rtc (at_ l (j + 1)) (sz_ l (j + 1))) 23)
          have hbn := heap_alloc_new wr (.cells (rtc (at_ l (j + 1)) (sz_ l (j + 1))) 23)
          have HQ1 := Lib.hid (blk_alloc HQ.out (.cells (rtc (at_ l (j + 1)) (sz_ l (j + 1))) 23))
          have HF1 := Lib.hid (HF.out.alloc (.cells (rtc (at_ l (j + 1)) (sz_ l (j + 1))) 23))
          have qf := HF1.out.cell HQF.out (fun h => h)
          obtain ⟨c0, c1, _, _⟩ := two_facts hbo
          obtain ⟨e0, e1, _, _⟩ := two_facts hbn
          have HBO1 := Lib.hid hbo
          have HBN := Lib.hid hbn
          have HS := Lib.hid (firstK_succ (s := s) (l := l) (k := j + 1) (by omega) hlt)
          clear hr hmm hbo hbn hb3 hr3
          obtain ⟨t, ht⟩ : ∃ t, t = ahB s (at_ l (j + 1), sz_ l (j + 1)) (m, e) := ⟨_, rfl⟩
          have HS2 : Hid (firstK s l (j + 1 + 1) = if t then (at_ l (j + 1), sz_ l (j + 1)) else (m, e)) := by
            show _ = _
            rw [HS.out, HK.out, ht]; rfl
          rw [← ht] at HC
          clear HS ht
          rcases t with _ | _
          · go_wp2_with (first | (go_at_fn K; (with_reducible refine (HC.out _).mono ?_); rintro _ w5 ⟨rfl, hf5⟩) | fail)
            go_roundw
            case rel =>
              exact ⟨j + 1, m, e, by omega, by go_num, HS2.out, hf5.blk HBO1.out (fun h => h), hf5.blk HQ1.out (fun h => h), HF1.out.trans hf5⟩
            case measure => simp [intOf]; omega
          · go_wp2_with (first | (go_at_fn K; (with_reducible refine (HC.out _).mono ?_); rintro _ w5 ⟨rfl, hf5⟩; have hb5 := hf5.blk HBO1.out (fun h => h); obtain ⟨_, _, f0, f1⟩ := two_facts hb5; have hn5 := hf5.blk HBN.out (fun h => h); obtain ⟨g0, g1, _, _⟩ := two_facts hn5) | fail)
            go_roundw
            case rel =>
              exact ⟨j + 1, _, _, by omega, by go_num, HS2.out, two_set hb5 _ _, blk_setCell_other (blk_setCell_other (hf5.blk HQ1.out (fun h => h)) (p := ⟨o, 0, none⟩) (by have := HO.out; simp; omega) _) (p := ⟨o, 1, none⟩) (by have := HO.out; simp; omega) _,
                two_fr (HF1.out.trans hf5) (by have := HO.out; omega) _ _⟩
            case measure => simp [intOf]; omega
        · have hkm : j = l.length - 1 := by omega
          have HK2 : Hid (firstK s l l.length = (m, e)) := by
            show _ = _
            rw [← HK.out]; congr 1; omega
          subst hkm
          obtain ⟨c0, c1, _, _⟩ := two_facts HB.out
          obtain ⟨_, _, f0, f1⟩ := two_facts HQ.out
          have HB1 := two_set HQ.out (.int .i64 m) (.int .i64 e)
          clear HK
          go_wp2_with fail
          exact bodyPost_ret (results_cell_row rfl _ _ w.heap.size _ _ _ _ rfl HB1 Try.underlying23 rfl (by kernel_rfl)) rfl ⟨(by rw [HK2.out]; rfl), two_fr HF.out (by omega) _ _⟩
  · rw [if_neg hall] at HBO ⊢
    clear hall
    go_enter Try.func75, Try.ntmps75
    go_wp2_with (first | (go_at_call 36; (with_reducible refine (HY.out _).mono ?_); rintro _ _ ⟨rfl, rfl⟩) | (go_at_call 56; (with_reducible refine (HBO.out _ HF0.out).mono ?_); rintro _ w3 ⟨rfl, hf3⟩) | fail)
    exact ⟨rfl, rfl, HF0.out.trans hf3⟩

theorem rfirst_calls (s : Bool) (K : FuncId) (A : Option Addr) (c : Nat) (l : List (Int × Int)) (w : World)
    (HE : ∀ (args : Array Value) (U : World), (callFunc K args).run Try.prog U = .ok (.enter K args) U)
    (HKC : ∀ (x b : Int × Int), RtOk x.1 x.2 → RtOk b.1 b.2 → (I64r x.1 ∧ I64r x.2) → (I64r b.1 ∧ I64r b.2) → ∀ U, Calls Try.prog K #[rtv x.1 x.2, rtv b.1 b.2] U fun e w' => e = .returned (.bool (ahB s x b)) ∧ Fr0 U w')
    (hR : Rd (fun _ => False) w A (sends l)) (hl : I64l l) (hlen : l.length ≤ 1000000000) (hc : l.length ≤ c) :
    Calls Try.prog 59 #[.slice A l.length c, .func (.func K) #[] #[]] w fun e w' => e = .returned (tupR (firstR s l)) ∧ Fr0 w w' := by
  have HF := Lib.hid ((((Fr.refl (fun _ => False) w).alloc (.cells #[.slice A l.length c] 47)).alloc (.cells #[.func (.func K) #[] #[]] 41)).alloc (.cells (rtc 0 0) 23))
  have HS := Lib.hid (blk_alloc (blk_alloc (heap_alloc_new w (.cells #[.slice A l.length c] 47)) (.cells #[.func (.func K) #[] #[]] 41)) (.cells (rtc 0 0) 23))
  have HG := Lib.hid (cell_of_blk (blk_alloc (heap_an (w := w.alloc (.cells #[.slice A l.length c] 47)) (k := w.heap.size + 1) (.cells #[.func (.func K) #[] #[]] 41) (by simp)) (.cells (rtc 0 0) 23)) 0)
  have HB := Lib.hid (heap_an (w := (w.alloc (.cells #[.slice A l.length c] 47)).alloc (.cells #[.func (.func K) #[] #[]] 41)) (k := w.heap.size + 1 + 1) (.cells (rtc 0 0) 23) (by simp))
  have HT := Lib.hid (rtry_calls 75 #[.pointer (some ⟨w.heap.size, 0, none⟩), .pointer (some ⟨w.heap.size + 1, 0, none⟩)] (firstR s l) _ (enters_of' Try.func75 (by kernel_rfl) rfl)
    (fun U hU => rfirst1_calls s K A c w.heap.size (w.heap.size + 1) l U (hU.blk HS.out (fun h => h)) (hU.cell HG.out (fun h => h)) HE HKC (hR.kept (HF.out.trans hU)) hl hlen hc))
  have hmf : ∀ (fn : Fn) (first cap : Array Value) (w : World), (Instr.makeFunc fn first cap).run Try.prog w = .ok (.func fn first cap) w := fun _ _ _ _ => rfl
  unfold tupR at HT ⊢
  generalize rN (firstR s l) = x at *
  generalize rD (firstR s l) = y at *
  generalize rE (firstR s l) = k at *
  go_enter Try.func59, Try.ntmps59
  go_wp2_with (first | (go_at_call 34; (with_reducible refine HT.out.mono ?_); rintro _ w3 ⟨rfl, hf3⟩; have hb3 := hf3.blk HB.out (fun h => h); obtain ⟨c0, c1, f0, f1⟩ := two_facts hb3) | fail)
  exact bodyPost_ret (results_row_tmp (p := 4) (u := 5) rfl _ _ (w.heap.size + 1 + 1) _ _ _ _ rfl (two_set hb3 _ _) Try.underlying23 rfl (by kernel_rfl)) rfl ⟨rfl, two_fr (HF.out.trans hf3) (by omega) _ _⟩
theorem rleast_calls (A : Option Addr) (c : Nat) (l : List (Int × Int)) (w : World) (hR : Rd (fun _ => False) w A (sends l)) (hl : I64l l) (hlen : l.length ≤ 1000000000) (hc : l.length ≤ c) :
    Calls Try.prog 32 #[.slice A l.length c] w fun e w' => e = .returned (tupR (firstR true l)) ∧ Fr0 w w' := by
  have HF := Lib.hid ((Fr.refl (fun _ => False) w).alloc (.cells (rtc 0 0) 23))
  have HB := Lib.hid (heap_alloc_new w (.cells (rtc 0 0) 23))
  have HT := Lib.hid (rfirst_calls true 60 A c l _ (enters_of' Try.func60 (by kernel_rfl) rfl) (fun x b hx hb ix ib U => rleast1_calls x b hx hb ix ib U) (hR.kept HF.out) hl hlen hc)
  unfold tupR at HT ⊢
  generalize rN (firstR true l) = x at *
  generalize rD (firstR true l) = y at *
  generalize rE (firstR true l) = k at *
  go_enter Try.func32, Try.ntmps32
  go_wp2_with (first | (go_at_call 59; (with_reducible refine HT.out.mono ?_); rintro _ w3 ⟨rfl, hf3⟩; have hb3 := hf3.blk HB.out (fun h => h); obtain ⟨c0, c1, f0, f1⟩ := two_facts hb3) | fail)
  exact bodyPost_ret (results_row_tmp (p := 2) (u := 3) rfl _ _ w.heap.size _ _ _ _ rfl (two_set hb3 _ _) Try.underlying23 rfl (by kernel_rfl)) rfl ⟨rfl, two_fr (HF.out.trans hf3) (by omega) _ _⟩
theorem rgreatest_calls (A : Option Addr) (c : Nat) (l : List (Int × Int)) (w : World) (hR : Rd (fun _ => False) w A (sends l)) (hl : I64l l) (hlen : l.length ≤ 1000000000) (hc : l.length ≤ c) :
    Calls Try.prog 33 #[.slice A l.length c] w fun e w' => e = .returned (tupR (firstR false l)) ∧ Fr0 w w' := by
  have HF := Lib.hid ((Fr.refl (fun _ => False) w).alloc (.cells (rtc 0 0) 23))
  have HB := Lib.hid (heap_alloc_new w (.cells (rtc 0 0) 23))
  have HT := Lib.hid (rfirst_calls false 61 A c l _ (enters_of' Try.func61 (by kernel_rfl) rfl) (fun x b hx hb ix ib U => rgreatest1_calls x b hx hb ix ib U) (hR.kept HF.out) hl hlen hc)
  unfold tupR at HT ⊢
  generalize rN (firstR false l) = x at *
  generalize rD (firstR false l) = y at *
  generalize rE (firstR false l) = k at *
  go_enter Try.func33, Try.ntmps33
  go_wp2_with (first | (go_at_call 59; (with_reducible refine HT.out.mono ?_); rintro _ w3 ⟨rfl, hf3⟩; have hb3 := hf3.blk HB.out (fun h => h); obtain ⟨c0, c1, f0, f1⟩ := two_facts hb3) | fail)
  exact bodyPost_ret (results_row_tmp (p := 2) (u := 3) rfl _ _ w.heap.size _ _ _ _ rfl (two_set hb3 _ _) Try.underlying23 rfl (by kernel_rfl)) rfl ⟨rfl, two_fr (HF.out.trans hf3) (by omega) _ _⟩
end Go.Proofs.Ytdakeenjeieekaa
