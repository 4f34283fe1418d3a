/- Chapter 01: Make. -/
import Derived.Test.YtdakeenjeieekaaRaJ
import Derived.Test.YtdakeenjeieekaaRaK
set_option linter.unusedVariables false
set_option linter.unusedSimpArgs false
namespace Go.Proofs.Ytdakeenjeieekaa
open Go.RowKit
attribute [local go_sem] Oper.semAt_some

/-- How a function ends that hands back a fraction or gives up. -/
def endR : Ra → Ending
  | .ok p => .returned (rtv p.1 p.2)
  | .error k => .panicked [stopE k]
/-- What is answered: a fraction, an error. -/
def rN : Ra → Int
  | .ok p => p.1
  | .error _ => 0
def rD : Ra → Int
  | .ok p => p.2
  | .error _ => 0
def rE : Ra → Int
  | .ok _ => 0
  | .error k => k
abbrev tupR (r : Ra) : Value := .tuple #[rtv (rN r) (rD r), .int .i64 (rE r)]
theorem toldE_eq (n : Nat) (below : Bool) (d : Nat) : toldE n below d = endR (toldR n below d) := by
  unfold toldE toldR
  split <;> rfl
theorem madeE_eq (n : Nat) (below : Bool) (d : Nat) : madeE n below d = endR (fracR n below d) := toldE_eq _ _ _
theorem enters_of' {K : FuncId} {fn : Func} (h : Try.prog.funcs[K]? = some fn) (h1 : (fn.name == "runtime.NumGoroutine") = false) (h2 : fn.body.isNone = false) (args : Array Value) (U : World) : (callFunc K args).run Try.prog U = .ok (.enter K args) U := by
  have h3 : fn.name ≠ "runtime.NumGoroutine" := by simpa using h1
  have h4 : ¬ fn.body = none := fun hh => by rw [hh] at h2; cases h2
  simp [callFunc, h, h3, h4, Sem.run]
theorem rtry_calls (K : FuncId) (cap : Array Value) (r : Ra) (w : World) (HE : ∀ (args : Array Value) (U : World), (callFunc K args).run Try.prog U = .ok (.enter K args) U) (HW : ∀ U, Fr0 w U → Calls Try.prog K cap U fun e w' => e = endR r ∧ Fr0 U w') :
    Calls Try.prog 34 #[clv K cap] w fun e w' => e = .returned (tupR r) ∧ Fr0 w w' := by
  cases r with
  | ok p => exact rtry_yes K cap p.1 p.2 w HE HW
  | error k => exact rtry_no K cap k w HE HW
theorem u64_abs {d : Int} (h0 : 0 ≤ d) (h : d ≤ 9223372036854775807) : IntKind.u64.wrap d = ((d.natAbs : Nat) : Int) := by rw [IntKind.wrap_u64]; omega
/-- The fraction of any two numbers. -/
def makeR (n d : Int) : Ra := if d = 0 then .error 2 else rR (mkRat (if d < 0 then -n else n) d.natAbs)
theorem makeR_eq (n d : Int) (hd : d ≠ 0) : makeR n d = fracR n.natAbs ((decide (n < 0) != decide (d < 0)) && decide (n ≠ 0)) d.natAbs := by
  unfold makeR
  rw [if_neg hd, fracR_eq _ _ _ (by omega)]
  congr 2
  unfold sgn
  by_cases h1 : n < 0 <;> by_cases h2 : d < 0 <;> by_cases h3 : n = 0 <;> simp [h1, h2, h3] <;> omega
set_option maxRecDepth 20000 in
theorem rmake1_calls (n d : Int) (hn : I64r n) (hd : I64r d) (pn pd : Nat) (w : World) (h1 : w.cell? ⟨pn, 0, none⟩ = some (.int .i64 n)) (h2 : w.cell? ⟨pd, 0, none⟩ = some (.int .i64 d)) :
    Calls Try.prog 35 #[.pointer (some ⟨pd, 0, none⟩), .pointer (some ⟨pn, 0, none⟩)] w fun e w' => e = endR (makeR n d) ∧ Fr0 w w' := by
  have hmx : Try.prog.follows .mixedOrders = true := by kernel_rfl
  have HF := Lib.hid ((Fr.refl (fun _ => False) w).alloc (.cells (rtc 0 0) 23))
  have HB := Lib.hid (heap_alloc_new w (.cells (rtc 0 0) 23))
  have c1 := HF.out.cell h1 (fun h => h)
  have c2 := HF.out.cell h2 (fun h => h)
  by_cases h0 : d = 0
  · rw [show makeR n d = .error 2 from if_pos h0]
    subst h0
    have HM := Lib.hid (fun U => rmust_no 2 U)
    go_enter Try.func35, Try.ntmps35
    go_wp2_with (first | (go_at_call 36; (with_reducible refine (HM.out _).mono ?_); rintro _ _ ⟨rfl, rfl⟩) | fail)
    exact ⟨rfl, rfl, HF.out⟩
  · have HM := Lib.hid (fun U => rmust_yes 2 U)
    rw [makeR_eq n d h0, ← madeE_eq]
    have d1 : decide (d = 0) = false := decide_eq_false h0
    have d1b : (d == 0) = false := by simpa using h0
    have d1c : (d != 0) = true := by simpa using h0
    have HA := Lib.hid (fun U => rsize_calls n hn U)
    have HD := Lib.hid (fun U => rsize_calls d hd U)
    have HMD := Lib.hid (fun U => rmade_calls n.natAbs ((decide (n < 0) != decide (d < 0)) && decide (n ≠ 0)) d.natAbs (by have := hn.1; have := hn.2; omega) (by have := hd.1; have := hd.2; omega) (by omega) U)
    obtain ⟨bn, dn⟩ : ∃ b, decide (n < 0) = b := ⟨_, rfl⟩
    obtain ⟨bd, dd⟩ : ∃ b, decide (d < 0) = b := ⟨_, rfl⟩
    obtain ⟨b0, dz⟩ : ∃ b, decide (n = 0) = b := ⟨_, rfl⟩
    have dz2 : decide (n ≠ 0) = !b0 := by rw [← dz]; simp
    have dz3 : (n == 0) = b0 := by rw [← dz]; rfl
    have dz4 : (n != 0) = !b0 := by rw [bne, dz3]
    rw [dn, dd, dz2] at HMD ⊢
    rw [madeE_eq] at HMD ⊢
    generalize fracR n.natAbs ((bn != bd) && !b0) d.natAbs = r at *
    obtain ⟨er, her⟩ : ∃ er, er = endR r := ⟨_, rfl⟩
    have her2 : (∃ p1 p2, er = .returned (rtv p1 p2)) ∨ ∃ k, er = .panicked [stopE k] := by
      cases r with
      | ok p => exact .inl ⟨p.1, p.2, her⟩
      | error k => exact .inr ⟨k, her⟩
    rw [← her] at HMD ⊢
    clear her
    go_enter Try.func35, Try.ntmps35
    go_wp2_with (first | (go_at_call 36; (with_reducible refine (HM.out _).mono ?_); rintro _ _ ⟨rfl, rfl⟩) | fail)
    generalize w.alloc (.cells (rtc 0 0) 23) = W at *
    have r1 := cg_cell (W := W) c1
    have r2 := cg_cell (W := W) c2
    rcases her2 with ⟨p1, p2, rfl⟩ | ⟨k, rfl⟩ <;> cases b0 <;> cases bn <;> cases bd <;>
     (refine wp_region_class (fun U => ∃ x : Wx W, U = x.u) 13 hmx (by kernel_rfl) ⟨⟨W.drew, (Fr.refl _ W).drew⟩, rfl⟩ ?_
      simp only [List.take_succ_cons, List.take_zero, List.drop_succ_cons, List.drop_zero]
      repeat (first
        | go_big_quiet_step (fail)
        | go_big_quiet_step ((go_at_call 38; exact quiet_cg ((rsize_calls _ (by assumption) _).mono fun e w' h => ⟨h.1, h.2 ▸ Fr.refl _ _⟩))))
      refine wpQuiet_nil ?_
      rintro U ⟨y, rfl⟩
      go_wp2_with (first | (go_at_call 37; refine (HMD.out _).mono ?_; rintro _ w3 ⟨rfl, hf3⟩; have hb3 := (y.fr.trans hf3).blk HB.out (fun h => h); obtain ⟨c0, c1, f0, f1⟩ := two_facts hb3) | fail)
      first
        | exact ⟨rfl, rfl, (HF.out.trans y.fr).trans hf3⟩
        | exact bodyPost_ret (results_cell_row rfl _ _ w.heap.size _ _ _ _ rfl (two_set hb3 _ _) Try.underlying23 rfl (by kernel_rfl)) rfl ⟨rfl, two_fr ((HF.out.trans y.fr).trans hf3) (by simp) _ _⟩)
theorem results_row_tmp {P : Program} {fn : Func} {p u : Tmp} {ty : TypeId} (h : fn.results = #[.cell p ty, .tmp u]) (tmps : Array Value) (w : World) (g : Nat) (t : TypeId) (cs : Array Value) (fr : Nat × Nat) (d : TypeDesc)
    (hp : tmps.getD p undef = .pointer (some ⟨g, 0, none⟩)) (hg : w.heap[g]? = some (.cells cs t fr))
    (hu : P.underlying ty = some d) (hd : (match d with | .struct _ | .array _ _ => true | _ => false) = true) (hi : (P.info? ty).map (·.size) = some cs.size) :
    (results fn tmps).run P w = .ok (.tuple #[.agg cs, tmps.getD u undef]) w := by
  rw [results_cell_tmp h, hp]
  simp [asAddr, Result.andThen, run_loadVar_row w g t ty cs fr d hg hu hd hi]
theorem box_cell {w : World} {k : Nat} {u : Value} {t : TypeId} (h : w.heap.size = k) : (w.alloc (.cells #[u] t)).cell? ⟨k, 0, none⟩ = some u := cell_of_blk (heap_an (.cells #[u] t) h) 0
theorem rMake_calls (n d : Int) (hn : I64r n) (hd : I64r d) (w : World) : Calls Try.prog 11 #[.int .i64 n, .int .i64 d] w fun e w' => e = .returned (tupR (makeR n d)) ∧ Fr0 w w' := by
  have hmf : ∀ (fn : Fn) (first cap : Array Value) (w : World), (Instr.makeFunc fn first cap).run Try.prog w = .ok (.func fn first cap) w := fun _ _ _ _ => rfl
  have HF := Lib.hid ((((Fr.refl (fun _ => False) w).alloc (.cells #[.int .i64 n] 2)).alloc (.cells #[.int .i64 d] 2)).alloc (.cells (rtc 0 0) 23))
  have HB := Lib.hid (heap_an (w := (w.alloc (.cells #[.int .i64 n] 2)).alloc (.cells #[.int .i64 d] 2)) (k := w.heap.size + 1 + 1) (.cells (rtc 0 0) 23) (by simp))
  have c1 : (((w.alloc (.cells #[.int .i64 n] 2)).alloc (.cells #[.int .i64 d] 2)).alloc (.cells (rtc 0 0) 23)).cell? ⟨w.heap.size, 0, none⟩ = some (.int .i64 n) :=
    cell_of_blk (blk_alloc (blk_alloc (heap_alloc_new w (.cells #[.int .i64 n] 2)) _) _) 0
  have c2 : (((w.alloc (.cells #[.int .i64 n] 2)).alloc (.cells #[.int .i64 d] 2)).alloc (.cells (rtc 0 0) 23)).cell? ⟨w.heap.size + 1, 0, none⟩ = some (.int .i64 d) :=
    cell_of_blk (blk_alloc (heap_an (w := w.alloc (.cells #[.int .i64 n] 2)) (k := w.heap.size + 1) (.cells #[.int .i64 d] 2) (by simp)) _) 0
  have HT := Lib.hid (rtry_calls 35 #[.pointer (some ⟨w.heap.size + 1, 0, none⟩), .pointer (some ⟨w.heap.size, 0, none⟩)] (makeR n d)
    (((w.alloc (.cells #[.int .i64 n] 2)).alloc (.cells #[.int .i64 d] 2)).alloc (.cells (rtc 0 0) 23))
    (enters_of' Try.func35 (by kernel_rfl) rfl)
    (fun U hU => rmake1_calls n d hn hd w.heap.size (w.heap.size + 1) U (hU.cell c1 (fun h => h)) (hU.cell c2 (fun h => h))))
  clear c1 c2
  unfold tupR at HT ⊢
  generalize rN (makeR n d) = a at *
  generalize rD (makeR n d) = b at *
  generalize rE (makeR n d) = k at *
  go_enter Try.func11, Try.ntmps11
  go_wp2_with (first | (go_at_call 34; refine HT.out.mono ?_; rintro _ w3 ⟨rfl, hf3⟩; have hb3 := hf3.blk HB.out (fun h => h); obtain ⟨c0, c1, f0, f1⟩ := two_facts hb3) | fail)
  exact bodyPost_ret (results_row_tmp (p := 4) (u := 5) rfl _ _ (w.heap.size + 1 + 1) _ _ _ _ rfl (two_set hb3 _ _) Try.underlying23 rfl (by kernel_rfl)) rfl ⟨rfl, two_fr (HF.out.trans hf3) (by omega) _ _⟩
end Go.Proofs.Ytdakeenjeieekaa
