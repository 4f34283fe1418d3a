/- Chapter 13: sum, Bytes, Clone, All. -/
import Derived.Test.YtmnadploikcljaaShA
import Derived.Test.YtmnadploikcljaaBkI
set_option linter.unusedVariables false
set_option linter.unusedSimpArgs false
namespace Go.Proofs.Ytmnadploikcljaa
open Go.RowKit
attribute [local go_sem] Oper.semAt_some

theorem wsize_calls (a b : Int) (w : World) : Calls Try.prog 34 #[.agg #[.int .i64 a, .int .i64 b]] w fun e w' => e = .returned (.int .i64 b) ∧ Fr0 w w' := by
  go_enter Try.func34, Try.ntmps34
  go_wp2_with fail
  go_ret
  exact ⟨rfl, (Fr.refl _ w).alloc _⟩
abbrev wsizeFn : Value := .func (.func 34) #[] #[]
theorem ssum_calls (A : Option Addr) (c : Nat) (l : List (Int × Int)) (w : World) (hR : Rd (fun _ => False) w A (sends l)) (hp : Pos l) (hl : l.length ≤ 1000000000) :
    Calls Try.prog 33 #[.slice A l.length c, wsizeFn] w fun e w' => e = .returned (.int .i64 (bytesW l)) ∧ Fr0 w w' := by
  have HR := Lib.hid hR
  have HP := Lib.hid hp
  clear hR hp
  go_enter Try.func33, Try.ntmps33
  go_wp2_with fail
  go_loopw [5, 10] (fun j i wr => ∃ (k : Nat), k ≤ l.length ∧ i = .int .i64 (k : Int) ∧ j = .int .i64 (bytesW (l.take k)) ∧ Hid (Fr0 w wr)) (fun _ i _ => l.length - (intOf i).toNat)
  case atStart => exact ⟨0, by omega, rfl, rfl, Fr.refl _ _⟩
  case round =>
    obtain ⟨k, hk, rfl, rfl, HF⟩ := hrel
    by_cases hlt : k < l.length
    · have hr := HR.out.kept HF.out
      obtain ⟨b, off, rfl⟩ := hr.some_ (by rw [sends_length]; omega)
      obtain ⟨d0, d1⟩ := rdl_cells hr k hlt
      have hi1 : (0 : Int) ≤ (k : Int) := by omega
      have hi2 : (k : Int) < (l.length : Int) := by omega
      have hb := (HP.out.pre (List.take_prefix k l)).range
      have hb2 := (HP.out.pre (List.take_prefix (k + 1) l)).range
      rw [take_snoc l k hlt, bytesW_app, bytesW_one] at hb2
      have HS := Lib.hid (show bytesW (l.take (k + 1)) = bytesW (l.take k) + sz_ l k by rw [take_snoc l k hlt, bytesW_app, bytesW_one])
      have HW := Lib.hid (show IntKind.i64.wrap (bytesW (l.take k) + sz_ l k) = bytesW (l.take k) + sz_ l k by
        rw [IntKind.wrap_i64]; simp only [List.length_append, List.length_take, List.length_cons, List.length_nil] at hb hb2; omega)
      clear hr hb hb2
      generalize bytesW (l.take k) = n at *
      have hw := HW.out
      have hf1 := HF.out.alloc (.cells #[.int .i64 (at_ l k), .int .i64 (sz_ l k)] 33)
      have HF1 := Lib.hid hf1
      clear hf1
      go_wp2_with (go_at_call 34; refine (wsize_calls _ _ _).mono ?_; rintro e w5 ⟨rfl, hf5⟩)
      go_roundw
      case rel => exact ⟨k + 1, by omega, by go_num, by rw [HS.out], HF1.out.trans hf5⟩
      case measure => simp [intOf]; omega
    · have hkm : k = l.length := by omega
      subst hkm
      rw [List.take_length]
      go_wp2_with fail
      go_ret
      exact ⟨rfl, HF.out⟩
theorem sbytes_calls (b m : Nat) (X : Sh) (w : World) (h : IsSh w b m X) : Calls Try.prog 15 #[.pointer (some ⟨b, 0, none⟩)] w fun e w' => e = .returned (.int .i64 (bytesW X.L)) ∧ Fr0 w w' := by
  have HN := Lib.hid (snone_calls b m X w h)
  obtain ⟨A, c, h⟩ := h
  have c2 := h.cells.c2
  have HS := Lib.hid (ssum_calls A c X.L w (h.ls.rd.mono (fun _ _ h => h.elim)) h.ok.pos h.ok.len)
  clear h
  go_enter Try.func15, Try.ntmps15
  go_wp2_with (first
    | (go_at_call 27; refine HN.out.mono ?_; rintro e w5 ⟨rfl, rfl⟩)
    | (go_at_call 33; refine HS.out.mono ?_; rintro e w5 ⟨rfl, hf5⟩))
  go_ret
  exact ⟨rfl, hf5⟩
theorem sbytes_no (v : Value) (w : World) (h : NoSh w v) : Calls Try.prog 15 #[v] w fun e w' => e = .returned (.int .i64 0) ∧ w = w' := by
  have HN := Lib.hid (snone_no v w h)
  clear h
  go_enter Try.func15, Try.ntmps15
  go_wp2_with (go_at_call 27; refine HN.out.mono ?_; rintro e w5 ⟨rfl, rfl⟩)
  go_ret
  exact ⟨rfl, rfl⟩
theorem wt_elem : Elem Try.prog 33 2 16 := Elem.of (.agg #[.int .i64 0, .int .i64 0]) (by kernel_rfl) rfl (by decide)
theorem sends_one' (l : List (Int × Int)) : ∀ u ∈ sends l, u.oneCell' = true := by
  intro u hu
  simp only [sends, List.mem_flatMap] at hu
  obtain ⟨p, _, hu⟩ := hu
  simp only [List.mem_cons, List.not_mem_nil, or_false] at hu
  rcases hu with rfl | rfl <;> rfl
/-- A list of waiting packets that the call owns. -/
abbrev wtRow (w : World) (base : Nat) (v : Value) (l : List (Int × Int)) : Prop := w.ownsRow base 33 2 v l.length (sends l)
theorem sends_len2 (l : List (Int × Int)) : (sends l).length = l.length * 2 := by rw [sends_length]; omega
theorem sclone_calls (A : Option Addr) (c : Nat) (l : List (Int × Int)) (w : World) (h : IsW (fun _ => False) w A c l) (hl : l.length ≤ 1000000000) :
    Calls Try.prog 29 #[.slice A l.length c] w fun e w' => (∃ A' c', e = .returned (.slice A' l.length c') ∧ wtRow w' w.heap.size (.slice A' l.length c') l ∧ (A' = none → l = [])) ∧ Fr0 w w' := by
  have HLS := Lib.hid h
  have HL := Lib.hid (sends_len2 l)
  cases A with
  | none =>
    obtain rfl := h.nil rfl
    have hq := fun w : World => Lib.run_eql_slice_nil (P := Try.prog) w 30 33 none 0 c 0 0 Try.underlying30
    clear h
    go_enter Try.func29, Try.ntmps29
    go_wp2
    go_ret
    exact ⟨⟨none, 0, rfl, own_nil _ _ _ _, by simp⟩, Fr.refl _ _⟩
  | some a =>
    have hq := fun w : World => Lib.run_eql_slice_nil (P := Try.prog) w 30 33 (some a) l.length c 0 0 Try.underlying30
    clear h
    go_enter Try.func29, Try.ntmps29
    go_wp2_with (at_builtin; refine wpList_app rfl (.tmp 5) (.tmp 6) _ rfl Try.underlying30 wt_elem (base := w.heap.size) (.slice (some ⟨w.heap.size, 0, none⟩) 0 0) 0 [] rfl (World.ownsRow_made w _ 0 (Nat.le_refl _) (by simp [maxLen]) rfl) (fun _ => False) (some a) l.length c (sends l) rfl (HLS.out.rd.kept ((Fr.refl _ w).alloc _)) HL.out (sends_one' l) (by simp only [maxLen]; omega) (by omega) (by simp) (by simp) ?_; intro v' w' hown hg hat)
    go_ret
    have hf : Fr0 w w' := ((Fr.refl _ w).alloc _).grown hg (fun k hk e => by simp [Value.ownBlock] at e; omega)
    obtain ⟨A', c', rfl, hc1, hc2⟩ := own_form hown
    simp only [Nat.zero_add, List.nil_append] at hown hc1
    have hA : A' = none → l = [] := by
      rintro rfl
      rcases hat with e | e <;> simp [Value.ownBlock] at e
    exact ⟨⟨A', c', by simp, hown, hA⟩, hf⟩
end Go.Proofs.Ytmnadploikcljaa
