/- Chapter 24: few, same. -/
import Derived.Test.YtbhdkpcakjookaaPoX
set_option linter.unusedVariables false
set_option linter.unusedSimpArgs false
namespace Go.Proofs.Ytbhdkpcakjookaa
open Go.RowKit
attribute [local go_sem] Oper.semAt_some

def ras (l : List Ra) : List Value := l.flatMap rac
theorem ras_cons (r : Ra) (l : List Ra) : ras (r :: l) = rac r ++ ras l := rfl
theorem ras_append (a b : List Ra) : ras (a ++ b) = ras a ++ ras b := by simp [ras]
theorem ras_length (l : List Ra) : (ras l).length = l.length * 5 := by
  induction l with
  | nil => rfl
  | cons r l ih => rw [ras_cons, List.length_append, ih]; simp only [List.length_cons, List.length_nil]; omega
theorem ras_at : ∀ (l : List Ra) (i : Nat) (h : i < l.length), (ras l)[i * 5]? = some (.int .i64 l[i].a.kind) ∧ (ras l)[i * 5 + 1]? = some (.int .i64 l[i].a.pick) ∧ (ras l)[i * 5 + 2]? = some (.int .i64 l[i].a.bit) ∧ (ras l)[i * 5 + 3]? = some (.int .i64 l[i].a.now) ∧ (ras l)[i * 5 + 4]? = some (.slice l[i].A l[i].a.bytes.length l[i].c)
  | p :: l, 0, _ => ⟨rfl, rfl, rfl, rfl, rfl⟩
  | p :: l, i + 1, h => by
    have := ras_at l i (by simpa using h)
    rw [ras_cons, show (i + 1) * 5 = i * 5 + 1 + 1 + 1 + 1 + 1 by omega]
    simpa using this
theorem ras_one (l : List Ra) : ∀ u ∈ ras l, u.oneCell' = true := by
  intro u hu
  simp only [ras, List.mem_flatMap] at hu
  obtain ⟨r, _, hu⟩ := hu
  simp only [rac, List.mem_cons, List.not_mem_nil, or_false] at hu
  rcases hu with rfl | rfl | rfl | rfl | rfl <;> rfl
theorem rd_ra {S : Nat → Prop} {w : World} {b off : Nat} {l : List Ra} (h : Rd S w (some ⟨b, off, none⟩) (ras l)) (k : Nat) (hk : k < l.length) :
    w.cell? ⟨b, off + k * 5, none⟩ = some (.int .i64 l[k].a.kind) ∧ w.cell? ⟨b, off + k * 5 + 1, none⟩ = some (.int .i64 l[k].a.pick) ∧ w.cell? ⟨b, off + k * 5 + 2, none⟩ = some (.int .i64 l[k].a.bit) ∧ w.cell? ⟨b, off + k * 5 + 3, none⟩ = some (.int .i64 l[k].a.now) ∧ w.cell? ⟨b, off + k * 5 + 4, none⟩ = some (.slice l[k].A l[k].a.bytes.length l[k].c) := by
  obtain ⟨e0, e1, e2, e3, e4⟩ := ras_at l k hk
  have key : ∀ j v, (ras l)[j]? = some v → w.cell? ⟨b, off + j, none⟩ = some v := fun j v hj => by
    obtain ⟨hj1, rfl⟩ := List.getElem?_eq_some_iff.1 hj
    exact h.at_ j hj1
  exact ⟨key _ _ e0, key _ _ e1, key _ _ e2, key _ _ e3, key _ _ e4⟩
/-- Few calls, of few bytes. -/
def fewB (l : List Ra) (most : Nat) : Bool := decide (l.length ≤ most) && l.all (fun r => decide (r.a.bytes.length ≤ 5000))
theorem few_calls (A : Option Addr) (c : Nat) (l : List Ra) (most : Nat) (w : World) (h : Rd (fun _ => False) w A (ras l)) (hm : most ≤ 1000000) (hl : l.length ≤ 140737488351232) :
    Calls Try.prog 18 #[.slice A l.length c, .int .i64 most] w fun e w' => e = .returned (.bool (fewB l most)) ∧ Fr0 w w' := by
  by_cases hlen : l.length ≤ most
  · have hg : ¬ (most : Int) < (l.length : Int) := by omega
    have HFB := Lib.hid (show fewB l most = l.all (fun r => decide (r.a.bytes.length ≤ 5000)) by simp [fewB, hlen])
    go_enter Try.func18, Try.ntmps18
    go_wp2_with fail
    go_loopw [5] (fun i wr => ∃ n : Nat, i = .int .i64 (n : Int) ∧ n ≤ l.length ∧ Hid ((l.take n).all (fun r => decide (r.a.bytes.length ≤ 5000)) = true) ∧ Hid (Fr0 w wr)) (fun i _ => l.length - (intOf i).toNat)
    case atStart => exact ⟨0, rfl, Nat.zero_le _, by simp [Hid], Fr.refl _ _⟩
    case round =>
      obtain ⟨n, rfl, hn, HA, HF⟩ := hrel
      by_cases hlt : n < l.length
      · obtain ⟨b, off, rfl⟩ := h.some_ (by rw [ras_length]; omega)
        obtain ⟨d0, d1, d2, d3, d4⟩ := rd_ra (h.kept HF.out) n hlt
        have hi1 : (0 : Int) ≤ (n : Int) := by omega
        have hi2 : (n : Int) < (l.length : Int) := by omega
        have HTK := Lib.hid (show l.take (n + 1) = l.take n ++ [l[n]] from List.take_succ_eq_append_getElem hlt)
        have HME := Lib.hid (List.getElem_mem hlt)
        generalize l[n] = r at *
        by_cases hb : r.a.bytes.length ≤ 5000
        · have hb1 : ¬ (5000 : Int) < (r.a.bytes.length : Int) := by omega
          go_wp2_with fail
          go_roundw
          case rel => exact ⟨n + 1, by go_num, by omega, by rw [HTK.out, List.all_append, HA.out]; simp [Hid, hb], HF.out⟩
          case measure => simp [intOf]; omega
        · have hb1 : (5000 : Int) < (r.a.bytes.length : Int) := by omega
          have HNO := Lib.hid (show l.all (fun r => decide (r.a.bytes.length ≤ 5000)) = false from by
            rw [Bool.eq_false_iff]
            intro e
            exact hb (by simpa using List.all_eq_true.1 e r HME.out))
          go_wp2_with fail
          go_ret
          exact ⟨by rw [HFB.out, HNO.out]; rfl, HF.out⟩
      · obtain rfl : n = l.length := by omega
        go_wp2_with fail
        go_ret
        exact ⟨by rw [HFB.out]; have h1 := HA.out; rw [List.take_length] at h1; rw [h1]; rfl, HF.out⟩
  · have hg : (most : Int) < (l.length : Int) := by omega
    have HFB := Lib.hid (show fewB l most = false by simp [fewB, hlen])
    go_enter Try.func18, Try.ntmps18
    go_wp2_with fail
    go_ret
    exact ⟨by rw [HFB.out]; rfl, Fr.refl _ _⟩
set_option maxHeartbeats 2000000 in
theorem same_calls (w0 : World) (b : Nat) (v : Value) (K : Nat) (most last : Int) (ms : List Msg) (w : World) (h : Du w0 w b v K most last ms) :
    Calls Try.prog 20 #[.pointer (some ⟨b, 0, none⟩), v] w fun e w' => e = .returned (.bool true) ∧ Fr0 w w' := by
  obtain ⟨A, c, L, rfl, hls, hms⟩ := h.rp
  have hf := (Fr.refl (fun _ => False) w).alloc (.cells (poc most last A L.length c) 45)
  have HF := Lib.hid hf
  have HP := Lib.hid (h.pw.kept hf)
  have HLS := Lib.hid (hls.kept hf)
  have HX := Lib.hid (heap_alloc_new w (.cells (poc most last A L.length c) 45))
  have HLN := Lib.hid (show ms.length = L.length by rw [← hms]; simp)
  have HMS := Lib.hid hms
  have hml := h.lim.len
  obtain ⟨⟨k0, k1, k2⟩, _⟩ := po_cells2 HX.out
  clear h hf hls hms
  go_enter Try.func20, Try.ntmps20
  go_upto_region 1 with fail
  generalize w.alloc (.cells #[.int .i64 most, .int .i64 last, .slice A L.length c] 45) = W at *
  have HK := Lib.hid (fun U (h : Fr0 W U) => h.cell k2 (fun h => h))
  have HPL := Lib.hid (show Calls Try.prog 17 #[.pointer (some ⟨b, 0, none⟩)] W.drew fun e w' => e = .returned (.int .i64 (L.length : Int)) ∧ W.drew = w' from by
    have := pw_len (HP.out.kept (Fr.refl _ W).drew)
    rw [HLN.out] at this
    exact this)
  have HSM := Lib.hid (fun U A5 c5 M5 (h5 : IsLs U A5 c5 M5) (hm : msgs M5 = ms) (hf : Fr0 W U) => show Calls Try.prog 22 #[.slice A5 ms.length c5, .slice A L.length c] U fun e w' => e = .returned (.bool true) ∧ Fr0 U w' from by
    have := rsame_calls A5 A c5 c M5 L U h5 (HLS.out.kept hf)
    rw [show M5.length = ms.length by rw [← hm]; simp, show decide (msgs M5 = msgs L) = true by rw [hm, HMS.out]; simp] at this
    exact this)
  go_region_held3 (fun U => U.cell? ⟨w.heap.size, 2, none⟩ = some (.slice A L.length c))
    (exact HK.out _ (by first | exact hfn | exact (Fr.refl _ W).drew))
    ((first
      | (go_at_call 17; (with_reducible refine HPL.out.mono ?_); rintro e w3 ⟨rfl, rfl⟩; have hfn : Fr0 W W.drew := (Fr.refl _ W).drew)
      | (go_at_call 15; (with_reducible refine (pw_list (HP.out.kept (Fr.refl _ W).drew)).mono ?_); rintro e w5 hpost; obtain ⟨A5, c5, M5, rfl, hls5, hm5, _, hf5⟩ := hpost.isls (by omega); have hfn : Fr0 W w5 := (Fr.refl _ W).drew.trans hf5)
      | (go_at_call 22; (with_reducible refine (HSM.out _ _ _ _ hls5 hm5 hfn).mono ?_); rintro e w6 ⟨rfl, hf6⟩; replace hfn : Fr0 W w6 := hfn.trans hf6)))
  go_wp2_with fail
  go_ret
  exact ⟨rfl, HF.out.trans hfn⟩
end Go.Proofs.Ytbhdkpcakjookaa
