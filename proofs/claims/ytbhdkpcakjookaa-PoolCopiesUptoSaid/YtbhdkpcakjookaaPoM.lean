/- Chapter 24: the document's Put. -/
import Derived.Test.YtbhdkpcakjookaaPoL
set_option linter.unusedVariables false
set_option linter.unusedSimpArgs false
namespace Go.Proofs.Ytbhdkpcakjookaa
open Go.RowKit
attribute [local go_sem] Oper.semAt_some

/-- Stores of a document's pool, cell by cell. -/
def putP (w : World) (k : Nat) (m l : Int) (A : Option Addr) (n c : Nat) : World := ((w.setCell ⟨k, 0, none⟩ (.int .i64 m)).setCell ⟨k, 1, none⟩ (.int .i64 l)).setCell ⟨k, 2, none⟩ (.slice A n c)
theorem putP_blk {w : World} {k : Nat} {m0 l0 : Int} {A0 : Option Addr} {n0 c0 : Nat} {t : TypeId} (h : w.heap[k]? = some (.cells (poc m0 l0 A0 n0 c0) t (0, 0))) (m l : Int) (A : Option Addr) (n c : Nat) :
    (putP w k m l A n c).heap[k]? = some (.cells (poc m l A n c) t (0, 0)) := by
  have := blk_setCell (blk_setCell (blk_setCell h 0 (.int .i64 m)) 1 (.int .i64 l)) 2 (.slice A n c)
  exact this
theorem putP_fr {S : Nat → Prop} {a w : World} (h : Fr S a w) {k : Nat} (hb : k < a.heap.size → S k) {m l : Int} {A : Option Addr} {n c : Nat} : Fr S a (putP w k m l A n c) :=
  ((h.setCell (p := ⟨k, 0, none⟩) hb _).setCell (p := ⟨k, 1, none⟩) hb _).setCell (p := ⟨k, 2, none⟩) hb _
def RputOk (most last : Int) (ms : List Msg) (w : World) (e : Ending) (w' : World) : Prop :=
  (∃ L' A' c', e = .returned (.tuple #[pov most last A' L'.length c', .int .i64 last, .int .i64 0]) ∧ IsLs w' A' c' L' ∧ msgs L' = ms) ∧ Fr0 w w'
set_option maxHeartbeats 4000000 in
theorem rput_ok (most last : Int) (A0 : Option Addr) (c0 : Nat) (L : List Rm) (link now : Int) (A : Option Addr) (c : Nat) (bs : List UInt8) (w : World) (h : IsLs w A0 c0 L) (ha : 0 ≤ link ∧ link ≤ 47 ∧ 0 ≤ now ∧ now ≤ 2147483647) (hbs : BArg w A bs) (hn : bs.length ≤ 4096) (hc : L.length < most) (hm : most ≤ 4096) (hla : 0 ≤ last ∧ last ≤ 1000000000) :
    Calls Try.prog 33 #[pov most last A0 L.length c0, .int .i64 link, .int .i64 now, .slice A bs.length c] w (RputOk most (last + 1) (msgs L ++ [⟨last + 1, link, now, bs⟩]) w) := by
  have h1 : ¬ link < 0 := by omega
  have h2 : ¬ 47 < link := by omega
  have h3 : ¬ now < 0 := by omega
  have h4 : ¬ 2147483647 < now := by omega
  have h5 : ¬ (4096 : Int) < (bs.length : Int) := by omega
  have h6 : ¬ most ≤ (L.length : Int) := by omega
  have hw1 : IntKind.i64.wrap (last + 1) = last + 1 := by rw [IntKind.wrap_i64]; omega
  have hmL := h.most
  have HL4 := Lib.hid (rms_length L)
  have HB4 := Lib.hid (show (u8s bs).length = bs.length * 1 by rw [u8s_length, Nat.mul_one])
  have HF := Lib.hid (((Fr.refl (fun _ => False) w).alloc (.cells (poc most (last + 1) A0 L.length c0) 45)).alloc (.cells (poc 0 0 none 0 0) 45))
  have HLS := Lib.hid h
  have HBS := Lib.hid hbs
  have hX := rp_blks w most (last + 1) A0 L.length c0
  have HB := Lib.hid hX.1
  have HR := Lib.hid hX.2
  have HSZ := Lib.hid (show ((w.alloc (.cells (poc most (last + 1) A0 L.length c0) 45)).alloc (.cells (poc 0 0 none 0 0) 45)).heap.size = w.heap.size + 2 by simp)
  clear ha h hbs hX
  go_enter Try.func33, Try.ntmps33
  go_upto_region 8 with fail
  generalize (w.alloc (.cells (poc most (last + 1) A0 L.length c0) 45)).alloc (.cells (poc 0 0 none 0 0) 45) = W at *
  have HLW := Lib.hid (HLS.out.kept HF.out)
  have HBW := Lib.hid (HBS.out.kept HF.out)
  have hwd := (Fr.refl (fun _ => False) W).drew
  have HK := Lib.hid (fun U (hf : Fr0 W U) => po_cells2 (hf.blk HB.out (fun h => h)))
  obtain ⟨⟨k0, k1, k2⟩, g0, g1, g2⟩ := HK.out _ hwd
  go_region_law ((first
    | (refine step_app rfl (.const (.slice none 0 0)) (.tmp 42) _ rfl Try.underlying36 rm_elem (base := W.heap.size) (.slice none 0 0) 0 [] rfl (own_nil _ _ _ _) (fun _ => False) A0 L.length c0 (rms L) rfl (HLW.out.rd.kept hwd) HL4.out (rms_one L) (by simp only [maxLen]; omega) (by omega) (by simp) (fun e => by rw [HLW.out.nil e]; rfl) ?_; intro v5 w5 hown5 hg5 hat5; have hfa : Fr0 W w5 := hwd.grown hg5 (fun k _ e => by simp [Value.ownBlock] at e); obtain ⟨⟨k0, k1, k2⟩, g0, g1, g2⟩ := HK.out _ hfa)
    | (refine step_app rfl (.const (.slice none 0 0)) (.tmp 48) _ rfl Try.underlying22 u8_elem (base := w5.heap.size) (.slice none 0 0) 0 [] rfl (own_nil _ _ _ _) (fun _ => False) A bs.length c (u8s bs) rfl (HBW.out.rd.kept hfa) HB4.out (u8s_one bs) (by simp only [maxLen]; omega) (by omega) (Nat.le_refl _) (fun e => by rw [HBW.out.nil e]; rfl) ?_; intro v6 w6 hown6 hg6 hat6; have hfb : Fr0 W w6 := hfa.grown hg6 (fun k _ e => by simp [Value.ownBlock] at e); obtain ⟨⟨k0, k1, k2⟩, g0, g1, g2⟩ := HK.out _ hfb; obtain ⟨A6, c6, rfl, hc61, hc62⟩ := own_form hown6; have hln6 : (0 + bs.length) = bs.length := Nat.zero_add _)
    | (refine step_app rfl (.tmp 43) (.tmp 51) _ rfl Try.underlying36 rm_elem (base := W.heap.size) v5 (0 + L.length) ([] ++ rms L) rfl (own_kept0 hown5 (((Fr.refl _ w5).grown hg6 (fun k _ e => by simp [Value.ownBlock] at e)).alloc _)) (fun _ => False) _ 1 1 (rms [⟨⟨last + 1, link, now, bs⟩, A6, c6⟩]) rfl (rd_rm1 (fun _ => False) _ ⟨⟨last + 1, link, now, bs⟩, A6, c6⟩ _ (fun h => h)) rfl (rms_one _) (by simp only [maxLen]; omega) (by omega) (by have := hfb.size; simp; omega) (by simp) ?_; intro v7 w7 hown7 hg7 hat7; have hb7 := blk_grown ((hfb.alloc _).blk HB.out (fun h => h)) hg7 (fun e => by have h1 := (own_blk hown5 e.symm).1; have h2 := lt_of_block HB.out; omega); obtain ⟨⟨k0, k1, k2⟩, g0, g1, g2⟩ := po_cells2 hb7; obtain ⟨A7, c7, rfl, hc71, hc72⟩ := own_form hown7)))
  all_goals
    have hgr : Fr (fun k => v5.ownBlock = some k) w6 w7 := ((Fr.refl _ w6).alloc _).grown hg7 (fun k _ e => e)
    have hfW : Fr0 W w7 := hfb.then hgr (fun k hk e => by have h1 := (own_blk hown5 e).1; omega)
    have hrd6 : Rd (fun k => v5.ownBlock = some k) w6 A6 (u8s bs) := own_rd _ (by simpa using hown6) (fun k h1 _ e => by
      obtain ⟨_, cs, h2⟩ := own_blk hown5 e
      have := lt_of_block h2
      omega)
    have hr7 : BArg w7 A6 bs := .of_rd ((hrd6.kept hgr).mono (fun _ _ h => h.elim)) HBS.out.len
    rw [List.nil_append, ← rms_append] at hown7
    obtain ⟨hlen7, hls7⟩ := own_isls (L := L ++ [⟨⟨last + 1, link, now, bs⟩, A6, c6⟩]) hown7 (fun r hr => by
      rcases List.mem_append.1 hr with hr | hr
      · exact (HLW.out.ok r hr).kept hfW
      · obtain rfl : r = ⟨⟨last + 1, link, now, bs⟩, A6, c6⟩ := by simpa using hr
        exact hr7) (by simp; omega)
    have hb8 := blk_setCell hb7 2 (.slice A7 (L.length + 1) c7)
    have hz8 := blk_setCell_other (hfW.blk HR.out (fun h => h)) (p := ⟨w.heap.size, 2, none⟩) (by show w.heap.size ≠ w.heap.size + 1; omega) (.slice A7 (L.length + 1) c7)
    have HLS8 := Lib.hid (hls7.keptB hb7 ((Fr.refl (fun k => k = w.heap.size) w7).setCell (p := ⟨w.heap.size, 2, none⟩) (fun _ => rfl) (.slice A7 (L.length + 1) c7)))
    have HF8 := Lib.hid ((HF.out.trans hfW).setCell (p := ⟨w.heap.size, 2, none⟩) (fun h => absurd h (Nat.lt_irrefl _)) (.slice A7 (L.length + 1) c7))
    have HLN := Lib.hid hlen7
    clear hgr hfW hrd6 hr7 hls7 hlen7 hown7 hg7 hat7 hown6 hg6 hat6 hown5 hg5 hat5 hfa hfb hb7 k0 k1 k2 g0 g1 g2 hwd hln6
    generalize w7.setCell ⟨w.heap.size, 2, none⟩ (.slice A7 (L.length + 1) c7) = W8 at *
    obtain ⟨⟨k0, k1, k2⟩, _⟩ := po_cells2 ((Fr.refl (fun _ => False) W8).drew.blk hb8 (fun h => h))
    obtain ⟨⟨y0, y1, y2⟩, f0, f1, f2⟩ := po_cells2 ((Fr.refl (fun _ => False) W8).drew.blk hz8 (fun h => h))
    obtain ⟨⟨v0, v1, v2⟩, e0, e1, e2⟩ := po_cells2 hz8
    obtain ⟨⟨q0, q1, q2⟩, _⟩ := po_cells2 hb8
    have HZ8 := Lib.hid hz8
    clear hb8 hz8
    go_wp2_with fail
    go_region
    all_goals
      go_wp2_with fail
      have hfE : Fr0 w (putP W8 (w.heap.size + 1) most (last + 1) A7 (L.length + 1) c7) := putP_fr HF8.out (fun h => by omega)
      have hfD : Fr0 w (putP W8.drew (w.heap.size + 1) most (last + 1) A7 (L.length + 1) c7) := putP_fr HF8.out.drew (fun h => by omega)
      have hls := HLS8.out.keptB HZ8.out (putP_fr (Fr.refl (fun k => k = w.heap.size + 1) W8) (k := w.heap.size + 1) (fun _ => rfl) (m := most) (l := last + 1) (A := A7) (n := L.length + 1) (c := c7))
      have hlD := HLS8.out.keptB HZ8.out (putP_fr ((Fr.refl (fun k => k = w.heap.size + 1) W8).drew) (k := w.heap.size + 1) (fun _ => rfl) (m := most) (l := last + 1) (A := A7) (n := L.length + 1) (c := c7))
      refine bodyPost_ret (results_row_tmp2 rfl _ _ (w.heap.size + 1) _ _ _ _ rfl (putP_blk (by exact HZ8.out) most (last + 1) A7 (L.length + 1) c7) Try.underlying45 rfl (by kernel_rfl)) rfl ⟨⟨L ++ [⟨⟨last + 1, link, now, bs⟩, A6, c6⟩], A7, c7, by simp, by first | exact hls | exact hlD, by simp [msgs]⟩, by first | exact hfE | exact hfD⟩
end Go.Proofs.Ytbhdkpcakjookaa
