/- Chapter 24: Put. -/
import Derived.Test.YtbhdkpcakjookaaPoE
set_option linter.unusedVariables false
set_option linter.unusedSimpArgs false
namespace Go.Proofs.Ytbhdkpcakjookaa
open Go.RowKit
attribute [local go_sem] Oper.semAt_some

theorem put_no (v : Value) (link now : Int) (A : Option Addr) (n c : Nat) (w : World) (h : NoPo w v) :
    Calls Try.prog 11 #[v, .int .i64 link, .int .i64 now, .slice A n c] w fun e w' => e = .returned (.tuple #[.int .i64 0, .int .i64 1]) ∧ Fr0 w w' := by
  have HN := Lib.hid (pnone_no v w h)
  clear h
  go_enter Try.func11, Try.ntmps11
  go_wp2_with fail
  refine wp_scope_fwd 0 rfl ?_
  go_wp2_with (first
    | (go_at_call 27; refine HN.out.mono ?_; rintro e w' ⟨rfl, rfl⟩))
  apply wp_goto
  refine And.intro rfl ?_
  show Code.wp _ _ _ _ _
  go_wp2
  rw [Exit.noGoto_ret]
  go_ret2
  exact ⟨rfl, Fr.refl _ _⟩
theorem put_arg (b : Nat) (most last : Int) (L : List Rm) (link now : Int) (A : Option Addr) (n c : Nat) (w : World) (h : IsPool w b most last L) (ha : ¬ (0 ≤ link ∧ link ≤ 47 ∧ 0 ≤ now ∧ now ≤ 2147483647)) :
    Calls Try.prog 11 #[.pointer (some ⟨b, 0, none⟩), .int .i64 link, .int .i64 now, .slice A n c] w fun e w' => e = .returned (.tuple #[.int .i64 0, .int .i64 2]) ∧ Fr0 w w' := by
  have HN := Lib.hid (pnone_calls b most last L w h)
  clear h
  have hc : link < 0 ∨ (¬ link < 0 ∧ 48 ≤ link) ∨ (¬ link < 0 ∧ ¬ 48 ≤ link ∧ now < 0) ∨ (¬ link < 0 ∧ ¬ 48 ≤ link ∧ ¬ now < 0 ∧ 2147483647 < now) := by omega
  clear ha
  rcases hc with h1 | ⟨h1, h2⟩ | ⟨h1, h2, h3⟩ | ⟨h1, h2, h3, h4⟩
  all_goals
    go_enter Try.func11, Try.ntmps11
    go_wp2_with fail
    refine wp_scope_fwd 0 rfl ?_
    go_wp2_with (first
      | (go_at_call 27; refine HN.out.mono ?_; rintro e w' ⟨rfl, rfl⟩))
    apply wp_goto
    refine And.intro rfl ?_
    show Code.wp _ _ _ _ _
    go_wp2
    rw [Exit.noGoto_ret]
    go_ret2
    exact ⟨rfl, Fr.refl _ _⟩
theorem put_long (b : Nat) (most last : Int) (L : List Rm) (link now : Int) (A : Option Addr) (n c : Nat) (w : World) (h : IsPool w b most last L) (ha : 0 ≤ link ∧ link ≤ 47 ∧ 0 ≤ now ∧ now ≤ 2147483647) (hn : 4096 < n) :
    Calls Try.prog 11 #[.pointer (some ⟨b, 0, none⟩), .int .i64 link, .int .i64 now, .slice A n c] w fun e w' => e = .returned (.tuple #[.int .i64 0, .int .i64 3]) ∧ Fr0 w w' := by
  have HN := Lib.hid (pnone_calls b most last L w h)
  have h1 : ¬ link < 0 := by omega
  have h2 : ¬ 48 ≤ link := by omega
  have h3 : ¬ now < 0 := by omega
  have h4 : ¬ 2147483647 < now := by omega
  have h5 : (4096 : Int) < (n : Int) := by omega
  clear h ha
  go_enter Try.func11, Try.ntmps11
  go_wp2_with fail
  refine wp_scope_fwd 0 rfl ?_
  go_wp2_with (first
    | (go_at_call 27; refine HN.out.mono ?_; rintro e w' ⟨rfl, rfl⟩))
  apply wp_goto
  refine And.intro rfl ?_
  show Code.wp _ _ _ _ _
  go_wp2
  rw [Exit.noGoto_ret]
  go_ret2
  exact ⟨rfl, Fr.refl _ _⟩
theorem put_crowd (b : Nat) (most last : Int) (L : List Rm) (link now : Int) (A : Option Addr) (n c : Nat) (w : World) (h : IsPool w b most last L) (ha : 0 ≤ link ∧ link ≤ 47 ∧ 0 ≤ now ∧ now ≤ 2147483647) (hn : n ≤ 4096) (hc : most ≤ L.length) :
    Calls Try.prog 11 #[.pointer (some ⟨b, 0, none⟩), .int .i64 link, .int .i64 now, .slice A n c] w fun e w' => e = .returned (.tuple #[.int .i64 0, .int .i64 300]) ∧ Fr0 w w' := by
  have HN := Lib.hid (pnone_calls b most last L w h)
  obtain ⟨A0, c0, hb, _⟩ := h.ex
  obtain ⟨⟨c0, _, c2⟩, _⟩ := po_cells hb
  have h1 : ¬ link < 0 := by omega
  have h2 : ¬ 48 ≤ link := by omega
  have h3 : ¬ now < 0 := by omega
  have h4 : ¬ 2147483647 < now := by omega
  have h5 : ¬ (4096 : Int) < (n : Int) := by omega
  clear h ha hn hb
  go_enter Try.func11, Try.ntmps11
  go_wp2_with fail
  refine wp_scope_fwd 0 rfl ?_
  go_wp2_with (first
    | (go_at_call 27; refine HN.out.mono ?_; rintro e w' ⟨rfl, rfl⟩))
  go_quiet (fail)
  go_wp2_with fail
  apply wp_goto
  refine And.intro rfl ?_
  show Code.wp _ _ _ _ _
  go_wp2
  rw [Exit.noGoto_ret]
  go_ret2
  exact ⟨rfl, (Fr.refl _ _).drewN _⟩
theorem rms_single (r : Rm) : rms [r] = rmc r := by simp [rms]
theorem rd_rm1 (S : Nat → Prop) (w : World) (r : Rm) (t : TypeId) (hS : ¬ S w.heap.size) : Rd S (w.alloc (.cells #[.int .i64 r.m.num, .int .i64 r.m.link, .int .i64 r.m.since, .slice r.A r.m.bytes.length r.c] t)) (some ⟨w.heap.size, 0, none⟩) (rms [r]) := by
  rw [rms_single]
  refine .inr ⟨_, 0, rfl, hS, fun i hi => ?_⟩
  rw [cell_of_blk (heap_alloc_new w _) (0 + i), Nat.zero_add]
  simp at hi ⊢
/-- A pool of what was put last alone: its rows lie behind B. -/
def NewRows (B b : Nat) (most last : Int) (w : World) (L : List Rm) : Prop := ∃ A c, w.heap[b]? = some (.cells (poc most last A L.length c) 63 (0, 0)) ∧ IsLs w A c L ∧ Rd (fun k => k < B) w A (rms L) ∧ ∀ r ∈ L, Rd (fun k => k < B) w r.A (u8s r.m.bytes)
def PutPost2 (b : Nat) (most : Int) (last : Int) (L : List Rm) (ms : List Msg) (v : Value) (w : World) (e : Ending) (w' : World) : Prop :=
  (∃ L', e = .returned v ∧ IsPool w' b most last L' ∧ msgs L' = ms ∧ (L = [] → NewRows w.heap.size b most last w' L')) ∧ Fr (fun k => k = b) w w'
/-- The world behind a pool's stores: its block alone turned. -/
def PutPost (b : Nat) (most : Int) (last : Int) (ms : List Msg) (v : Value) (w : World) (e : Ending) (w' : World) : Prop :=
  (∃ L', e = .returned v ∧ IsPool w' b most last L' ∧ msgs L' = ms) ∧ Fr (fun k => k = b) w w'
set_option maxHeartbeats 4000000 in
theorem put_ok2 (b : Nat) (most last : Int) (L : List Rm) (link now : Int) (A : Option Addr) (c : Nat) (bs : List UInt8) (w : World) (h : IsPool w b most last L) (ha : 0 ≤ link ∧ link ≤ 47 ∧ 0 ≤ now ∧ now ≤ 2147483647) (hbs : BArg w A bs) (hn : bs.length ≤ 4096) (hc : L.length < most) (hla : 0 ≤ last ∧ last ≤ 1000000000) :
    Calls Try.prog 11 #[.pointer (some ⟨b, 0, none⟩), .int .i64 link, .int .i64 now, .slice A bs.length c] w (PutPost2 b most (last + 1) L (msgs L ++ [⟨last + 1, link, now, bs⟩]) (.tuple #[.int .i64 (last + 1), .int .i64 0]) w) := by
  have HN := Lib.hid (pnone_calls b most last L w h)
  have HM := Lib.hid h.most
  obtain ⟨A0, c0, hb, hls⟩ := h.ex
  obtain ⟨⟨c0', c1, c2⟩, f0, f1, f2⟩ := po_cells hb
  have HB := Lib.hid hb
  have HLS := Lib.hid hls
  have HBS := Lib.hid hbs
  have hmL := hls.most
  have h1 : ¬ link < 0 := by omega
  have h2 : ¬ 48 ≤ link := by omega
  have h3 : ¬ now < 0 := by omega
  have h4 : ¬ 2147483647 < now := by omega
  have h5 : ¬ (4096 : Int) < (bs.length : Int) := by omega
  have h6 : ¬ most ≤ (L.length : Int) := by omega
  have hw1 : IntKind.i64.wrap (last + 1) = last + 1 := by rw [IntKind.wrap_i64]; omega
  have HL1 := Lib.hid hc
  clear h ha hb hls hbs hc
  go_enter Try.func11, Try.ntmps11
  go_wp2_with fail
  refine wp_scope_fwd 0 rfl ?_
  go_wp2_with (first
    | (go_at_call 27; refine HN.out.mono ?_; rintro e w' ⟨rfl, rfl⟩))
  go_quiet (fail)
  go_wp2_with fail
  have hb1 := blk_setCell (((Fr.refl (fun _ => False) w).drewN nq).blk HB.out (fun h => h)) 1 (.int .i64 (last + 1))
  have hf1 := ((Fr.refl (fun k => k = b) w).drewN nq).setCell (p := ⟨b, 1, none⟩) (fun _ => rfl) (.int .i64 (last + 1))
  have hszW : ((w.drewN nq).setCell ⟨b, 1, none⟩ (.int .i64 (last + 1))).heap.size = w.heap.size := by simp [World.drewN]
  generalize (w.drewN nq).setCell ⟨b, 1, none⟩ (.int .i64 (last + 1)) = W at *
  have hbW : W.heap[b]? = some (.cells (poc most (last + 1) A0 L.length c0) 63 (0, 0)) := hb1
  have HF1 := Lib.hid hf1
  have HLW := Lib.hid (HLS.out.keptB HB.out hf1)
  have HBW := Lib.hid (HBS.out.keptB HB.out hf1)
  have HK := Lib.hid (fun U (hf : Fr0 W U) => po_cells (hf.blk hbW (fun h => h)))
  have HBB := Lib.hid hbW
  have hbW' := Lib.hid HB.out
  have HSZ1 := Lib.hid (show W.heap.size = w.heap.size ∧ b < w.heap.size from ⟨hszW, lt_of_block HB.out⟩)
  obtain ⟨⟨k0, k1, k2⟩, g0, g1, g2⟩ := HK.out _ (Fr.refl _ W).drew
  have HCL := Lib.hid (fun U (hf : Fr0 W U) => lclone_calls A0 c0 L U (HLW.out.kept hf))
  have HCB := Lib.hid (fun U (hf : Fr0 W U) => bclone_calls A c bs U (HBW.out.kept hf))
  clear hb1 hf1 hbW c0' c1 c2 f0 f1 f2
  go_upto_region 10 with fail
  go_region_law ((first
    | (go_simp; go_at_call 28; (with_reducible refine (HCL.out _ (Fr.refl _ W).drew).mono ?_); rintro e w5 ⟨⟨A5, c5, rfl, hown5, hls5⟩, hf5⟩; have hfa := (Fr.refl _ W).drew.trans hf5; obtain ⟨⟨k0, k1, k2⟩, g0, g1, g2⟩ := HK.out _ hfa)
    | (go_simp; go_at_call 29; (with_reducible refine (HCB.out _ hfa).mono ?_); rintro e w6 ⟨⟨A6, c6, rfl, hown6⟩, hf6⟩; have hfb := hfa.trans hf6; obtain ⟨⟨k0, k1, k2⟩, g0, g1, g2⟩ := HK.out _ hfb)
    | (refine step_app rfl (.tmp 51) (.tmp 61) _ rfl Try.underlying36 rm_elem (base := W.heap.size) (.slice A5 L.length c5) L.length (rms L) rfl (own_kept0 (own_mono hown5 (by simp)) (hf6.alloc _)) (fun _ => False) _ 1 1 (rms [⟨⟨last + 1, link, now, bs⟩, A6, c6⟩]) rfl (rd_rm1 _ _ ⟨⟨last + 1, link, now, bs⟩, A6, c6⟩ _ (fun h => h)) rfl (rms_one _) (by simp only [maxLen]; omega) (by omega) (by have := hfb.size; simp; omega) (by simp) ?_; intro v7 w7 hown7 hg7 hat7; have hb7 := blk_grown ((hfb.alloc _).blk HBB.out (fun h => h)) hg7 (fun e => by have h1 := (own_blk hown5 e.symm).1; have h2 := lt_of_block HBB.out; simp at h1; omega); obtain ⟨⟨k0, k1, k2⟩, g0, g1, g2⟩ := po_cells hb7; obtain ⟨A7, c7, rfl, hc71, hc72⟩ := own_form hown7)))
  all_goals
    have hgr : Fr (fun k => (Value.slice A5 L.length c5).ownBlock = some k) w6 w7 := ((Fr.refl _ w6).alloc _).grown hg7 (fun k _ e => e)
    have hfW : Fr0 W w7 := hfb.then hgr (fun k hk e => by have h1 := (own_blk hown5 e).1; simp at h1; omega)
    have hrd6 : Rd (fun k => (Value.slice A5 L.length c5).ownBlock = some k) w6 A6 (u8s bs) := own_rd _ hown6 (fun k h1 _ e => by
      obtain ⟨_, cs, h2⟩ := own_blk hown5 e
      have := lt_of_block h2
      omega)
    have hr7 : BArg w7 A6 bs := .of_rd ((hrd6.kept hgr).mono (fun _ _ h => h.elim)) HBS.out.len
    rw [← rms_append] at hown7
    obtain ⟨_, hls7⟩ := own_isls (L := L ++ [⟨⟨last + 1, link, now, bs⟩, A6, c6⟩]) hown7 (fun r hr => by
      rcases List.mem_append.1 hr with hr | hr
      · exact (HLW.out.ok r hr).kept hfW
      · obtain rfl : r = ⟨⟨last + 1, link, now, bs⟩, A6, c6⟩ := by simpa using hr
        exact hr7) (by have h1 := HL1.out; have h2 := HM.out; simp; omega)
    have HP := Lib.hid (show IsPool (w7.setCell ⟨b, 2, none⟩ (.slice A7 (L.length + 1) c7)) b most (last + 1) (L ++ [⟨⟨last + 1, link, now, bs⟩, A6, c6⟩]) from
      ⟨⟨A7, c7, by simpa using blk_setCell hb7 2 (.slice A7 (L.length + 1) c7), hls7.keptB hb7 ((Fr.refl (fun k => k = b) w7).setCell (p := ⟨b, 2, none⟩) (fun _ => rfl) _)⟩, HM.out⟩)
    have HNR := Lib.hid (show L = [] → NewRows w.heap.size b most (last + 1) (w7.setCell ⟨b, 2, none⟩ (.slice A7 (L.length + 1) c7)) (L ++ [⟨⟨last + 1, link, now, bs⟩, A6, c6⟩]) from fun hnil => by
      subst hnil
      have hbl := lt_of_block hbW'.out
      have hsf := (Fr.refl (fun k => k = b ∨ False) w7).setCell (p := ⟨b, 2, none⟩) (fun _ => .inl rfl) (.slice A7 (List.length ([] : List Rm) + 1) c7)
      have hsb := HSZ1.out
      refine ⟨A7, c7, by simpa using blk_setCell hb7 2 (.slice A7 (List.length ([] : List Rm) + 1) c7), hls7.keptB hb7 ((Fr.refl (fun k => k = b) w7).setCell (p := ⟨b, 2, none⟩) (fun _ => rfl) _), ?_, ?_⟩
      · have h1 : Rd (fun k => k < w.heap.size ∨ k = b) w7 A7 (rms ([] ++ [⟨⟨last + 1, link, now, bs⟩, A6, c6⟩])) := own_rd _ (by simpa using hown7) (fun k h1 _ e => by rcases e with e | e <;> omega)
        exact (h1.kept (hsf.mono (fun k hk e => .inr (by simpa using e)))).mono (fun k _ e => .inl e)
      · intro r hr
        obtain rfl : r = ⟨⟨last + 1, link, now, bs⟩, A6, c6⟩ := by simpa using hr
        have h1 : Rd (fun k => (k < w.heap.size ∨ k = b) ∨ (Value.slice A5 (List.length ([] : List Rm)) c5).ownBlock = some k) w6 A6 (u8s bs) := own_rd _ hown6 (fun k h1 _ e => by
          have hfs := hfa.size
          rcases e with (e | e) | e
          · omega
          · omega
          · obtain ⟨_, cs, h2⟩ := own_blk hown5 e
            have := lt_of_block h2
            omega)
        have h2 := (h1.kept (hgr.mono (fun k _ e => .inr e))).mono (T := fun k => k < w.heap.size ∨ k = b) (fun k _ e => .inl e)
        exact (h2.kept (hsf.mono (fun k hk e => .inr (by simpa using e)))).mono (fun k _ e => .inl e))
    have HFE := Lib.hid ((HF1.out.trans (Fr0.any hfW)).setCell (p := ⟨b, 2, none⟩) (fun _ => rfl) (.slice A7 (L.length + 1) c7))
    obtain ⟨A8, c8, hb8, _⟩ := HP.out.ex
    obtain ⟨⟨_, l1, _⟩, _⟩ := po_cells hb8
    clear hgr hfW hrd6 hr7 hls7 hb7 hown7 hg7 hat7 hown6 hown5 hls5 hf5 hf6 hfa hfb k0 k1 k2 g0 g1 g2 hb8
    generalize w7.setCell ⟨b, 2, none⟩ (.slice A7 (L.length + 1) c7) = w8 at *
    go_wp2_with fail
    rw [jump_ret]
    go_ret2
    exact ⟨⟨_, rfl, HP.out, by simp [msgs], HNR.out⟩, HFE.out⟩
theorem put_ok (b : Nat) (most last : Int) (L : List Rm) (link now : Int) (A : Option Addr) (c : Nat) (bs : List UInt8) (w : World) (h : IsPool w b most last L) (ha : 0 ≤ link ∧ link ≤ 47 ∧ 0 ≤ now ∧ now ≤ 2147483647) (hbs : BArg w A bs) (hn : bs.length ≤ 4096) (hc : L.length < most) (hla : 0 ≤ last ∧ last ≤ 1000000000) :
    Calls Try.prog 11 #[.pointer (some ⟨b, 0, none⟩), .int .i64 link, .int .i64 now, .slice A bs.length c] w (PutPost b most (last + 1) (msgs L ++ [⟨last + 1, link, now, bs⟩]) (.tuple #[.int .i64 (last + 1), .int .i64 0]) w) :=
  (put_ok2 b most last L link now A c bs w h ha hbs hn hc hla).mono fun e w' ⟨⟨L', h1, h2, h3, _⟩, hf⟩ => ⟨⟨L', h1, h2, h3⟩, hf⟩
end Go.Proofs.Ytbhdkpcakjookaa
