/- Chapter 13: known. -/
import Derived.Test.YtmnadploikcljaaShL
set_option linter.unusedVariables false
set_option linter.unusedSimpArgs false
namespace Go.Proofs.Ytmnadploikcljaa
open Go.RowKit
attribute [local go_sem] Oper.semAt_some

abbrev kn3 (B : Bk) : Sh := goX kn2 0 1 B
theorem kn_go (b m : Nat) (w : World) (h : IsSh w b m kn2) : Calls Try.prog 12 #[.pointer (some ⟨b, 0, none⟩), .int .i64 0] w fun e w' =>
    ∃ g c B, e = .returned (.tuple #[.slice (some ⟨g, 0, none⟩) 1 c, .int .i64 0]) ∧ w'.cell? ⟨g, 0, none⟩ = some (.int .i64 1) ∧ IsSh w' b m (kn3 B) ∧ nextA (kn3 B) = 1 ∧ Fr (ShS b m) w w' := by
  refine (sgo_yes b m kn2 0 w h kn_may).mono fun e w' q => ?_
  unfold GoPost at q
  rw [if_pos kn_may] at q
  have hg : goN kn2.s 0 kn2.t kn2.L = 1 := kn_goN
  rw [hg] at q
  obtain ⟨v, B, rfl, hrow, hn, hsh, hf⟩ := q
  have hr : w'.ownsRow w.heap.size 33 2 v 1 (sends [(1, 8)]) := hrow
  obtain ⟨g, c, rfl, hb, hl⟩ := hr.form (by omega)
  have hrd := own_rd (fun _ => False) hr (fun _ _ _ h => h)
  have hc := (rdl_cells hrd 0 (by simp)).1
  refine ⟨g, c, B, rfl, hc, hsh, ?_, hf⟩
  have hof : BkOf knP [(0, 8)] B := hsh.ok.of
  show B.whenT B.now 8 = 1
  rw [hn]
  exact kn_next hof hn
set_option maxHeartbeats 2000000 in
theorem known13_calls (w : World) : Calls Try.prog 9 #[] w (Yes w) := by
  have hmx : Try.prog.follows .mixedOrders = true := by kernel_rfl
  go_enter Try.func9, Try.ntmps9
  go_wp2_with (first
    | (go_at_call 24; refine (some13_calls _).mono ?_; rintro e w1 ⟨rfl, hf1⟩)
    | (go_at_call 10; refine (snew_yes knP 20 knP_right (by decide) _).mono ?_; rintro e w2 ⟨⟨b, m, rfl, hb, hm, hs2⟩, hf2⟩
       have h1 := fun W (h : IsSh W b m (shNew knP 20)) => sput_calls b m (shNew knP 20) 1 8 W h
       have h2 := fun W (h : IsSh W b m kn1) => sput_calls b m kn1 2 8 W h
       have h3 := fun W (h : IsSh W b m kn2) => sput_calls b m kn2 3 5 W h
       rw [kn_put1.1, kn_put1.2] at h1
       rw [kn_put2.1, kn_put2.2] at h2
       rw [kn_put3.1, kn_put3.2] at h3
       have H1 := Lib.hid h1
       have H2 := Lib.hid h2
       have H3 := Lib.hid h3
       have HS2 := Lib.hid hs2
       have HBM := Lib.hid (And.intro hb hm)
       clear h1 h2 h3 hs2 hb hm)
    | (go_at_call 11; (with_reducible refine (H1.out _ HS2.out).mono ?_); rintro e w3 ⟨rfl, hs3, hf3⟩; have HS3 := Lib.hid hs3; clear hs3)
    | (go_at_call 11; (with_reducible refine (H2.out _ HS3.out).mono ?_); rintro e w4 ⟨rfl, hs4, hf4⟩; have HS4 := Lib.hid hs4; clear hs4)
    | (go_at_call 11; (with_reducible refine (H3.out _ HS4.out).mono ?_); rintro e w5 ⟨rfl, hs5, hf5⟩; have HS5 := Lib.hid hs5; clear hs5)
    | (go_at_call 12; (with_reducible refine (kn_go b m _ HS5.out).mono ?_); rintro e w6 ⟨g, c, B, rfl, hc6, hs6, hn6, hf6⟩; have HS6 := Lib.hid hs6; clear hs6)
    | (go_at_call 16; have hx := snext_some b m (kn3 B) w6 HS6.out (show 0 < 1 by omega); rw [hn6] at hx; (with_reducible refine hx.mono ?_); rintro e w7 ⟨rfl, hf7⟩; have HB7 := Lib.hid (show Calls Try.prog 15 #[.pointer (some ⟨b, 0, none⟩)] w7 fun e w' => e = .returned (.int .i64 8) ∧ Fr0 w7 w' from sbytes_calls b m (kn3 B) w7 (HS6.out.kept0 hf7)); have hc7 := hf7.cell hc6 (fun h => h))
    | (go_at_call 15; (with_reducible refine HB7.out.mono ?_); rintro e w8 ⟨rfl, hf8⟩))
  go_ret
  have f2 := hf1.trans hf2
  have hS : ∀ i, i < w.heap.size → ShS b m i → False := fun i hi h => by
    have h1 := hf1.size
    have h2 := HBM.out
    rcases h with h | h <;> omega
  exact ⟨rfl, ((f2.then ((hf3.trans hf4).trans (hf5.trans hf6)) hS).trans hf7).trans hf8⟩
end Go.Proofs.Ytmnadploikcljaa
