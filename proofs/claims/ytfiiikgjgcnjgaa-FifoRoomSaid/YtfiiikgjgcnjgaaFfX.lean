/- Chapter 15: the statement FifoRoom walked. -/
import Derived.Test.YtfiiikgjgcnjgaaFfV
set_option linter.unusedVariables false
set_option linter.unusedSimpArgs false
namespace Go.Proofs.Ytfiiikgjgcnjgaa
open Go.RowKit

/-- So many packets of one size. -/
def stL (size : Int) (n : Nat) : List Pk := (List.range n).map fun (i : Nat) => (⟨(i : Int), 0, size⟩ : Pk)
theorem stL_succ (size : Int) (n : Nat) : stL size (n + 1) = stL size n ++ [⟨n, 0, size⟩] := by simp [stL, List.range_succ]
theorem stL_bytes (size : Int) (n : Nat) : bytesOf (stL size n) = n * size := by
  induction n with
  | zero => simp [stL, bytesOf]
  | succ n ih => rw [stL_succ, bytesOf_app, bytesOf_one, ih]; simp only [Int.natCast_add, Int.add_mul]; simp
theorem right_of {id size : Int} (h1 : 0 ≤ id) (h2 : id ≤ 4611686018427387904) (h3 : 1 ≤ size) (h4 : size ≤ 2000) : (Pk.mk id 0 size).right = true := by
  simp only [Pk.right, Bool.and_eq_true, wthB_iff]
  omega
theorem put_yes {s : Fs} {p : Pk} (hr : p.right = true) (h : bytesOf s.l + p.size ≤ s.room) : s.put p = ({ s with l := s.l ++ [p] }, 0) := by
  simp only [Fs.put, hr, if_true]
  rw [if_neg (by omega)]
theorem put_not {s : Fs} {p : Pk} (hr : p.right = true) (h : s.room < bytesOf s.l + p.size) : s.put p = ({ s with lp := s.lp + 1, lb := s.lb + p.size }, 230) := by
  simp only [Fs.put, hr, if_true]
  rw [if_pos h]
set_option maxRecDepth 100000 in
set_option maxHeartbeats 4000000 in
theorem froom_walk (room size : Int) (w : World) :
    Calls Try.prog 5 #[.int .i64 room, .int .i64 size] w (Yes w) := by
  have HKN := Lib.hid known15_calls
  by_cases hg : 0 ≤ room ∧ room ≤ 2000 ∧ 1 ≤ size ∧ size ≤ 2000
  · have HN := Lib.hid (lw_new room w w (Fr.refl _ _) (by omega))
    obtain ⟨hr1, hr2, hs1, hs2⟩ := hg
    go_enter Try.func5, Try.ntmps5
    go_wp2_with fail
    refine HN.out.mono ?_
    rintro e w2 ⟨b, rfl, hlw⟩
    have HLW := Lib.hid hlw
    clear hlw HN
    go_wp2_with fail
    go_loopw [7] (fun i wr => ∃ (n : Nat), i = .int .i64 (n : Int) ∧ (n : Int) * size ≤ room ∧ (n : Int) ≤ room ∧ Hid (Lw w wr b ⟨stL size n, 0, 0, room⟩ n)) (fun i _ => (room - intOf i).toNat)
    case atStart => exact ⟨0, rfl, by simpa using hr1, by simpa using hr1, HLW.out⟩
    case round =>
      obtain ⟨n, rfl, hns, hnr, HL⟩ := hrel
      have hp0 : 0 ≤ (n : Int) * size := Int.mul_nonneg (by omega) (by omega)
      have hsucc : ((n + 1 : Nat) : Int) * size = (n : Int) * size + size := by simp only [Int.natCast_add, Int.add_mul]; simp
      have hnn : ((n : Int) + 1 ≤ (n : Int) * size + size) := by
        have h1 : ((n : Int) + 1) * 1 ≤ ((n : Int) + 1) * size := Int.mul_le_mul_of_nonneg_left hs1 (by omega)
        rw [Int.add_mul] at h1
        simp only [Int.mul_one, Int.one_mul] at h1
        rw [Int.add_mul] at h1
        omega
      have HSU := Lib.hid hsucc
      clear hsucc
      by_cases hlt : (n : Int) * size + size ≤ room
      · have HPU := Lib.hid (show Fs.put ⟨stL size n, 0, 0, room⟩ ⟨n, 0, size⟩ = (⟨stL size (n + 1), 0, 0, room⟩, 0) from by
          rw [put_yes (right_of (by omega) (by omega) hs1 hs2) (by rw [stL_bytes]; exact hlt), stL_succ])
        have HP := Lib.hid (lw_put HL.out ⟨n, 0, size⟩ (by omega) HPU.out)
        go_wp2_with fail
        refine HP.out.mono ?_
        rintro e w3 ⟨rfl, hlw⟩
        have HL3 := Lib.hid hlw
        clear hlw HP
        go_wp2_with fail
        go_roundw
        case rel => exact ⟨n + 1, by go_num, by rw [HSU.out]; exact hlt, by omega, HL3.out⟩
        case measure => simp [intOf]; omega
      · have HPU := Lib.hid (show Fs.put ⟨stL size n, 0, 0, room⟩ ⟨n, 0, size⟩ = (⟨stL size n, 1, size, room⟩, 230) from by
          rw [put_not (right_of (by omega) (by omega) hs1 hs2) (by rw [stL_bytes]; show room < (n : Int) * size + size; omega)]; simp)
        have HP := Lib.hid (lw_put HL.out ⟨n, 0, size⟩ (by omega) HPU.out)
        have HSB := Lib.hid (stL_bytes size n)
        have HAR := Lib.hid (show ∀ p ∈ stL size n, p.right = true from fun p hp => by
          simp only [stL, List.mem_map, List.mem_range] at hp
          obtain ⟨i, hi, rfl⟩ := hp
          exact right_of (by omega) (by omega) hs1 hs2)
        go_wp2_with fail
        refine HP.out.mono ?_
        rintro e w3 ⟨rfl, hlw⟩
        have HL3 := Lib.hid hlw
        clear hlw HP
        go_wp2_with fail
        refine (lw_bytes HL3.out).mono ?_
        rintro e w4 ⟨rfl, hlw⟩
        have HL4 := Lib.hid hlw
        clear hlw
        dsimp only
        rw [HSB.out]
        generalize hpq : (n : Int) * size = q at *
        by_cases hleft : 0 < room - q
        case' pos =>
          have HPU2 := Lib.hid (show Fs.put ⟨stL size n, 1, size, room⟩ ⟨n, 0, room - q⟩ = (⟨stL size n ++ [⟨n, 0, room - q⟩], 1, size, room⟩, 0) from by
            rw [put_yes (right_of (by omega) (by omega) (by show 1 ≤ room - q; omega) (by show room - q ≤ 2000; omega)) (by rw [HSB.out]; show q + (room - q) ≤ room; omega)])
          have HP2 := Lib.hid (lw_put HL4.out ⟨n, 0, room - q⟩ (by omega) HPU2.out)
          go_wp2_with fail
          refine HP2.out.mono ?_
          rintro e w5 ⟨rfl, hlw⟩
          have HL5 := Lib.hid (show ∃ LL K, Lw w w5 b ⟨LL, 1, size, room⟩ K ∧ K ≤ 300000 ∧ bytesOf LL = room ∧ ∀ p ∈ LL, p.right = true from ⟨_, _, hlw, by omega, by rw [bytesOf_app, bytesOf_one, HSB.out]; show q + (room - q) = room; omega, fun p hp => by
            rcases List.mem_append.1 hp with hp | hp
            · exact HAR.out p hp
            · have : p = ⟨n, 0, room - q⟩ := by simpa using hp
              rw [this]; exact right_of (by omega) (by omega) (by show 1 ≤ room - q; omega) (by show room - q ≤ 2000; omega)⟩)
          clear hlw HP2 HPU2
          go_wp2_with fail
        case' neg =>
          have HL5 := Lib.hid (show ∃ LL K, Lw w w4 b ⟨LL, 1, size, room⟩ K ∧ K ≤ 300000 ∧ bytesOf LL = room ∧ ∀ p ∈ LL, p.right = true from ⟨_, _, HL4.out, by omega, by rw [HSB.out]; omega, HAR.out⟩)
          go_wp2_with fail
        all_goals
          obtain ⟨LL, K, hl5, hK, hbl, har⟩ := HL5.out
          have HL6 := Lib.hid hl5
          have HBL := Lib.hid hbl
          have HRI := Lib.hid har
          clear hl5 hbl har HL5
          refine (lw_lost HL6.out).mono ?_
          rintro e w6 ⟨rfl, hlw⟩
          have HL7 := Lib.hid hlw
          clear hlw
          dsimp only
          cases LL with
          | nil =>
            have hroom : room = 0 := HBL.out.symm
            first
              | (exfalso; omega)
              | (have hq1 : decide (0 < room) = false := by rw [hroom]; rfl
                 have hq2 : ¬ 0 < room := by omega
                 obtain ⟨z, hz⟩ : ∃ z : Pk, z = pk0 := ⟨_, rfl⟩
                 have HT := Lib.hid (show Calls Try.prog 14 #[.pointer (some ⟨b, 0, none⟩)] w6 fun e w' => e = .returned (.tuple #[pkv z, .bool false]) ∧ Lw w w' b ⟨[], 1, size, room⟩ K from by rw [hz]; exact lw_take HL7.out (r := (⟨[], 1, size, room⟩, pk0, false)) rfl)
                 clear hz
                 clear hroom
                 go_wp2_with fail
                 refine HT.out.mono ?_
                 rintro e w7 ⟨rfl, hlw⟩
                 have HL8 := Lib.hid (hlw.kept0 ((Fr.refl _ w7).alloc (.cells (pkc z).toArray 34)))
                 clear hlw HT
                 go_wp2_with fail
                 refine (HKN.out _).mono ?_
                 rintro e w8 ⟨rfl, hf8⟩
                 go_wp2_with fail
                 go_ret
                 exact ⟨rfl, HL8.out.fr.trans hf8⟩)
          | cons x L =>
            have hxr := HRI.out x (by simp)
            have hbx : bytesOf (x :: L) = x.size + bytesOf L := by simp [bytesOf]
            have hxs := right_size hxr
            have hbl2 := HBL.out
            rw [hbx] at hbl2
            have hLr := (HL7.out.2.2.2.small)
            have hLs : Small L := fun p hp => hLr p (by simp [hp])
            have hL0 := hLs.range
            have hroom : 0 < room := by omega
            have hq1 : decide (0 < room) = true := decide_eq_true hroom
            have HT := Lib.hid (show Calls Try.prog 14 #[.pointer (some ⟨b, 0, none⟩)] w6 fun e w' => e = .returned (.tuple #[pkv x, .bool true]) ∧ Lw w w' b ⟨L, 1, size, room⟩ K from lw_take HL7.out (r := (⟨L, 1, size, room⟩, x, true)) rfl)
            have HPX := Lib.hid (show Fs.put ⟨L, 1, size, room⟩ x = (⟨L ++ [x], 1, size, room⟩, 0) from by rw [put_yes hxr (by show bytesOf L + x.size ≤ room; omega)])
            have HBX := Lib.hid (show bytesOf (L ++ [x]) = room from by rw [bytesOf_app, bytesOf_one]; omega)
            clear hbl2 hbx hLr hLs hL0 hxr hxs
            go_wp2_with fail
            refine HT.out.mono ?_
            rintro e w7 ⟨rfl, hlw⟩
            have HL8 := Lib.hid (hlw.kept0 ((Fr.refl _ w7).alloc (.cells (pkc x).toArray 34)))
            obtain ⟨⟨x0, x1, x2⟩, _⟩ := pk_cells (heap_alloc_new w7 (.cells (pkc x).toArray 34))
            clear hlw HT
            go_wp2_with fail
            refine (lw_put HL8.out x (by omega) HPX.out).mono ?_
            rintro e w8 ⟨rfl, hlw⟩
            have HL9 := Lib.hid hlw
            clear hlw
            go_wp2_with fail
            refine (lw_bytes HL9.out).mono ?_
            rintro e w9 ⟨rfl, hlw⟩
            have HL10 := Lib.hid hlw
            clear hlw
            dsimp only
            rw [HBX.out]
            go_wp2_with fail
            refine (HKN.out _).mono ?_
            rintro e w10 ⟨rfl, hf10⟩
            go_wp2_with fail
            go_ret
            exact ⟨rfl, HL10.out.fr.trans hf10⟩
  · have hq : room < 0 ∨ 0 ≤ room ∧ (2000 < room ∨ room ≤ 2000 ∧ (size < 1 ∨ 1 ≤ size ∧ 2000 < size)) := by omega
    clear hg
    rcases hq with hq | ⟨h0, hq | ⟨h1, hq | ⟨h2, hq⟩⟩⟩
    all_goals
      go_enter Try.func5, Try.ntmps5
      go_wp2_with (go_at_call 8; refine (HKN.out _).mono ?_; rintro e w6 ⟨rfl, hf6⟩)
      go_ret
      exact ⟨rfl, hf6⟩
end Go.Proofs.Ytfiiikgjgcnjgaa
