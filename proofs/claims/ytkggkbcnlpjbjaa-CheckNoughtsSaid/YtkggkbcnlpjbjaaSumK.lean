/- The statement CheckNoughts walked. -/
import Derived.Test.YtkggkbcnlpjbjaaSumH
import Derived.Test.YtkggkbcnlpjbjaaSumM
import Derived.Test.YtkggkbcnlpjbjaaWZeros
set_option linter.unusedVariables false
set_option linter.unusedSimpArgs false
namespace Go.Proofs.Ytkggkbcnlpjbjaa
open Go.RowKit

theorem zeros_u8 (n : Nat) : (Builtin.zeroCells (Value.int .u8 0).cells n).toList = u8s (List.replicate n 0) := by
  have h0 : ∀ i : Nat, (#[Value.int .u8 0])[i % 1]! = Value.int .u8 0 := fun i => by rw [Nat.mod_one]; rfl
  simp [Builtin.zeroCells, Value.cells, u8s, h0, List.map_replicate]
  apply List.ext_getElem?
  intro i
  simp only [List.getElem?_map, List.getElem?_replicate, List.getElem?_range', List.getElem?_range]
  by_cases h : i < n <;> simp [h, List.getElem?_range]

/-- append(s, make([]byte, n)...). -/
theorem wpList_zeros {w : World} {base : Nat} {ops : Array Oper} {rest : List Oper} {o : Oper} {a : Act} {Q : Exit → Act → World → Prop} (hgd : o.guard = none) (s x : Operand)
    (ho : o.op = .call { callee := .builtin .append, args := #[s, x], argTypes := #[22, 3] })
    (v : Value) (n : Nat) (xs : List Value) (hs : a.eval s = v) (hown : w.ownsRow base 5 1 v n xs)
    (m : Nat) (y : Int) (hx : a.eval x = .int .i64 y) (hy : y = (m : Int)) (hbytes : n + m ≤ 140737488355328) (hbase : base ≤ w.heap.size)
    (h : ∀ v' w', w'.ownsRow base 5 1 v' (n + m) (xs ++ u8s (List.replicate m 0)) → w.grownBy w' v.ownBlock → (v'.ownBlock = v.ownBlock ∨ v'.ownBlock = some w.heap.size) → wpList Try.prog ops Q rest (a.put o.dst v') w') : wpList Try.prog ops Q (o :: rest) a w :=
  wpList_plain hgd fun _ hK => by
    subst hy
    have hinfo : (Try.prog.info? 5).map (fun i => (i.zero, i.size, i.bytes)) = some (some (.int .u8 0), 1, 1) := by kernel_rfl
    obtain ⟨i, hi, h1, h2, h3⟩ := info_parts hinfo
    obtain ⟨v', w', hrun, h4, h5, h6⟩ := Go.Proofs.YtkggkbcnlpjbjaaW.PrintWords.run_append_zeros (P := Try.prog) w base 22 3 o.type 5 i (.int .u8 0) 1 1 Try.underlying22 Try.underlying3 hi h1 h2 h3 rfl (by decide) (by decide) v n xs hown .i64 m (by rw [zeros_u8]; exact u8s_one _) (by omega) hbase
    rw [zeros_u8] at h4
    unfold Oper.wp execOp
    simp only [ho, resolve, invoke, builtin, Sem.run_bind, Sem.run_pure, Result.andThen_ok, List.map_toArray, List.map_cons, List.map_nil, hs, hx, hrun]
    exact hK _ _ (h v' w' h4 h5 h6)

set_option maxHeartbeats 2000000 in
theorem noughts_walk (A : Option Addr) (c : Nat) (bs : List UInt8) (n i : Int) (w : World) (hb : BArg w A bs) (hi : -9223372036854775808 ≤ i) (hi2 : i ≤ 9223372036854775807) (hn : -9223372036854775808 ≤ n) (hn2 : n ≤ 9223372036854775807) :
    Calls Try.prog 6 #[.slice A bs.length c, .int .i64 n, .int .i64 i] w (Good w) := by
  have hl := hb.len
  have HB := Lib.hid hb
  have HL := Lib.hid (show (u8s bs).length = bs.length * 1 by rw [u8s_length, Nat.mul_one])
  have HAN : Hid (A = none → bs.length = 0) := fun e => by rw [HB.out.nil e]; rfl
  clear hb
  by_cases hlen : 2000 < bs.length
  · go_enter Try.func6, Try.ntmps6
    go_wp2_with (go_at_call 10; refine (known_calls _).mono ?_; rintro e w' ⟨rfl, hf⟩)
    go_ret
    exact ⟨rfl, hf⟩
  · by_cases hn0 : n < 0
    · go_enter Try.func6, Try.ntmps6
      go_wp2_with (go_at_call 10; refine (known_calls _).mono ?_; rintro e w' ⟨rfl, hf⟩)
      go_ret
      exact ⟨rfl, hf⟩
    · by_cases hn1 : 100 < n
      · go_enter Try.func6, Try.ntmps6
        go_wp2_with (go_at_call 10; refine (known_calls _).mono ?_; rintro e w' ⟨rfl, hf⟩)
        go_ret
        exact ⟨rfl, hf⟩
      · obtain ⟨m, rfl⟩ := Int.eq_ofNat_of_zero_le (show 0 ≤ n by omega)
        have hm : m ≤ 100 := by omega
        have hpad := tot_pad bs (2 * m + bs.length % 2) (by omega)
        have hpk : ck (bs ++ List.replicate (2 * m + bs.length % 2) 0) = ck bs := by rw [ck_tot, ck_tot, hpad]
        have HPK := Lib.hid hpk
        clear hpad hpk hn0 hn1
        go_enter Try.func6, Try.ntmps6
        go_wp2_with (first | (at_builtin; refine wpList_app rfl (.const (.slice none 0 0)) (.tmp 24) _ rfl Try.underlying22 u8_elem (base := w.heap.size) (.slice none 0 0) 0 [] rfl (own_nil _ _ _ _) (fun _ => False) A bs.length c (u8s bs) rfl HB.out.rd HL.out (u8s_one bs) (by simp only [maxLen]; omega) (by omega) (Nat.le_refl _) HAN.out ?_; intro v1 w1 hown hg hat; rw [Nat.zero_add, List.nil_append] at hown; have HO1 := Lib.hid hown; have HF1 := Lib.hid ((Fr.refl (fun _ => False) w).grown hg (by simp [Value.ownBlock])); clear hown hg hat) | (at_builtin; refine wpList_zeros rfl (.tmp 25) (.tmp 31) rfl (base := w.heap.size) v1 bs.length (u8s bs) rfl HO1.out (2 * m + bs.length % 2) _ rfl (by omega) (by omega) HF1.out.size ?_; intro v2 w2 hown hg hat; obtain ⟨A2, c2, rfl, _, _⟩ := own_form hown; have hlt1 := HO1.out.lt; have HO2 := Lib.hid hown; have HF2 := Lib.hid (HF1.out.grown hg (fun g hg e => by have := (hlt1 g e).1; omega)); clear hown hg hat hlt1))
        have hml : (bs ++ List.replicate (2 * m + bs.length % 2) 0).length = bs.length + (2 * m + bs.length % 2) := by simp
        have hmore : BArg w2 A2 (bs ++ List.replicate (2 * m + bs.length % 2) 0) := .own (n := bs.length + (2 * m + bs.length % 2)) (c := c2) (m := bs.length + (2 * m + bs.length % 2)) (base := w.heap.size) (e := 5) (by have := HO2.out; simpa [u8s] using this) (by omega)
        generalize bs ++ List.replicate (2 * m + bs.length % 2) 0 = more at *
        have hmb : bs.length + (2 * m + bs.length % 2) ≤ 2300 := by omega
        rw [← hml] at hmb HO2 ⊢
        have HM := Lib.hid hmore
        clear hmore hml
        refine (sum_calls _ 1 1 [more] _ (rdbb_one ⟨_, c2, rfl, (HM.out.kept ((Fr.refl _ w2).alloc _)).rd⟩ (heap_alloc_new w2 _) (fun h => h)) (parts_one (by simp only [maxLen]; omega))).mono ?_
        rintro e w3 ⟨rfl, hf3⟩
        have HF3 := Lib.hid ((HF2.out.alloc _).trans hf3)
        simp only [List.flatten_cons, List.flatten_nil, List.append_nil]
        rw [HPK.out]
        clear hf3
        go_wp2_with fail
        refine (sum_calls _ 1 1 [bs] _ (rdbb_one ⟨_, c, rfl, ((HB.out.kept HF3.out).kept ((Fr.refl _ w3).alloc _)).rd⟩ (heap_alloc_new w3 _) (fun h => h)) (parts_one (by simp only [maxLen]; omega))).mono ?_
        rintro e w4 ⟨rfl, hf4⟩
        have HF4 := Lib.hid ((HF3.out.alloc _).trans hf4)
        simp only [List.flatten_cons, List.flatten_nil, List.append_nil]
        clear hf4
        generalize ck bs = s at *
        have hss : (s != s) = false := by simp
        by_cases hbad : i < 0 ∨ i % 2 = 1 ∨ (bs.length : Int) - 2 < i
        · have HBAD := Lib.hid hbad
          clear hbad
          go_wp2_with (first | (go_at_call 11; refine (seal_no A c bs.length i _ HBAD.out hi hi2 (by simp only [maxLen]; omega)).mono ?_; rintro e w' ⟨rfl, rfl⟩) | (go_at_call 10; refine (known_calls _).mono ?_; rintro e w' ⟨rfl, hf⟩))
          go_ret
          exact ⟨rfl, HF4.out.trans hf⟩
        · obtain ⟨k, rfl⟩ := Int.eq_ofNat_of_zero_le (show 0 ≤ i by omega)
          have hk : k % 2 = 0 := by omega
          have hk2 : k + 2 ≤ bs.length := by omega
          have hsl : (sealed bs k).length = bs.length := by simp [sealed, zeroed]
          have hss2 := sealed_sealed bs k
          clear hbad
          go_wp2_with fail
          refine (seal_yes A c bs k _ (HB.out.kept HF4.out).rd hk hk2 hl).mono ?_
          rintro e w5 ⟨v5, rfl, ho5, hf5⟩
          generalize sealed bs k = ss at *
          rw [← hsl] at ho5
          obtain ⟨A5, c5, rfl, _, _⟩ := own_form ho5
          have HO5 := Lib.hid ho5
          have HF5 := Lib.hid (HF4.out.trans hf5)
          have HS2 := Lib.hid hss2
          have HSL := Lib.hid hsl
          clear ho5 hf5 hss2 hsl
          go_wp2_with fail
          refine (seal_yes A5 c5 ss k _ (own_rd _ HO5.out (fun _ _ _ h => h)) hk (by rw [HSL.out]; exact hk2) (by rw [HSL.out]; exact hl)).mono ?_
          rw [HS2.out]
          rintro e w6 ⟨v6, rfl, ho6, hf6⟩
          obtain ⟨A6, c6, rfl, _, _⟩ := own_form ho6
          have hx5 := (BArg.own (own_kept0 HO5.out hf6) (by rw [HSL.out]; exact hl)).str c5
          have hx6 := (BArg.own ho6 (by rw [HSL.out]; exact hl)).str c6
          have HF6 := Lib.hid (HF5.out.trans hf6)
          clear ho6 hf6
          go_wp2_with (go_at_call 10; refine (known_calls _).mono ?_; rintro e w' ⟨rfl, hf⟩)
          go_ret
          exact ⟨rfl, HF6.out.trans hf⟩
end Go.Proofs.Ytkggkbcnlpjbjaa
