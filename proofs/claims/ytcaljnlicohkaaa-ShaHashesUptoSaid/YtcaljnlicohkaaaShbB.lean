/- SHA-256: a hasher loaded. -/
import Derived.Test.YtcaljnlicohkaaaShbA
import Derived.StillTailTactics
namespace Go.Proofs.Ytcaljnlicohkaaa
open Go.RowKit
set_option maxRecDepth 100000
set_option linter.unusedVariables false
set_option linter.unusedSimpArgs false
/-- what a saved hasher's bytes tell -/
def loadR (l : List Int) : Option (List W32 × List Int × Nat) :=
  if l.length < 2 ∨ l.getD 0 0 ≠ 104 ∨ l.getD 1 0 ≠ 115 then none
  else if (lebD (l.drop 2) 10 0).2.2 ≠ 0 ∨ 1152921504606846976 < (lebD (l.drop 2) 10 0).1 ∨ ((l.drop 2).drop (lebD (l.drop 2) 10 0).2.1.toNat).length ≠ 32 + (lebD (l.drop 2) 10 0).1.toNat % 64 then none
  else some (ldW ((l.drop 2).drop (lebD (l.drop 2) 10 0).2.1.toNat) 32, ((l.drop 2).drop (lebD (l.drop 2) 10 0).2.1.toNat).drop 32, (lebD (l.drop 2) 10 0).1.toNat)
def LoadRet (w : World) (l : List Int) (e : Ending) (w' : World) : Prop :=
  (loadR l = none ∧ e = .returned (.tuple #[.pointer none, .int .i64 51]) ∧ Below w.heap.size w w') ∨
  ∃ s rest n g v, loadR l = some (s, rest, n) ∧ e = .returned (.tuple #[.pointer (some ⟨g, 0, none⟩), .int .i64 0]) ∧ Hs w' g s v rest n ∧ w.heap.size ≤ g ∧ (∀ k, v.ownBlock = some k → w.heap.size ≤ k) ∧ Below w.heap.size w w'
theorem load_no1 {l : List Int} (h : l.length < 2 ∨ l.getD 0 0 ≠ 104 ∨ l.getD 1 0 ≠ 115) : loadR l = none := by unfold loadR; rw [if_pos h]
theorem load_no2 {l : List Int} {q k e : Int} (hD : lebD (l.drop 2) 10 0 = (q, k, e)) (h : e ≠ 0 ∨ 1152921504606846976 < q ∨ ((l.drop 2).drop k.toNat).length ≠ 32 + q.toNat % 64) : loadR l = none := by
  unfold loadR
  rw [hD]
  split
  · rfl
  · first
      | rfl
      | rw [if_pos h]
theorem load_yes {l : List Int} {q k : Int} (h : ¬ (l.length < 2 ∨ l.getD 0 0 ≠ 104 ∨ l.getD 1 0 ≠ 115)) (hD : lebD (l.drop 2) 10 0 = (q, k, 0)) (h2 : ¬ (1152921504606846976 < q ∨ ((l.drop 2).drop k.toNat).length ≠ 32 + q.toNat % 64)) :
    loadR l = some (ldW ((l.drop 2).drop k.toNat) 32, ((l.drop 2).drop k.toNat).drop 32, q.toNat) := by
  unfold loadR
  rw [if_neg h, hD, if_neg (by
    rintro (h3 | h3)
    · exact h3 rfl
    · exact h2 h3)]
theorem lebD_nat (L : List Int) (hL : IsBytes L) : ∃ (q k : Nat) (e : Int), lebD L 10 0 = ((q : Int), (k : Int), e) ∧ k ≤ L.length ∧ q < 18446744073709551616 ∧ (e = 0 ∨ e = 10 ∨ e = 11 ∨ e = 12) := by
  rcases lebD_cases L hL with h | h | h | ⟨u, k, h, h1, _, _, _, h2⟩
  · exact ⟨0, 0, _, h, Nat.zero_le _, by omega, by omega⟩
  · exact ⟨0, 0, _, h, Nat.zero_le _, by omega, by omega⟩
  · exact ⟨0, 0, _, h, Nat.zero_le _, by omega, by omega⟩
  · exact ⟨u, k, 0, h, h1, h2, by omega⟩
theorem ld_or (x : W32) {yb : Int} (y0 : 0 ≤ yb) (y1 : yb < 256) : bits .or .u32 (I x * 256 % 4294967296) (yb % 4294967296) = I ((x <<< 8) ||| b32 yb) := by
  have h1 := shl_I x 8
  rw [show (2 : Int) ^ 8 = 256 by decide] at h1
  have h2 : yb % 4294967296 = I (b32 yb) := by
    rw [I_b32 y0 (by omega)]
    omega
  rw [h1, h2, or_I]
theorem hsC_word {s : List W32} (h : s.length = 8) {v : Value} {n : Int} {i : Nat} (hi : i < 8) : (hsC s v n)[i]? = some (wv (s.getD i 0#32)) := by
  unfold hsC
  rw [Array.getElem?_append_left (by rw [wA_size, h]; exact hi)]
  exact wA_get s i (by omega)
theorem hsC_set {s : List W32} (h : s.length = 8) {v : Value} {n : Int} {i : Nat} (hi : i < 8) (x : W32) : (hsC s v n).setIfInBounds i (wv x) = hsC (s.set i x) v n := by
  unfold hsC
  rw [Array.setIfInBounds_append_left (by rw [wA_size, h]; exact hi), wA_set]
set_option maxHeartbeats 4000000 in
theorem sha_Load_any (y : Value) (l : List Int) (w : World) (HR : Rd w y l) (hl : l.length ≤ 140737488351232) :
    Calls Try.prog 31 #[y] w (LoadRet w l) := by
  have HRH := hd_ HR
  obtain ⟨A, cap, rfl, _, _, _, hc⟩ := HR.form
  clear HR
  by_cases h2 : l.length < 2
  · have h2I : (l.length : Int) < 2 := by omega
    have hno := hd_ (load_no1 (.inl h2))
    clear hc h2
    go_enter Try.func31, Try.ntmps31
    go_wp2
    exact bodyPost_ret (results_tmp2 rfl _ _ _) rfl (.inl ⟨hno.out, rfl, Below.refl _ _⟩)
  have h2I : ¬ ((l.length : Int) < 2) := by omega
  have i0 : (0 : Int) < (l.length : Int) := by omega
  have i1 : (1 : Int) < (l.length : Int) := by omega
  obtain ⟨b, off, rfl, c0⟩ := hc 0 (by omega)
  obtain ⟨b', off', e', c1⟩ := hc 1 (by omega)
  injection e' with e'
  injection e' with e1 e2
  subst e1; subst e2
  rw [Nat.add_zero] at c0
  have hLH := hd_ (And.intro h2 hl)
  clear hc h2 hl
  obtain ⟨x0, hx0⟩ : ∃ x, x = l.getD 0 0 := ⟨_, rfl⟩
  obtain ⟨x1, hx1⟩ : ∃ x, x = l.getD 1 0 := ⟨_, rfl⟩
  rw [← hx0] at c0
  rw [← hx1] at c1
  have hxH := hd_ (And.intro hx0 hx1)
  clear hx0 hx1
  by_cases h0 : x0 = 104
  · subst h0
    by_cases h1 : x1 = 115
    · subst h1
      have hok := hd_ (show ¬ (l.length < 2 ∨ l.getD 0 0 ≠ 104 ∨ l.getD 1 0 ≠ 115) from fun h => by
        rcases h with h | h | h
        · exact hLH.out.1 h
        · exact h hxH.out.1.symm
        · exact h hxH.out.2.symm)
      obtain ⟨u, hu0, hRu⟩ := HRH.out.sl_l Try.underlying34 infoB 2 (by have := hLH.out.1; omega)
      have hu : ∀ W, (Instr.slice 34 (.slice (some ⟨b, off, none⟩) l.length cap) (some (.int .i64 2)) none none).run Try.prog W = .ok u W := hu0
      obtain ⟨q, k, er, hD, hk, hq, her⟩ := lebD_nat (l.drop 2) hRu.1
      have hkl : 2 + k ≤ l.length := by rw [List.length_drop] at hk; have := hLH.out.1; omega
      obtain ⟨u2, hu20, hRu2⟩ := HRH.out.sl_l Try.underlying34 infoB (2 + k) hkl
      rw [← List.drop_drop] at hRu2
      have hw2k : wrap64 (2 + (k : Int)) = 2 + (k : Int) := by unfold wrap64; have := hLH.out.2; omega
      have hu2 : ∀ W, (Instr.slice 34 (.slice (some ⟨b, off, none⟩) l.length cap) (some (.int .i64 (2 + (k : Int)))) none none).run Try.prog W = .ok u2 W := fun W => by
        have := hu20 W
        rw [show ((2 + k : Nat) : Int) = 2 + (k : Int) by omega] at this
        exact this
      obtain ⟨R, hR⟩ : ∃ R, R = (l.drop 2).drop k := ⟨_, rfl⟩
      rw [← hR] at hRu2
      have hRl : R.length = l.length - 2 - k := by rw [hR, List.length_drop, List.length_drop]
      have hRR := hd_ (And.intro hRu2 (And.intro hR hRl))
      have hDH := hd_ hD
      have hRuH := hd_ hRu
      obtain ⟨A2, cap2, rfl, _⟩ := hRu2.form
      clear hu0 hu20 hR hRl hRu hRu2 hD
      by_cases hc1 : er = 0
      · subst hc1
        by_cases hc2 : 1152921504606846976 < q
        · have hc2I : (1152921504606846976 : Int) < (q : Int) := by omega
          have hno := hd_ (load_no2 hDH.out (.inr (.inl hc2I)))
          go_enter Try.func31, Try.ntmps31
          go_wp2_with (go_at_call 43; (with_reducible refine (leb_Decode_any _ _ _ hRuH.out).mono ?_); rintro e w1 ⟨rfl, rfl⟩; rw [hDH.out])
          exact bodyPost_ret (results_tmp2 rfl _ _ _) rfl (.inl ⟨hno.out, rfl, Below.refl _ _⟩)
        · have hc2I : ¬ ((1152921504606846976 : Int) < (q : Int)) := by omega
          have wl : IntKind.u64.wrap (R.length : Int) = (R.length : Int) := by rw [IntKind.wrap_u64]; have := hLH.out.2; have := hRR.out.2.2; omega
          by_cases hc3 : R.length = 32 + q % 64
          · have hc3I : 32 + (q : Int) % 64 = (R.length : Int) := by omega
            have h32 := hd_ (show 32 ≤ R.length by omega)
            have hRl32 := hd_ (show ([] : List Int).length + (R.drop 32).length ≤ 140737488355328 by rw [List.length_drop]; have := hLH.out.2; have := hRR.out.2.2; simp only [List.length_nil]; omega)
            have hyes := load_yes hok.out hDH.out (by
              rw [Int.toNat_natCast, Int.toNat_natCast, ← hRR.out.2.1]
              rintro (h | h)
              · exact hc2I h
              · exact h hc3)
            rw [Int.toNat_natCast, Int.toNat_natCast, ← hRR.out.2.1] at hyes
            have hY := hd_ hyes
            obtain ⟨u3, hu30, hRu3⟩ := hRR.out.1.sl_l Try.underlying34 infoB 32 h32.out
            have hu3 : ∀ W, (Instr.slice 34 (.slice A2 R.length cap2) (some (.int .i64 32)) none none).run Try.prog W = .ok u3 W := hu30
            have hR3 := hd_ hRu3
            have hc3H := hd_ hc3
            clear hu30 hRu3 hyes hc3
            generalize R.drop 32 = R3 at *
            go_enter Try.func31, Try.ntmps31
            go_upto_region 8 with (first
              | (go_at_call 43; (with_reducible refine (leb_Decode_any _ _ _ hRuH.out).mono ?_); rintro e w1 ⟨rfl, rfl⟩; rw [hDH.out])
              | (at_builtin; (refine app_bytes (w0 := w) w.heap.size rfl _ _ 34 5 rfl Try.underlying34 infoB _ u3 [] R3 rfl rfl (own_nil8 _ _ _) hR3.out (Below.refl _ _) (Nat.le_refl _) hRl32.out ?_); intro v3 w3 HO3 HB3 hg3 hat3; rw [List.nil_append] at HO3; obtain ⟨A3, c3, rfl, hx3⟩ := HO3.rd.form; clear hx3))
            have hE : ∀ cs, cs = hsC (ldW R 0) (.slice A3 R3.length c3) (q : Int) → Hs (w3.alloc (.cells cs 50)) w3.heap.size (ldW R 0) (.slice A3 R3.length c3) R3 q := fun cs h => by
              subst h
              exact ⟨Box.new _ _ _, (own_low HO3).keep (al1 (Below.refl _ _) _), ldW_length R 0, fun e => by have := (own_lt HO3 _ e).2; omega⟩
            have hH0 := hd_ (hE _ rfl)
            have hB0 := hd_ (al1 HB3 (.cells (hsC (ldW R 0) (.slice A3 R3.length c3) (q : Int)) 50))
            have hg0 := hd_ HB3.size
            have hvo := hd_ (fun k (e : (Value.slice A3 R3.length c3).ownBlock = some k) => (own_lt HO3 k e).1)
            have hEq : hsC (ldW R 0) (.slice A3 R3.length c3) (q : Int) = #[.int .u32 0, .int .u32 0, .int .u32 0, .int .u32 0, .int .u32 0, .int .u32 0, .int .u32 0, .int .u32 0, .slice A3 R3.length c3, .int .u64 (q : Int), .bool true] := rfl
            rw [← hEq]
            generalize w3.alloc (.cells (hsC (ldW R 0) (.slice A3 R3.length c3) (q : Int)) 50) = W0 at *
            have hHs := hH0.out
            obtain ⟨g, hg⟩ : ∃ g, g = w3.heap.size := ⟨_, rfl⟩
            rw [← hg] at hHs hg0 ⊢
            have hq := hd_ (And.intro hHs (And.intro hB0.out hg0.out))
            clear hE HO3 HB3 hg3 hat3 hEq hH0 hB0 hg0 hg hHs
            generalize (Value.slice A3 R3.length c3) = v3 at *
            go_wp2
            go_loopw [59] (fun vi wr => ∃ i : Nat, i ≤ 8 ∧ vi = .int .i64 i ∧ Hs wr g (ldW R (4 * i)) v3 R3 q ∧ Below w.heap.size w wr) (fun vi _ => 8 - (intOf vi).toNat)
            case atStart => exact ⟨0, Nat.zero_le _, rfl, hq.out.1, hq.out.2.1⟩
            case round =>
              obtain ⟨i, hi, rfl, hHi, hBi⟩ := hrel
              by_cases hlt : i < 8
              · have hiI : (i : Int) < 8 := by omega
                have hw0 : wrap64 (4 * (i : Int)) = 4 * (i : Int) := by unfold wrap64; omega
                have hw1 : wrap64 (4 * (i : Int) + 4) = 4 * (i : Int) + 4 := by unfold wrap64; omega
                obtain ⟨u4, hu40, hRu4⟩ := hRR.out.1.sl Try.underlying34 infoB (4 * i) (4 * i + 4) (by omega) (by have := h32.out; omega)
                have hu4 : ∀ W, (Instr.slice 34 (.slice A2 R.length cap2) (some (.int .i64 (4 * (i : Int)))) (some (.int .i64 (4 * (i : Int) + 4))) none).run Try.prog W = .ok u4 W := fun W => by
                  have := hu40 W
                  rw [show ((4 * i + 4 : Nat) : Int) = 4 * (i : Int) + 4 by omega, show ((4 * i : Nat) : Int) = 4 * (i : Int) by omega] at this
                  exact this
                obtain ⟨D4, hD4⟩ : ∃ D, D = (R.take (4 * i + 4)).drop (4 * i) := ⟨_, rfl⟩
                rw [← hD4] at hRu4
                have hl4 : D4.length = 4 := by rw [hD4, List.length_drop, List.length_take]; have := h32.out; omega
                have hg4 := hd_ (fun (j : Nat) (hj : j < 4) => show D4.getD j 0 = R.getD (4 * i + j) 0 by
                  rw [hD4, List.getD_eq_getElem?_getD, List.getElem?_drop, List.getElem?_take, if_pos (by omega), ← List.getD_eq_getElem?_getD])
                have hl4I : (D4.length : Int) = 4 := by omega
                have hR4 := hd_ hRu4
                obtain ⟨A4, c4, rfl, _⟩ := hRu4.form
                have hl4H := hd_ hl4
                clear hu40 hRu4 hD4 hl4
                have hHi' := hd_ (And.intro hHi hBi)
                clear hHi hBi
                go_upto_region 12 with fail
                go_loopw [70] (fun vj wr => ∃ j : Nat, j ≤ 4 ∧ vj = .int .i64 j ∧ Hs wr g (ldW R (4 * i + j)) v3 R3 q ∧ Below w.heap.size w wr) (fun vj _ => 4 - (intOf vj).toNat)
                case atStart => exact ⟨0, Nat.zero_le _, rfl, hHi'.out.1, hHi'.out.2⟩
                case round =>
                  clear hHi'
                  obtain ⟨j, hj, rfl, hHj, hBj⟩ := hrel
                  by_cases hltj : j < 4
                  · have hjI : (j : Int) < 4 := by omega
                    obtain ⟨A5, c5, h5, _, _, _, h6⟩ := (hR4.out.keep hBj).form
                    injection h5 with e1 e2 e3
                    obtain ⟨b4, o4, hA4, hc4⟩ := h6 j (by have := hl4H.out; omega)
                    rw [hg4.out j hltj] at hc4
                    rw [← e1] at hA4
                    obtain ⟨y0, y1⟩ := byte_at hRR.out.1.1 (show 4 * i + j < R.length by have := h32.out; omega)
                    have hst := hd_ (show ldW R (4 * i + (j + 1)) = (ldW R (4 * i + j)).set i ((((ldW R (4 * i + j)).getD i 0#32) <<< 8) ||| b32 (R.getD (4 * i + j) 0)) by
                      rw [← Nat.add_assoc, ldW, show (4 * i + j) / 4 = i by omega])
                    have h8 := hHj.2.2.1
                    have cw := hHj.1.cell i (hsC_word h8 hlt)
                    unfold wv at cw
                    have hHB := hd_ (And.intro hHj hBj)
                    clear hHj hBj h6 e1 e2 e3
                    subst hA4
                    generalize (ldW R (4 * i + j)).getD i 0#32 = x at *
                    generalize R.getD (4 * i + j) 0 = yb at *
                    have hyy := hd_ (And.intro y0 y1)
                    clear y0 y1
                    go_upto_region 14 with fail
                    go_still_tail 15, (by kernel_rfl)
                    have HB3 := hd_ (Below.drew (Below.refl wr.heap.size wr))
                    change wpList _ _ _ _ _ wr.drew
                    generalize wr.drew = W3 at *
                    have hH3 := hHB.out.1.keep HB3.out
                    have f3 := hH3.1.frozen i
                    have cw3 := hH3.1.cell i (hsC_word h8 hlt)
                    unfold wv at cw3
                    go_wp2
                    have hv := ld_or x hyy.out.1 hyy.out.2
                    rw [hv]
                    obtain ⟨p4, g4⟩ := hH3.1.put i (wv ((x <<< 8) ||| b32 yb))
                    rw [hsC_set h8 hlt, ← hst.out] at p4
                    have hgne : ∀ kk, v3.ownBlock = some kk → ¬ (some kk = some g) := fun kk hkk e => hH3.2.2.2 (by rw [hkk, e])
                    refine ⟨⟨j + 1, hltj, by go_num, ⟨p4, hH3.2.1.chg (Chg.of g4) hgne, ldW_length _ _, hH3.2.2.2⟩, below_row (bel_trans hHB.out.2 HB3.out) g4 hq.out.2.2 (Nat.le_trans hHB.out.2.size HB3.out.size)⟩, by simp [intOf]; omega⟩
                  · obtain rfl : j = 4 := by omega
                    have hHB := hd_ (And.intro hHj hBj)
                    clear hHj hBj
                    go_wp2
                    go_roundw
                    case rel => exact ⟨i + 1, hlt, by go_num, by rw [Nat.mul_add]; exact hHB.out.1, hHB.out.2⟩
                    case measure => (simp [intOf]; try omega)
              · obtain rfl : i = 8 := by omega
                have hHB := hd_ (And.intro hHi hBi)
                clear hHi hBi
                go_wp2
                refine bodyPost_ret (results_tmp2 rfl _ _ _) rfl (.inr ⟨_, _, _, g, v3, hY.out, rfl, hHB.out.1, hq.out.2.2, fun kk e => hvo.out kk e, hHB.out.2⟩)
          · have hc3I : ¬ ((R.length : Int) = 32 + (q : Int) % 64) := by omega
            have hc3B : ((R.length : Int) == 32 + (q : Int) % 64) = false := beq_false_of_ne hc3I
            have hcN : ((R.length : Int) != 32 + (q : Int) % 64) = true := by unfold bne; rw [hc3B]; rfl
            have hwq : IntKind.u64.wrap (32 + (q : Int) % 64) = 32 + (q : Int) % 64 := by rw [IntKind.wrap_u64]; omega
            have hwq2 : (32 + (q : Int) % 64) % 18446744073709551616 = 32 + (q : Int) % 64 := by omega
            have hc3J : ((32 + (q : Int) % 64) == (R.length : Int)) = false := by simp; omega
            have hno := hd_ (load_no2 hDH.out (.inr (.inr (by rw [Int.toNat_natCast, Int.toNat_natCast, ← hRR.out.2.1]; exact hc3))))
            clear hc3
            go_enter Try.func31, Try.ntmps31
            go_upto_region 5 with (go_at_call 43; (with_reducible refine (leb_Decode_any _ _ _ hRuH.out).mono ?_); rintro e w1 ⟨rfl, rfl⟩; rw [hDH.out])
            go_wp2
            exact bodyPost_ret (results_tmp2 rfl _ _ _) rfl (.inl ⟨hno.out, rfl, Below.refl _ _⟩)
      · have hno := hd_ (load_no2 hDH.out (.inl hc1))
        go_enter Try.func31, Try.ntmps31
        go_wp2_with (go_at_call 43; (with_reducible refine (leb_Decode_any _ _ _ hRuH.out).mono ?_); rintro e w1 ⟨rfl, rfl⟩; rw [hDH.out])
        exact bodyPost_ret (results_tmp2 rfl _ _ _) rfl (.inl ⟨hno.out, rfl, Below.refl _ _⟩)
    · have hno := hd_ (load_no1 (l := l) (.inr (.inr (by rw [← hxH.out.2]; exact h1))))
      go_enter Try.func31, Try.ntmps31
      go_wp2
      exact bodyPost_ret (results_tmp2 rfl _ _ _) rfl (.inl ⟨hno.out, rfl, Below.refl _ _⟩)
  · have hno := hd_ (load_no1 (l := l) (.inr (.inl (by rw [← hxH.out.1]; exact h0))))
    go_enter Try.func31, Try.ntmps31
    go_wp2
    exact bodyPost_ret (results_tmp2 rfl _ _ _) rfl (.inl ⟨hno.out, rfl, Below.refl _ _⟩)
end Go.Proofs.Ytcaljnlicohkaaa
