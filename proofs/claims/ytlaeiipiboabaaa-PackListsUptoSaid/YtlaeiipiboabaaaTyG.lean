/- The law PackLists. -/
import Derived.Test.YtlaeiipiboabaaaTyF
import Derived.Test.YtlaeiipiboabaaaTxF
namespace Go.Proofs.Ytlaeiipiboabaaa
open Go.RowKit
set_option maxRecDepth 100000
set_option linter.unusedVariables false
theorem risesS_size : ∀ (l : List ByteArray) (f : Bool) (a : ByteArray), risesS l f a = true → ∀ s ∈ l, s.size ≤ 65536
  | [], _, _, _, s, hs => by cases hs
  | t :: r, f, a, h, s, hs => by
    unfold risesS at h
    rw [Bool.and_eq_true, Bool.and_eq_true, decide_eq_true_eq] at h
    rcases List.mem_cons.1 hs with h1 | h1
    · rw [h1]; exact h.1.1
    · exact risesS_size r false t h.2 s h1
theorem sum_bulkT : ∀ l : List ByteArray, sumS l + l.length = (l.map fun s => s.size + 1).sum
  | [] => rfl
  | s :: r => by
    have := sum_bulkT r
    simp only [sumS, List.length_cons, List.map_cons, List.sum_cons]
    omega
theorem sumS_mem : ∀ (l : List ByteArray), ∀ s ∈ l, s.size ≤ sumS l
  | t :: r, s, hs => by
    unfold sumS
    rcases List.mem_cons.1 hs with h1 | h1
    · rw [h1]; omega
    · have := sumS_mem r s h1; omega
theorem and_ff {a b c : Bool} (h : (a && b) = c) (ha : a = false) : c = false := by rw [← h, ha]; rfl
set_option maxHeartbeats 8000000 in
theorem law_PackLists (w : World) (v : Value) (l : List ByteArray) (r : RSl 1 16 RStr w [v] l) (t : (l.map (fun s => s.size + 1)).sum + 1 ≤ 1048576) (y : Value) (B : List Int) (HB : Rd w y B) (hlB : B.length ≤ 140737488351232) (tB : B.length ≤ 1048576) :
    Calls Try.prog 11 #[v, y] w fun e w' => e = .returned (.bool true) ∧ Below w.heap.size w w' := by
  obtain ⟨HR, hs, hl⟩ := rds_rsl r
  clear r
  have hsb := sum_bulkT l
  have hlen : ∀ W, Sem.run Try.prog (Builtin.len_ #[28] 3 #[v]) W = .ok (.int .i64 (l.length : Int)) W := RdC.len (P := Try.prog) HR 28 9 3 Try.underlying28
  have hRH := hd_ HR
  have hbd := hd_ (show sumS l + l.length ≤ 1048576 by omega)
  have hss := hd_ (sumS_mem l)
  have hP := hd_ (fun W u (h : RdS W u l) => P_Texts_any u l W h hs (by omega))
  have hIn := hd_ (And.intro HB hlB)
  have hBb := hd_ HB.1
  have hlI : (l.length : Int) ≤ 1048576 := by omega
  have hSame := hd_ (fun W v u l (h1 : Rd W v l) (h2 : Rd W u l) => show Calls Try.prog 19 #[v, u] W (fun e w' => e = .returned (.bool true) ∧ W = w') from (Same_any v u l l W h1 h2).mono (by rintro e w' ⟨h1, h2⟩; exact ⟨by rw [h1, decide_eq_true rfl], h2⟩))
  obtain ⟨R0, hR0⟩ : ∃ R0, R0 = risesS l true ⟨#[]⟩ := ⟨_, rfl⟩
  have hRz := hd_ hR0
  clear hs hl HR t hsb HB hlB hR0
  go_enter Try.func11, Try.ntmps11
  go_upto_region 3 with fail
  go_loopw [5, 6, 21] (fun vr vall vi wr => ∃ (k m all : Nat) (rk : Bool) (ahead : ByteArray), k ≤ l.length ∧ vr = .bool rk ∧ vall = .int .i64 (all : Int) ∧ vi = .int .i64 (k : Int) ∧ wr = w.drewN m ∧ (rk && risesS (l.drop k) (decide (k = 0)) ahead) = R0 ∧ all + sumS (l.drop k) = sumS l ∧ (∀ p, k = p + 1 → l[p]? = some ahead)) (fun _ _ vi _ => l.length - (intOf vi).toNat)
  case atStart => exact ⟨0, 0, 0, true, ⟨#[]⟩, Nat.zero_le _, rfl, rfl, rfl, rfl, by rw [List.drop_zero, Bool.true_and]; exact hRz.out.symm, by rw [List.drop_zero, Nat.zero_add], fun p h => by omega⟩
  case round =>
    obtain ⟨k, m, all, rk, ahead, hk, rfl, rfl, rfl, rfl, hT, hA, hpr⟩ := hrel
    by_cases hlt : k < l.length
    · have hkI : (k : Int) < (l.length : Int) := by omega
      obtain ⟨bl, off, hix, hcell0⟩ := hRH.out.at k hlt
      have hss1 := hss.out _ (List.getElem_mem hlt)
      rw [List.drop_eq_getElem_cons hlt] at hT hA
      have hget : l[k]? = some l[k] := List.getElem?_eq_getElem hlt
      generalize l[k] = s at *
      have hcell : (w.drewN m).cell? ⟨bl, off, none⟩ = some (.string s) := cell_keep (below_drewN (Below.refl _ _) m) hcell0
      have hgetH := hd_ hget
      have hkx := hd_ hlt
      unfold risesS at hT
      have hA : all + (s.size + sumS (l.drop (k + 1))) = sumS l := hA
      obtain ⟨al2, hal2⟩ : ∃ al2, al2 = all + s.size := ⟨_, rfl⟩
      have hb := hbd.out
      have hA2 := hd_ (show al2 + sumS (l.drop (k + 1)) = sumS l by omega)
      have hb9 : all + s.size ≤ 1000000000 := by omega
      have hall1 : wrap64 ((all : Int) + (s.size : Int)) = (al2 : Int) := by rw [hal2]; exact wrap_addN all s.size hb9
      have hall2 : IntKind.i64.wrap ((all : Int) + (s.size : Int)) = (al2 : Int) := by rw [hal2]; exact wrap_addK all s.size hb9
      have hk9 : k ≤ 1000000000 := by omega
      have hI1 : (Value.int IntKind.i64 (wrap64 ((k : Int) + 1))) = .int .i64 ((k : Int) + 1) := congrArg _ (wrap_add1 k hk9)
      generalize hWd : w.drewN m = Wd at *
      have hWH := hd_ hWd
      have hprH := hd_ hpr
      clear hWd hb hA hcell0 hss1 hget hpr hal2 hb9 hk9 hk
      by_cases hrk : rk = true
      · subst hrk
        by_cases hS : s.size ≤ 65536
        · have hSd : decide (s.size ≤ 65536) = true := decide_eq_true hS
          have hSI : (s.size : Int) ≤ 65536 := by omega
          rw [hSd] at hT
          by_cases hk0 : k = 0
          · have hkz : ((k : Int) == 0) = true := by rw [beq_iff_eq]; omega
            have hkd : decide (k = 0) = true := decide_eq_true hk0
            rw [hkd] at hT
            have hTH := hd_ hT
            clear hT hSd hS hkd hk0
            go_upto_region 5 with fail
            go_quiet (fail)
            go_upto_region 6 with fail
            first | go_wp2 | skip
            go_roundw
            case rel => exact ⟨k + 1, _, al2, true, s, hkx.out, rfl, rfl, by first | rfl | (rw [hI1]; rfl), by rw [← hWH.out]; first | rfl | simp; rfl, by rw [decide_eq_false (by omega)]; exact hTH.out, hA2.out, fun p h => by have h2 : p = k := (by omega); rw [h2]; exact hgetH.out⟩
            case measure => first | (rw [hI1]; exact meas_k1t _ _ hkx.out) | exact meas_k1t _ _ hkx.out
          · have hkz : ((k : Int) == 0) = false := by rw [beq_eq_false_iff_ne]; omega
            have hkd : decide (k = 0) = false := decide_eq_false hk0
            rw [hkd] at hT
            obtain ⟨p, hp⟩ : ∃ p, p = k - 1 := ⟨_, rfl⟩
            have hplt : p < l.length := by have := hkx.out; omega
            have hpa := hprH.out p (by omega)
            obtain ⟨bl1, off1, hix1, hcell1⟩ := hRH.out.at p hplt
            rw [List.getElem?_eq_getElem hplt] at hpa
            injection hpa with hpa
            rw [hpa] at hcell1
            have hcell1 : Wd.cell? ⟨bl1, off1, none⟩ = some (.string ahead) := by rw [← hWH.out]; exact cell_keep (below_drewN (Below.refl _ _) m) hcell1
            have hpw : wrap64 ((k : Int) - 1) = (p : Int) := by have := hkx.out; unfold wrap64; omega
            have hpw3 : (k : Int) - 1 = (p : Int) := by omega
            have hTH := hd_ (show ((!lq s ahead) && risesS (l.drop (k + 1)) (decide (k + 1 = 0)) s) = R0 from by rw [decide_eq_false (by omega)]; exact hT)
            have hql := hd_ (lq_less ahead s)
            clear hT hSd hS hkd hk0 hpa hp hplt
            go_upto_region 5 with fail
            go_quiet (fail)
            go_upto_region 6 with fail
            first | go_wp2 | skip
            go_roundw
            case rel => exact ⟨k + 1, _, al2, _, s, hkx.out, rfl, rfl, by first | rfl | (rw [hI1]; rfl), by rw [← hWH.out]; first | rfl | simp; rfl, by rw [hql.out]; exact hTH.out, hA2.out, fun p h => by have h2 : p = k := (by omega); rw [h2]; exact hgetH.out⟩
            case measure => first | (rw [hI1]; exact meas_k1t _ _ hkx.out) | exact meas_k1t _ _ hkx.out
        · have hSd : decide (s.size ≤ 65536) = false := decide_eq_false hS
          have hSI : ¬ (s.size : Int) ≤ 65536 := by omega
          rw [hSd] at hT
          have hTH := hd_ (show R0 = false from hT.symm)
          clear hT hSd hS
          go_upto_region 5 with fail
          go_quiet (fail)
          go_upto_region 6 with fail
          first | go_wp2 | skip
          go_roundw
          case rel => exact ⟨k + 1, _, al2, false, s, hkx.out, rfl, rfl, by first | rfl | (rw [hI1]; rfl), by rw [← hWH.out]; first | rfl | simp; rfl, hTH.out.symm, hA2.out, fun p h => by have h2 : p = k := (by omega); rw [h2]; exact hgetH.out⟩
          case measure => first | (rw [hI1]; exact meas_k1t _ _ hkx.out) | exact meas_k1t _ _ hkx.out
      · obtain rfl : rk = false := by simpa using hrk
        have hTH := hd_ (show R0 = false from hT.symm)
        clear hT hrk
        go_upto_region 5 with fail
        go_quiet (fail)
        go_upto_region 6 with fail
        first | go_wp2 | skip
        go_roundw
        case rel => exact ⟨k + 1, _, al2, false, s, hkx.out, rfl, rfl, by first | rfl | (rw [hI1]; rfl), by rw [← hWH.out]; first | rfl | simp; rfl, hTH.out.symm, hA2.out, fun p h => by have h2 : p = k := (by omega); rw [h2]; exact hgetH.out⟩
        case measure => first | (rw [hI1]; exact meas_k1t _ _ hkx.out) | exact meas_k1t _ _ hkx.out
    · obtain rfl : k = l.length := by omega
      rw [List.drop_length] at hT hA
      have hrR : rk = R0 := by rw [← hT]; cases rk <;> rfl
      have hall : all = sumS l := by rw [← hA]; rfl
      subst hrR
      subst hall
      have hok := hd_ (show (txA l).1 = 0 ↔ rk = true from by
        rw [txA_ok, hRz.out]
        have := hbd.out
        exact ⟨fun h => h.1.2, fun h => ⟨⟨by omega, h⟩, by omega⟩⟩)
      have hsI : ((sumS l : Nat) : Int) ≤ 268435456 := by have := hbd.out; omega
      have hrsz := hd_ (show rk = true → ∀ s ∈ l, s.size ≤ 65536 from fun h => risesS_size l _ _ (by rw [← hRz.out]; exact h))
      have hback := hd_ (fun M (h : txA l = (0, M)) => opA_txA h)
      have hPc := hd_ (hP.out (w.drewN m) v (hRH.out.keep (below_drewN (Below.refl _ _) m)))
      have hSl := hd_ (fun W a b (h1 : RdS W a l) (h2 : RdS W b l) => same_true a b l W h1 h2 (by have := hbd.out; omega))
      have hB0 := hd_ (below_drewN (Below.refl w.heap.size w) m)
      have hHR := hd_ (fun W (h : Below w.heap.size w W) => hRH.out.keep h)
      have hlB2 := hd_ (txA_len l)
      obtain ⟨E, M, hA1⟩ : ∃ E M, txA l = (E, M) := ⟨_, _, rfl⟩
      have hbk := hd_ (show E = 0 → opA M = (0, l) from fun h => hback.out M (by rw [hA1, h]))
      have hE := hd_ (show E = 0 ↔ rk = true from by have := hok.out; rw [hA1] at this; exact this)
      rw [hA1] at hPc hlB2
      have hPd := hd_ (show Calls Try.prog 17 #[v] (w.drewN m) (fun e w' => ∃ x, e = .returned (.tuple #[x, .int .i64 E]) ∧ Own w' (w.drewN m).heap.size 5 x M ∧ Below (w.drewN m).heap.size (w.drewN m) w') from hPc.out)
      have hMl := hd_ (show M.length ≤ 300000000 from hlB2.out)
      clear hPc hA1 hback hok hA hT hpr hk hlt hRH hP hss hbd hRz hlB2
      generalize w.drewN m = Wd at *
      have hBR : ∀ W, Below w.heap.size w W → Hid (Calls Try.prog 33 #[y] W (OpRet W (opA B))) := fun W h => hd_ (P_Open_any y B W (hIn.out.1.keep h) (by have := hIn.out.2; omega))
      have hBR := hd_ hBR
      have hBc := hd_ (opA_cases hBb.out)
      have hBk := hd_ (fun l2 (h : opA B = (0, l2)) => txA_opA hBb.out h)
      obtain ⟨E2, M2, hA2⟩ : ∃ E2 M2, opA B = (E2, M2) := ⟨_, _, rfl⟩
      rw [hA2] at hBR hBc
      have hBk2 := hd_ (show E2 = 0 → txA M2 = (0, B) from fun h => hBk.out M2 (by rw [hA2, h]))
      clear hA2 hBk
      have hTail := hd_ (fun W (hW : Below w.heap.size w W) => hBR.out W hW)
      by_cases hE0 : E = 0
      · subst hE0
        obtain rfl := hE.out.1 rfl
        have hop := hd_ (hbk.out rfl)
        go_upto_region 15 with (first
          | (go_at_call 17; (with_reducible refine hPd.out.mono ?_); rintro e w2 ⟨u2, rfl, HO2, HB2⟩; have hB02 := bel_trans hB0.out HB2; have hOc : Calls Try.prog 33 #[u2] w2 (OpRet w2 (0, l)) := (by have := P_Open_any u2 M w2 HO2.rd (by have := hMl.out; omega); rw [hop.out] at this; exact this))
          | (go_at_call 33; (with_reducible refine hOc.mono ?_); rintro e w3 ⟨u3, rfl, HS3, HB3⟩; have hB03 := bel_trans hB02 HB3; have hSc := hSl.out w3 u3 v HS3 (hHR.out w3 hB03))
          | (go_at_call 20; (with_reducible refine hSc.mono ?_); rintro e w4 ⟨rfl, m4, rfl⟩))
        have hB4 := hd_ (below_drewN hB03 m4)
        clear hOc hSc HO2 HB2 hB02 HS3 HB3 hB03 hop
        generalize w3.drewN m4 = w5 at *
        have hTc := hd_ (hTail.out w5 hB4.out).out
        have hTc := hTc.out
        by_cases h20 : E2 = 0
        · subst h20
          have hM2 := hBk2.out rfl
          have hm2 : M2.length ≤ 1048576 := by
            rcases hBc.out with h | h
            · exact absurd rfl h.1
            · exact h.2
          have hz2 : ∀ s ∈ M2, s.size ≤ 65536 := risesS_size M2 _ _ ((txA_ok M2).1 (by rw [hM2])).1.2
          have hT2 := hd_ (fun W u (h : RdS W u M2) => show Calls Try.prog 17 #[u] W (fun e w' => ∃ x, e = .returned (.tuple #[x, .int .i64 0]) ∧ Own w' W.heap.size 5 x B ∧ Below W.heap.size W w') from by have := P_Texts_any u M2 W h (fun s hs => Nat.le_trans (hz2 s hs) (by decide)) (Nat.le_trans hm2 (by decide)); rw [hM2] at this; exact this)
          have hTc := hd_ (show Calls Try.prog 33 #[y] w5 (fun e w' => ∃ u, e = .returned (.tuple #[u, .int .i64 0]) ∧ RdS w' u M2 ∧ Below w5.heap.size w5 w') from hTc)
          clear hM2 hm2 hz2
          go_wp2_with (first
            | (go_at_call 33; (with_reducible refine hTc.out.mono ?_); rintro e w6 ⟨u6, rfl, HS6, HB6⟩; have hT7 := hT2.out w6 u6 HS6; have hB06 := bel_trans hB4.out HB6)
            | (go_at_call 17; (with_reducible refine hT7.mono ?_); rintro e w7 ⟨u7, rfl, HO7, HB7⟩; have hB07 := bel_trans hB06 HB7; have hSm := hSame.out w7 u7 y B HO7.rd (hIn.out.1.keep hB07))
            | (go_at_call 19; (with_reducible refine hSm.mono ?_); rintro e w8 ⟨rfl, rfl⟩))
          go_ret
          exact ⟨rfl, hB07⟩
        · have h2B : (E2 == 0) = false := by rw [beq_eq_false_iff_ne]; exact h20
          have hm2 : M2 = [] := by
            rcases hBc.out with h | h
            · exact h.2
            · exact absurd h.1 h20
          subst hm2
          have hTc := hd_ (show Calls Try.prog 33 #[y] w5 (fun e w' => ∃ u, e = .returned (.tuple #[u, .int .i64 E2]) ∧ RdS w' u [] ∧ Below w5.heap.size w5 w') from hTc)
          go_wp2_with (go_at_call 33; (with_reducible refine hTc.out.mono ?_); rintro e w6 ⟨u6, rfl, HS6, HB6⟩; have hl6 : ∀ W, Sem.run Try.prog (Builtin.len_ #[28] 3 #[u6]) W = .ok (.int .i64 ((0 : Nat) : Int)) W := RdC.len (P := Try.prog) HS6 28 9 3 Try.underlying28)
          go_ret
          exact ⟨rfl, bel_trans hB4.out HB6⟩
      · have hEB : (E == 0) = false := by rw [beq_eq_false_iff_ne]; exact hE0
        obtain rfl : rk = false := by
          cases rk
          · rfl
          · exact absurd (hE.out.2 rfl) hE0
        go_upto_region 15 with (go_at_call 17; (with_reducible refine hPd.out.mono ?_); rintro e w5 ⟨u2, rfl, HO2, HB2⟩)
        have hB4 := hd_ (bel_trans hB0.out HB2)
        clear HO2 HB2
        have hTc := hd_ (hTail.out w5 hB4.out).out
        have hTc := hTc.out
        by_cases h20 : E2 = 0
        · subst h20
          have hM2 := hBk2.out rfl
          have hm2 : M2.length ≤ 1048576 := by
            rcases hBc.out with h | h
            · exact absurd rfl h.1
            · exact h.2
          have hz2 : ∀ s ∈ M2, s.size ≤ 65536 := risesS_size M2 _ _ ((txA_ok M2).1 (by rw [hM2])).1.2
          have hT2 := hd_ (fun W u (h : RdS W u M2) => show Calls Try.prog 17 #[u] W (fun e w' => ∃ x, e = .returned (.tuple #[x, .int .i64 0]) ∧ Own w' W.heap.size 5 x B ∧ Below W.heap.size W w') from by have := P_Texts_any u M2 W h (fun s hs => Nat.le_trans (hz2 s hs) (by decide)) (Nat.le_trans hm2 (by decide)); rw [hM2] at this; exact this)
          have hTc := hd_ (show Calls Try.prog 33 #[y] w5 (fun e w' => ∃ u, e = .returned (.tuple #[u, .int .i64 0]) ∧ RdS w' u M2 ∧ Below w5.heap.size w5 w') from hTc)
          clear hM2 hm2 hz2
          go_wp2_with (first
            | (go_at_call 33; (with_reducible refine hTc.out.mono ?_); rintro e w6 ⟨u6, rfl, HS6, HB6⟩; have hT7 := hT2.out w6 u6 HS6; have hB06 := bel_trans hB4.out HB6)
            | (go_at_call 17; (with_reducible refine hT7.mono ?_); rintro e w7 ⟨u7, rfl, HO7, HB7⟩; have hB07 := bel_trans hB06 HB7; have hSm := hSame.out w7 u7 y B HO7.rd (hIn.out.1.keep hB07))
            | (go_at_call 19; (with_reducible refine hSm.mono ?_); rintro e w8 ⟨rfl, rfl⟩))
          go_ret
          exact ⟨rfl, hB07⟩
        · have h2B : (E2 == 0) = false := by rw [beq_eq_false_iff_ne]; exact h20
          have hm2 : M2 = [] := by
            rcases hBc.out with h | h
            · exact h.2
            · exact absurd h.1 h20
          subst hm2
          have hTc := hd_ (show Calls Try.prog 33 #[y] w5 (fun e w' => ∃ u, e = .returned (.tuple #[u, .int .i64 E2]) ∧ RdS w' u [] ∧ Below w5.heap.size w5 w') from hTc)
          go_wp2_with (go_at_call 33; (with_reducible refine hTc.out.mono ?_); rintro e w6 ⟨u6, rfl, HS6, HB6⟩; have hl6 : ∀ W, Sem.run Try.prog (Builtin.len_ #[28] 3 #[u6]) W = .ok (.int .i64 ((0 : Nat) : Int)) W := RdC.len (P := Try.prog) HS6 28 9 3 Try.underlying28)
          go_ret
          exact ⟨rfl, bel_trans hB4.out HB6⟩
end Go.Proofs.Ytlaeiipiboabaaa
