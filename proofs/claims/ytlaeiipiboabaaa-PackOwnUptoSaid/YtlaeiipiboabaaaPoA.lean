/- The law PackOwn (bounded). -/
import Derived.Test.YtlaeiipiboabaaaOwD
import Derived.Test.YtlaeiipiboabaaaMwB
import Derived.Test.YtlaeiipiboabaaaMwC
import Derived.Test.YtlaeiipiboabaaaPlA
namespace Go.Proofs.Ytlaeiipiboabaaa
open Go.RowKit
set_option maxRecDepth 100000
set_option linter.unusedVariables false
/-- both writers, and two lists that were answered -/
def Po (w0 W : World) (g h : Nat) (v u : Value) (s : WS) (a b : Value) (L : List Int) : Prop :=
  Bw W g h v u s ∧ (∀ k, bwS g h v u k → w0.heap.size ≤ k) ∧ Below w0.heap.size w0 W ∧ Own W w0.heap.size 5 a L ∧ Own W w0.heap.size 5 b L ∧ (∀ k, bwS g h v u k → a.ownBlock ≠ some k ∧ b.ownBlock ≠ some k) ∧ (∀ k, a.ownBlock = some k → b.ownBlock ≠ some k)
section
variable {w0 W W1 : World} {g h : Nat} {v u : Value} {s s1 : WS} {a b : Value} {L : List Int}
theorem Po.keep (t : Po w0 W g h v u s a b L) (hb : Below W.heap.size W W1) : Po w0 W1 g h v u s a b L :=
  ⟨t.1.keep hb, t.2.1, bel_trans t.2.2.1 hb, t.2.2.2.1.keep hb, t.2.2.2.2.1.keep hb, t.2.2.2.2.2⟩
theorem Po.step (t : Po w0 W g h v u s a b L) (p : BwPost W g h v u s1 W1) : ∃ v' u', Po w0 W1 g h v' u' s1 a b L := by
  obtain ⟨t1, t2, t3, t4, t5, t6, t7⟩ := t
  obtain ⟨v', u', q, hC, hk⟩ := p
  refine ⟨v', u', q, fun k h1 => ?_, hC.then t3 t2 t3.size, t4.chg hC (fun k e h1 => (t6 k h1).1 e), t5.chg hC (fun k e h1 => (t6 k h1).2 e), fun k h1 => ?_, t7⟩
  · rcases hk k h1 with e | e
    · exact t2 k e
    · exact Nat.le_trans t3.size e
  · rcases hk k h1 with e | e
    · exact t6 k e
    · exact ⟨fun e2 => by have := (own_lt t4 k e2).2; omega, fun e2 => by have := (own_lt t5 k e2).2; omega⟩
end
theorem leb300 : lebB 300 = [172, 2] := by
  rw [lebB_hi (by decide), lebB_lo (by decide)]
  rfl
theorem wu300 : wUint (0, []) ((300 : Nat) : Int) = (0, [172, 2]) := by
  unfold wUint wLay
  rw [if_pos rfl, Int.toNat_natCast, leb300]
  rfl
theorem own_baseP {W : World} {b b2 : Nat} {e : TypeId} {v : Value} {xs : List Int} (h : Own W b e v xs) (hb : b2 ≤ b) : Own W b2 e v xs := ⟨h.1, row_base h.2 hb⟩
set_option maxHeartbeats 8000000 in
theorem law_PackOwn (w : World) (v : Value) (x : List OpT) (r : RSl 41 128 ROp w [v] x) (t : (x.map (fun a : OpT => 1 + (1 + (1 + (1 + (a.2.2.2.2.1.size + 1 + (1 + (1 + (a.2.2.2.2.2.2.2.1.1.size + 1 + (a.2.2.2.2.2.2.2.1.2.1.size + 1 + (1 + 0)) + 1 + 0))))))) + 1)).sum + 1 ≤ 1048576) :
    Calls Try.prog 5 #[v] w fun e w' => e = .returned (.bool true) ∧ Below w.heap.size w w' := by
  have hsz := hd_ (show (x.map opSz).sum + x.length ≤ 1048576 by have := sz_sum x; omega)
  obtain ⟨v', vs, hv, hR, hBB, hx⟩ := r
  injection hv with hv
  subst hv
  have hRH := hd_ hR
  have hxH := hd_ hx
  obtain ⟨hvl, A, cap, rfl, hc1, hc2, _, _⟩ := hR
  have hxl : x.length ≤ 1048576 := by have := hsz.out; omega
  clear hx hBB t
  have hB0 := al1 (Below.refl w.heap.size w) (.cells #[.int .i64 0, .slice none 0 0] 43)
  have hb0 := Box.new w #[.int .i64 0, .slice none 0 0] 43
  have hz0 : (w.alloc (.cells #[.int .i64 0, .slice none 0 0] 43)).heap.size = w.heap.size + 1 := World.size_alloc _ _
  have hU := hd_ (show Calls Try.prog 22 #[.pointer (some ⟨w.heap.size, 0, none⟩), .int .u64 300] (w.alloc (.cells #[.int .i64 0, .slice none 0 0] 43)) (WrRet (w.alloc (.cells #[.int .i64 0, .slice none 0 0] 43)) w.heap.size (.slice none 0 0) (0, [172, 2])) from by have := W_Uint_any w.heap.size (.slice none 0 0) (0, []) 300 (w.alloc (.cells #[.int .i64 0, .slice none 0 0] 43)) ⟨hb0, own_nil8 _ _ _⟩ (by decide) (by decide); rw [wu300] at this; exact this)
  have hBw := hd_ (fun W v (h : Wr W w.heap.size v (0, [172, 2])) => show Calls Try.prog 23 #[.pointer (some ⟨w.heap.size, 0, none⟩)] W (fun e w' => ∃ u, e = .returned (.tuple #[u, .int .i64 0]) ∧ Own w' W.heap.size 5 u [172, 2] ∧ Below W.heap.size W w') from W_Bytes_any w.heap.size v (0, [172, 2]) W h (by decide))
  have hXU := hd_ (fun W gx (h : Xr W gx (.slice none 0 0) (0, [])) => show Calls Try.prog 24 #[.pointer (some ⟨gx, 0, none⟩), .int .u64 300] W (XrRet W gx (.slice none 0 0) (0, [172, 2])) from by have := X_Uint_any gx (.slice none 0 0) (0, []) 300 W h (by decide) (by decide); rw [wu300] at this; exact this)
  have hB0H := hd_ (And.intro hB0 hz0)
  clear hB0 hb0 hz0
  go_enter Try.func5, Try.ntmps5
  go_upto_region 6 with (first
    | (go_at_call 22; (with_reducible refine hU.out.mono ?_); rintro e w1 ⟨rfl, v1, hW1, hC1, ho1⟩; have hBy1 := hBw.out w1 v1 hW1)
    | (go_at_call 23; (with_reducible refine hBy1.mono ?_); rintro e w2 ⟨a, rfl, hOa, hB2⟩; have hW2 : Wr w2 w.heap.size v1 (0, [172, 2]) := ⟨hW1.1.keep hB2, hW1.2.keep hB2⟩; have hBy2 := hBw.out w2 v1 hW2)
    | (go_at_call 23; (with_reducible refine hBy2.mono ?_); rintro e w3 ⟨b, rfl, hOb, hB3⟩))
  have hB4 := al1 (Below.refl w3.heap.size w3) (.cells #[.slice none 0 0, .int .i64 0] 48)
  have hbx := Box.new w3 #[.slice none 0 0, .int .i64 0] 48
  have hz4 : (w3.alloc (.cells #[.slice none 0 0, .int .i64 0] 48)).heap.size = w3.heap.size + 1 := World.size_alloc _ _
  generalize w3.alloc (.cells #[.slice none 0 0, .int .i64 0] 48) = W4 at *
  have hX4 := hd_ (hXU.out W4 w3.heap.size ⟨hbx, own_nil8 _ _ _⟩)
  go_upto_region 8 with (go_at_call 24; (with_reducible refine hX4.out.mono ?_); rintro e w5 ⟨rfl, u1, hX5, hC5, ho5⟩)
  have hPo : Po w w5 w.heap.size w3.heap.size v1 u1 (0, [172, 2]) a b [172, 2] := by
    obtain ⟨hB0, hz0⟩ := hB0H.out
    have hs1 := hC1.size
    have hs2 := hB2.size
    have hs3 := hB3.size
    have hs5 := hC5.size
    have hn : ∀ k, some k = (Value.slice none 0 0).ownBlock → False := fun k h => absurd h.symm (by simp [Value.ownBlock])
    have hv1 : ∀ k, v1.ownBlock = some k → w.heap.size + 1 ≤ k ∧ k < w1.heap.size := fun k e => by
      refine ⟨?_, (own_lt hW1.2 k e).2⟩
      rcases ho1 with h1 | ⟨k2, h1, h2⟩
      · rw [h1] at e; exact (hn k e.symm).elim
      · rw [h1] at e; injection e with e; omega
    have hu1 : ∀ k, u1.ownBlock = some k → w3.heap.size + 1 ≤ k := fun k e => by
      rcases ho5 with h1 | ⟨k2, h1, h2⟩
      · rw [h1] at e; exact (hn k e.symm).elim
      · rw [h1] at e; injection e with e; omega
    have hka : ∀ k, a.ownBlock = some k → w1.heap.size ≤ k ∧ k < w2.heap.size := fun k e => own_lt hOa k e
    have hkb : ∀ k, b.ownBlock = some k → w2.heap.size ≤ k ∧ k < w3.heap.size := fun k e => own_lt hOb k e
    have hBe1 : Below w.heap.size w w1 := hC1.then hB0 (fun k e => by
      rcases e with e | e
      · omega
      · exact (hn k e).elim) (by omega)
    have hB34 := bel_trans hB3 hB4
    have hB24 := bel_trans hB2 hB34
    have nS : ∀ k, k < w3.heap.size → ¬ (k = w3.heap.size ∨ some k = (Value.slice none 0 0).ownBlock) := fun k hk e => by
      rcases e with e | e
      · omega
      · exact hn k e
    refine ⟨⟨⟨(hW1.1.keep hB24).chg hC5 (nS _ (by omega)), (hW1.2.keep hB24).chg hC5 (fun k e => nS k (by have := hv1 k e; omega))⟩, hX5, fun k e e2 => by have := hv1 k e; have := hu1 k e2; omega⟩, ?_, ?_, ?_, ?_, ?_, ?_⟩
    · rintro k (rfl | rfl | e | e)
      · exact Nat.le_refl _
      · omega
      · have := hv1 k e.symm; omega
      · have := hu1 k e.symm; omega
    · exact hC5.then (bel_trans hBe1 hB24) (fun k e => by
        rcases e with e | e
        · omega
        · exact (hn k e).elim) (by omega)
    · exact own_baseP ((hOa.keep hB34).chg hC5 (fun k e => nS k (by have := hka k e; omega))) (by omega)
    · exact own_baseP ((hOb.keep hB4).chg hC5 (fun k e => nS k (by have := hkb k e; omega))) (by omega)
    · rintro k (rfl | rfl | e | e)
      · exact ⟨fun e2 => by have := hka _ e2; omega, fun e2 => by have := hkb _ e2; omega⟩
      · exact ⟨fun e2 => by have := hka _ e2; omega, fun e2 => by have := hkb _ e2; omega⟩
      · have := hv1 k e.symm
        exact ⟨fun e2 => by have := hka _ e2; omega, fun e2 => by have := hkb _ e2; omega⟩
      · have := hu1 k e.symm
        exact ⟨fun e2 => by have := hka _ e2; omega, fun e2 => by have := hkb _ e2; omega⟩
    · exact fun k e e2 => by have := hka _ e; have := hkb _ e2; omega
  have hPoH := hd_ hPo
  clear hPo
  have hPo := hPoH
  clear hPoH
  obtain ⟨gx, hgx⟩ : ∃ gx, gx = w3.heap.size := ⟨_, rfl⟩
  rw [← hgx] at hPo ⊢
  clear hU hBw hXU hB0H hW1 hC1 ho1 hBy1 hOa hB2 hW2 hBy2 hOb hB3 hB4 hbx hz4 hX4 hX5 hC5 ho5 hgx
  go_loopw [32] (fun vi wr => ∃ (k : Nat) (v u : Value) (s : WS), k ≤ x.length ∧ vi = .int .i64 (k : Int) ∧ Po w wr w.heap.size gx v u s a b [172, 2] ∧ s.2.length ≤ 2 + 64 * k + ((x.take k).map opSz).sum) (fun vi _ => x.length - (intOf vi).toNat)
  case atStart => exact ⟨0, v1, u1, _, Nat.zero_le _, rfl, hPo.out, by simp⟩
  case round =>
    clear hPo
    obtain ⟨k, v1, u1, s, hk, rfl, hX, hs⟩ := hrel
    by_cases hlt : k < x.length
    · have hkI : (k : Int) < (x.length : Int) := by omega
      obtain ⟨op, ha, hal, hra⟩ := hxH.out k hlt
      obtain ⟨V, hV, hVe, hcs, hd, hdb, hn, hm0, hm⟩ := op_cells hra hal
      have hsa := sz_take x k hlt op ha
      have hsl := sz_take_le x (k + 1)
      have hea : opSz op = op.2.2.2.2.1.size + op.2.2.2.2.2.2.2.1.1.size + op.2.2.2.2.2.2.2.1.2.1.size := rfl
      obtain ⟨call, V0, n, most, S, F, ds, ⟨kk, u, m, u9⟩, u8⟩ := op
      simp only at hVe hcs hd hdb hn hm0 hm hea
      subst hVe
      have hszz := hsz.out
      have hlen := wStep_len s call n most m V hV S kk u F ds hd hn hm (by omega) (by omega) (by omega)
      obtain ⟨C, hC⟩ : ∃ C, C = opC call (V : Int) n most S F ds kk u m := ⟨_, rfl⟩
      rw [← hC] at hcs
      have hCz : C.size = 41 := by rw [hC]; exact opC_size _ _ _ _ _ _ _ hd _ _ _
      obtain ⟨zO, bO, hzO⟩ := infoOpZ
      obtain ⟨bl, off, hix, hcell⟩ := hRH.out.whole Try.underlying39 hzO .i64 k hlt (by omega) C hcs hCz
      have hce := hd_ (cells_keep hcell hX.2.2.1)
      have hiO : (Try.prog.info? 53).map (·.size) = some C.size := by rw [hCz]; exact infoOp2
      have hC1 : C.all (·.oneCell') = true := by rw [hC]; exact opC_one _ _ _ _ _ _ _ _ _ _
      have hwr1 := hd_ (fun W (h : Bw W w.heap.size gx v1 u1 s) => show Calls Try.prog 25 #[.pointer (some ⟨w.heap.size, 0, none⟩), .pointer (some ⟨gx, 0, none⟩), .agg C] W (BwRet W w.heap.size gx v1 u1 (wStep s call V n most S F ds kk u m)) by rw [hC]; exact B_write _ _ v1 u1 s call n most m V S kk u F ds W h hV hn hd hdb hm0 hm (by omega))
      obtain ⟨t1, ht1⟩ : ∃ t1, t1 = wStep s call V n most S F ds kk u m := ⟨_, rfl⟩
      rw [← ht1] at hwr1 hlen
      have hnx := hd_ (show t1.2.length ≤ 2 + 64 * (k + 1) + ((x.take (k + 1)).map opSz).sum by omega)
      have hcur := hd_ hX
      have hkx := hd_ hlt
      have hI1 : (Value.int IntKind.i64 (wrap64 ((k : Int) + 1))) = .int .i64 ((k : Int) + 1) := congrArg _ (by unfold wrap64; omega)
      clear hcs hcell hX hs hlen ht1 hsa hsl hea hszz ha hal hra hC hd hdb hn hm0 hm hV hzO hk
      go_upto_region 10 with (first
        | (refine load_at rfl 53 _ rfl bl off C _ rfl hce.out Try.underlying53 rfl hiO ?_)
        | (refine store_box rfl 53 _ _ rfl _ _ _ C rfl rfl (Box.new _ _ _) hiO (by rw [hCz]; rfl) hC1 ?_; intro w5 hb5 hg5))
      have HB5 := below_row (al1 (Below.refl wr.heap.size wr) _) hg5 (Nat.le_refl _) (size_al _ _)
      have P5 := hd_ (hcur.out.keep HB5)
      have hw5 := hd_ (hwr1.out _ P5.out.1)
      simp only [Act.put]
      clear hg5 HB5
      go_wp2_with (first
        | (refine load_box rfl 53 _ rfl wr.heap.size 53 C _ rfl hb5 Try.underlying53 rfl hiO ?_)
        | (go_at_call 25; (with_reducible refine hw5.out.mono ?_); rintro e w7 ⟨rfl, H7⟩))
      obtain ⟨v3, u3, P7⟩ := P5.out.step H7
      go_roundw
      case rel => exact ⟨k + 1, v3, u3, t1, hkx.out, by first | rfl | (rw [hI1]; rfl), P7, hnx.out⟩
      case measure => first | (rw [hI1]; exact meas_k1 _ _ hkx.out) | exact meas_k1 _ _ hkx.out
    · obtain rfl : k = x.length := by omega
      rw [List.take_length] at hs
      have hszz := hsz.out
      obtain ⟨err, L⟩ := s
      simp only at hs
      have hPH := hd_ hX
      obtain ⟨dv, hdv⟩ : ∃ dv : Value, dv = if err = 0 then u1 else .slice none 0 0 := ⟨_, rfl⟩
      obtain ⟨M, hM⟩ : ∃ M : List Int, M = if err = 0 then L else [] := ⟨_, rfl⟩
      have hMl2 := hd_ (show M.length ≤ 70368744177664 by rw [hM]; split <;> first | omega | (simp; done))
      have hRd := hd_ (fun W (t : Bw W w.heap.size gx v1 u1 (err, L)) => show Rd W dv M by
        rw [hdv, hM]
        by_cases h0 : err = 0
        · rw [if_pos h0, if_pos h0]; exact t.2.1.2.rd
        · rw [if_neg h0, if_neg h0]; exact (own_nil8 W 0 5).rd)
      have hWB := hd_ (fun W (t : Bw W w.heap.size gx v1 u1 (err, L)) => show Calls Try.prog 23 #[.pointer (some ⟨w.heap.size, 0, none⟩)] W (fun e w' => ∃ u, e = .returned (.tuple #[u, .int .i64 err]) ∧ Own w' W.heap.size 5 u M ∧ Below W.heap.size W w') by rw [hM]; exact W_Bytes_any _ v1 (err, L) W t.1 (by simp only; omega))
      have hXB := hd_ (fun W (t : Bw W w.heap.size gx v1 u1 (err, L)) => show Calls Try.prog 26 #[.pointer (some ⟨gx, 0, none⟩)] W (fun e w' => e = .returned (.tuple #[dv, .int .i64 err]) ∧ Below W.heap.size W w') by rw [hdv]; exact X_Bytes_any _ u1 (err, L) W t.2.1)
      have hWB1 := hd_ (hWB.out wr hX.1)
      clear hX hs hdv hM
      go_upto_region 14 with (first
        | (go_at_call 23; (with_reducible refine hWB1.out.mono ?_); rintro e w6 ⟨c, rfl, hOc, hB6⟩; have P6 := hPH.out.keep hB6; have hXB1 := hXB.out w6 P6.1)
        | (go_at_call 26; (with_reducible refine hXB1.mono ?_); rintro e w7 ⟨rfl, hB7⟩))
      have P7 := hd_ (P6.keep hB7)
      have hOc7 := hd_ (hOc.keep hB7)
      have hnc := hd_ (show (∀ k, bwS w.heap.size gx v1 u1 k → c.ownBlock ≠ some k) ∧ (∀ k, a.ownBlock = some k → c.ownBlock ≠ some k) ∧ (∀ k, b.ownBlock = some k → c.ownBlock ≠ some k) ∧ w.heap.size ≤ wr.heap.size from
        ⟨fun k h1 e => by have := hPH.out.1.lt k h1; have := (own_lt hOc k e).1; omega, fun k h1 e => by have := (own_lt hPH.out.2.2.2.1 k h1).2; have := (own_lt hOc k e).1; omega, fun k h1 e => by have := (own_lt hPH.out.2.2.2.2.1 k h1).2; have := (own_lt hOc k e).1; omega, hPH.out.2.2.1.size⟩)
      have hRd7 := hd_ (hRd.out w7 P7.out.1)
      clear hWB1 hPH P6 hXB1 hB6 hB7 hOc
      have hSame := hd_ (fun W v u l (h1 : Rd W v l) (h2 : Rd W u l) => show Calls Try.prog 19 #[v, u] W (fun e w' => e = .returned (.bool true) ∧ W = w') from (Same_any v u l l W h1 h2).mono (by rintro e w' ⟨h1, h2⟩; exact ⟨by rw [h1, decide_eq_true rfl], h2⟩))
      have hB8 := al1 (Below.refl w7.heap.size w7) (.cells (u8A [172, 2]) 5)
      have hO8 := (lit_own8 w7 0 (Nat.zero_le _) [172, 2] (by intro b hb; simp at hb; omega) 2 rfl (by unfold maxLen; omega)).rd
      have hP8 := P7.out.keep hB8
      have hOc8 := hOc7.out.keep hB8
      have hRd8 := hRd7.out.keep hB8
      have hSa := hd_ (hSame.out _ a _ _ hP8.2.2.2.1.rd hO8)
      have hSb := hd_ (hSame.out _ b a _ hP8.2.2.2.2.1.rd hP8.2.2.2.1.rd)
      have hSc := hd_ (hSame.out _ c dv _ hOc8.rd hRd8)
      obtain ⟨Aa, na, ca, hva⟩ : ∃ A m k, a = .slice A m k := by obtain ⟨A, k, h⟩ := own_slice hP8.2.2.2.1.toN; exact ⟨A, _, k, h⟩
      obtain ⟨Ab, nb, cb, hvb⟩ : ∃ A m k, b = .slice A m k := by obtain ⟨A, k, h⟩ := own_slice hP8.2.2.2.2.1.toN; exact ⟨A, _, k, h⟩
      obtain ⟨Ac, nc, cc, hvc⟩ : ∃ A m k, c = .slice A m k := by obtain ⟨A, k, h⟩ := own_slice hOc8.toN; exact ⟨A, _, k, h⟩
      subst hva; subst hvb; subst hvc
      have hP8 := hd_ hP8
      have hOc8 := hd_ hOc8
      have hRd8 := hd_ hRd8
      have he16 : (u8A [172, 2]) = #[.int .u8 172, .int .u8 2] := rfl
      rw [he16] at hSa hSb hSc hP8 hOc8 hRd8
      clear P7 hOc7 hRd7 hB8 hO8 he16
      go_upto_region 16 with (first
        | (go_at_call 19; (with_reducible refine hSa.out.mono ?_); rintro e wz ⟨rfl, rfl⟩)
        | (go_at_call 19; (with_reducible refine hSb.out.mono ?_); rintro e wz ⟨rfl, rfl⟩)
        | (go_at_call 19; (with_reducible refine hSc.out.mono ?_); rintro e wz ⟨rfl, rfl⟩))
      clear hSa hSb hSc
      generalize w7.alloc (.cells #[.int .u8 172, .int .u8 2] 5) = W8 at *
      obtain ⟨W9, hW9⟩ : ∃ W9, W9 = W8.alloc (.cells #[.slice Aa na ca, .slice Ab nb cb, .slice Ac nc cc] 25) := ⟨_, rfl⟩
      have hB9 := al1 (Below.refl W8.heap.size W8) (.cells #[.slice Aa na ca, .slice Ab nb cb, .slice Ac nc cc] 25)
      have hbx9 := Box.new W8 #[.slice Aa na ca, .slice Ab nb cb, .slice Ac nc cc] 25
      rw [← hW9] at hB9 hbx9
      have hP9 := hP8.out.keep hB9
      have hOc9 := hOc8.out.keep hB9
      obtain ⟨n1, n2, n3, n4⟩ := hnc.out
      have hOw := hd_ (Own3_any (.slice Aa na ca) (.slice Ab nb cb) (.slice Ac nc cc) [172, 2] [172, 2] M W8.heap.size W9 hP9.2.2.2.1.toN hP9.2.2.2.2.1.toN hOc9.toN (hbx9.cell 0 rfl) (hbx9.cell 1 rfl) (hbx9.cell 2 rfl) (by simp) (by simp) hMl2.out hP9.2.2.2.2.2.2 n2 n3
        (fun e => by have := (own_lt hP8.out.2.2.2.1 _ e).2; omega) (fun e => by have := (own_lt hP8.out.2.2.2.2.1 _ e).2; omega) (fun e => by have := (own_lt hOc8.out _ e).2; omega))
      have hP9 := hd_ hP9
      have hRd9 := hd_ (hRd8.out.keep hB9)
      have hbw9 := hd_ (hP9.out.1)
      have hafter := hd_ (fun W (hC : Chg (fun k => (Value.slice Aa na ca).ownBlock = some k ∨ (Value.slice Ab nb cb).ownBlock = some k ∨ (Value.slice Ac nc cc).ownBlock = some k) W9 W) =>
        (show Bw W w.heap.size gx v1 u1 (err, L) ∧ Below w.heap.size w W from ⟨hP9.out.1.chg hC (fun k h1 h2 => by
            rcases h2 with h2 | h2 | h2
            · exact (hP9.out.2.2.2.2.2.1 k h1).1 h2
            · exact (hP9.out.2.2.2.2.2.1 k h1).2 h2
            · exact n1 k h1 h2), hC.then hP9.out.2.2.1 (fun k h2 => by
            rcases h2 with h2 | h2 | h2
            · exact (own_lt hP9.out.2.2.2.1 k h2).1
            · exact (own_lt hP9.out.2.2.2.2.1 k h2).1
            · exact Nat.le_trans n4 (own_lt hOc9 k h2).1) hP9.out.2.2.1.size⟩))
      clear n1 n2 n3 n4 hOc9 hB9 hbx9 hP8 hOc8 hRd8
      rw [hW9] at hOw
      go_upto_region 18 with (go_at_call 21; (with_reducible refine hOw.out.mono ?_); rintro e w10 ⟨rfl, hC10⟩)
      rw [← hW9] at hC10
      obtain ⟨hBw10, hB10⟩ := hafter.out _ hC10
      have hWB10 := hd_ (hWB.out w10 hBw10)
      have hRd10 := hd_ (hRd.out w10 hBw10)
      have hB10 := hd_ hB10
      clear hOw hafter hC10 hBw10
      go_wp2_with (first
        | (go_at_call 23; (with_reducible refine hWB10.out.mono ?_); rintro e w11 ⟨gv, rfl, hOg, hB11⟩; have hSg := hSame.out w11 gv dv M hOg.rd (hRd10.out.keep hB11))
        | (go_at_call 19; (with_reducible refine hSg.mono ?_); rintro e wz ⟨rfl, rfl⟩))
      go_ret
      exact ⟨rfl, bel_trans hB10.out hB11⟩
end Go.Proofs.Ytlaeiipiboabaaa
