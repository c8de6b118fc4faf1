/- The law PackBack (bounded). -/
import Derived.Test.YtlaeiipiboabaaaMtB
import Derived.Test.YtlaeiipiboabaaaCpA
namespace Go.Proofs.Ytlaeiipiboabaaa
open Go.RowKit
set_option maxRecDepth 100000
set_option linter.unusedVariables false
theorem Bk.wr {w0 W W1 : World} {g h : Nat} {v u : Value} {s sx s1 : WS} (t : Bk w0 W g h v u s sx) (p : WrPost W g v s1 W1) : ∃ v' u', Bk w0 W1 g h v' u' s1 sx :=
  t.step (bd_post t.1 (Below.refl _ _) p (Xr.same (bd_x t.1 p)))
/-- the writer, and two readers of what it laid down -/
def Bb (w0 W : World) (gw : Nat) (vw : Value) (s : WS) (g1 : Nat) (v1 : Value) (B1 : List Int) (a1 : Nat) (e1 : Int) (g2 : Nat) (v2 : Value) (B2 : List Int) (a2 : Nat) (e2 : Int) : Prop :=
  Wr W gw vw s ∧ Rr W g1 v1 B1 a1 e1 ∧ Rr W g2 v2 B2 a2 e2 ∧ g1 ≠ g2 ∧ w0.heap.size ≤ g1 ∧ w0.heap.size ≤ g2 ∧ Below w0.heap.size w0 W
section
variable {w0 W W1 : World} {gw : Nat} {vw : Value} {s : WS} {g1 : Nat} {v1 : Value} {B1 : List Int} {a1 a' : Nat} {e1 e' : Int} {g2 : Nat} {v2 : Value} {B2 : List Int} {a2 : Nat} {e2 : Int}
theorem RrK.chg {w w1 : World} {g : Nat} {v : Value} {B : List Int} {a : Nat} {err : Int} {S : Nat → Prop} (h : Rr w g v B a err) (hc : Chg S w w1) (hg : ¬ S g) (hv : ∀ k, v.ownBlock = some k → ¬ S k) : Rr w1 g v B a err := ⟨h.1.chg hc hg, h.2.1.chg hc hv, h.2.2⟩
theorem Bb.keep (t : Bb w0 W gw vw s g1 v1 B1 a1 e1 g2 v2 B2 a2 e2) (hb : Below W.heap.size W W1) : Bb w0 W1 gw vw s g1 v1 B1 a1 e1 g2 v2 B2 a2 e2 :=
  ⟨⟨t.1.1.keep hb, t.1.2.keep hb⟩, t.2.1.keep hb, t.2.2.1.keep hb, t.2.2.2.1, t.2.2.2.2.1, t.2.2.2.2.2.1, bel_trans t.2.2.2.2.2.2 hb⟩
theorem Bb.s1 (t : Bb w0 W gw vw s g1 v1 B1 a1 e1 g2 v2 B2 a2 e2) (p : RrPost W g1 v1 B1 a' e' W1) : Bb w0 W1 gw vw s g1 v1 B1 a' e' g2 v2 B2 a2 e2 := by
  obtain ⟨t0, t1, t2, n, n1, n2, hB⟩ := t
  have m1 : gw ≠ g1 := box_box t0.1 t1.1 (by decide)
  have m2 : vw.ownBlock ≠ some g1 := own_box t0.2 t1.1 (by decide)
  have m3 : v2.ownBlock ≠ some g1 := own_box t2.2.1 t1.1 (by decide)
  exact ⟨⟨t0.1.chg p.2 m1, t0.2.chg p.2 (fun k hk e => m2 (e ▸ hk))⟩, p.1, RrK.chg t2 p.2 (fun e => n e.symm) (fun k hk e => m3 (e ▸ hk)), n, n1, n2, p.2.then hB (fun k e => by rw [e]; exact n1) hB.size⟩
theorem Bb.s2 (t : Bb w0 W gw vw s g1 v1 B1 a1 e1 g2 v2 B2 a2 e2) (p : RrPost W g2 v2 B2 a' e' W1) : Bb w0 W1 gw vw s g1 v1 B1 a1 e1 g2 v2 B2 a' e' := by
  obtain ⟨t0, t1, t2, n, n1, n2, hB⟩ := t
  have m1 : gw ≠ g2 := box_box t0.1 t2.1 (by decide)
  have m2 : vw.ownBlock ≠ some g2 := own_box t0.2 t2.1 (by decide)
  have m3 : v1.ownBlock ≠ some g2 := own_box t1.2.1 t2.1 (by decide)
  exact ⟨⟨t0.1.chg p.2 m1, t0.2.chg p.2 (fun k hk e => m2 (e ▸ hk))⟩, RrK.chg t1 p.2 n (fun k hk e => m3 (e ▸ hk)), p.1, n, n1, n2, p.2.then hB (fun k e => by rw [e]; exact n2) hB.size⟩
end
theorem two_vars (w : World) : Bk w ((w.alloc (.cells #[.int .i64 0, .slice none 0 0] 43)).alloc (.cells #[.slice none 0 0, .int .i64 0] 48)) w.heap.size (w.heap.size + 1) (.slice none 0 0) (.slice none 0 0) (0, []) (0, []) := by
  have z1 : (w.alloc (.cells #[.int .i64 0, .slice none 0 0] 43)).heap.size = w.heap.size + 1 := World.size_alloc _ _
  have b1 := (Box.new w #[.int .i64 0, .slice none 0 0] 43).keep (al1 (Below.refl _ _) (.cells #[.slice none 0 0, .int .i64 0] 48))
  have b2 := Box.new (w.alloc (.cells #[.int .i64 0, .slice none 0 0] 43)) #[.slice none 0 0, .int .i64 0] 48
  rw [z1] at b2
  have hBB := al1 (al1 (Below.refl w.heap.size w) (.cells #[.int .i64 0, .slice none 0 0] 43)) (.cells #[.slice none 0 0, .int .i64 0] 48)
  generalize (w.alloc (.cells #[.int .i64 0, .slice none 0 0] 43)).alloc (.cells #[.slice none 0 0, .int .i64 0] 48) = W at *
  have hn : ∀ b, some b = (Value.slice none 0 0).ownBlock → False := fun b h => absurd h.symm (by simp [Value.ownBlock])
  refine ⟨⟨⟨b1, own_nil8 _ _ _⟩, ⟨b2, own_nil8 _ _ _⟩, fun b h => (hn b h.symm).elim⟩, ?_, hBB⟩
  rintro k (rfl | rfl | e | e)
  · exact Nat.le_refl _
  · omega
  · exact (hn _ e).elim
  · exact (hn _ e).elim
theorem w9 : wUint (0, []) ((9 : Nat) : Int) = (0, [9]) := by
  unfold wUint wLay
  rw [if_pos rfl, Int.toNat_natCast, lebB_lo (by decide)]
  rfl
theorem bkF_head (x : List OpT) : ∃ E, (bkF x x.length).2 = [9] ++ E := by
  obtain ⟨E, hE⟩ := fold_grows (x.take x.length) (0, [9])
  exact ⟨E, hE⟩
theorem r9 (E : List Int) : rUint ([9] ++ E) 0 0 = (9, 1, 0) := by
  have h := rUint_at [] E 9 (by decide)
  rw [lebB_lo (by decide)] at h
  exact h
set_option maxHeartbeats 8000000 in
theorem law_PackBack (w : World) (v : Value) (x : List OpT) (r : RSl 41 128 ROp w [v] x) (t : (x.map (fun a : OpT => 1 + (1 + (1 + (1 + (a.2.2.2.2.1.size + 1 + (1 + (1 + (a.2.2.2.2.2.2.2.1.1.size + 1 + (a.2.2.2.2.2.2.2.1.2.1.size + 1 + (1 + 0)) + 1 + 0))))))) + 1)).sum + 1 ≤ 1048576) (vd : Value) (D : List Int) (HD : Rd w vd D) (hD0 : D.length ≤ 140737488351232) (hD : D.length ≤ 1048576) :
    Calls Try.prog 12 #[v, vd] w fun e w' => e = .returned (.bool true) ∧ Below w.heap.size w w' := by
  have hsz := hd_ (show (x.map opSz).sum + x.length ≤ 1048576 by have := sz_sum x; omega)
  obtain ⟨v', vs, hv, hR, hBB, hx⟩ := r
  injection hv with hv
  subst hv
  have hRH := hd_ hR
  have hxH := hd_ hx
  obtain ⟨hvl, A, cap, rfl, hc1, hc2, _, _⟩ := hR
  have hxl : x.length ≤ 1048576 := by have := hsz.out; omega
  clear hx hBB t hD0
  have hN := hd_ (two_vars w)
  have hDH := hd_ (And.intro HD hD)
  have hlenD := HD.2.len (P := Try.prog) 25 5 3 Try.underlying25
  clear HD
  go_enter Try.func12, Try.ntmps12
  go_upto_region 3 with fail
  obtain ⟨W0, hW0⟩ : ∃ W0, W0 = (w.alloc (.cells #[.int .i64 0, .slice none 0 0] 43)).alloc (.cells #[.slice none 0 0, .int .i64 0] 48) := ⟨_, rfl⟩
  rw [← hW0] at hN ⊢
  clear hW0
  have hU := hd_ (show Calls Try.prog 22 #[.pointer (some ⟨w.heap.size, 0, none⟩), .int .u64 9] W0 (WrRet W0 w.heap.size (.slice none 0 0) (0, [9])) from by have := W_Uint_any w.heap.size (.slice none 0 0) (0, []) 9 W0 hN.out.1.1 (by decide) (by decide); rw [w9] at this; exact this)
  go_upto_region 5 with (go_at_call 22; (with_reducible refine hU.out.mono ?_); rintro e w1 ⟨rfl, P1⟩)
  obtain ⟨va, ua, hX1⟩ := hN.out.wr P1
  have hX1 := hd_ hX1
  clear hU P1 hN
  go_loopw [20] (fun vi wr => ∃ (k : Nat) (v u : Value) (sx : WS), k ≤ x.length ∧ vi = .int .i64 (k : Int) ∧ Bk w wr w.heap.size (w.heap.size + 1) v u (bkF x k) sx ∧ sx.1 = (bkF x k).1 ∧ sx.2.length ≤ 64 * k + ((x.take k).map opSz).sum ∧ (bkF x k).2.length ≤ 1 + 64 * k + ((x.take k).map opSz).sum) (fun vi _ => x.length - (intOf vi).toNat)
  case atStart => exact ⟨0, va, ua, (0, []), Nat.zero_le _, rfl, hX1.out, rfl, by simp, by simp [bkF]⟩
  case round =>
    clear hX1
    obtain ⟨k, v1, u1, sx, hk, rfl, hX, he, hs, hs2⟩ := hrel
    by_cases hlt : k < x.length
    · have hkI : (k : Int) < (x.length : Int) := by omega
      obtain ⟨a, ha, hal, hra⟩ := hxH.out k hlt
      obtain ⟨V, hV, hVe, hcs, hd, hdb, hn, hm0, hm⟩ := op_cells hra hal
      have hsa := sz_take x k hlt a ha
      have hsl := sz_take_le x (k + 1)
      have hea : opSz a = a.2.2.2.2.1.size + a.2.2.2.2.2.2.2.1.1.size + a.2.2.2.2.2.2.2.1.2.1.size := rfl
      obtain ⟨call, V0, n, most, S, F, ds, ⟨kk, u, m, u9⟩, u8⟩ := a
      simp only at hVe hcs hd hdb hn hm0 hm hea
      subst hVe
      have hszz := hsz.out
      have hbl := bkF_len x k call n most m V S kk u F ds u9 u8 ha hV hn hd hm (by omega) (by omega) (by omega)
      have hbs := bkF_succ x k _ ha
      have hlen := wStep_len sx call n most m V hV S kk u F ds hd hn hm (by omega) (by omega) (by omega)
      have herr := wStep_err sx (bkF x k) he call n most m V S kk u F ds
      obtain ⟨C, hC⟩ : ∃ C, C = opC call (V : Int) n most S F ds kk u m := ⟨_, rfl⟩
      rw [← hC] at hcs
      have hCz : C.size = 41 := by rw [hC]; exact opC_size _ _ _ _ _ _ _ hd _ _ _
      obtain ⟨zO, bO, hzO⟩ := infoOpZ
      obtain ⟨bl, off, hix, hcell⟩ := hRH.out.whole Try.underlying39 hzO .i64 k hlt (by omega) C hcs hCz
      have hce := hd_ (cells_keep hcell hX.2.2)
      have hiO : (Try.prog.info? 53).map (·.size) = some C.size := by rw [hCz]; exact infoOp2
      have hC1 : C.all (·.oneCell') = true := by rw [hC]; exact opC_one _ _ _ _ _ _ _ _ _ _
      have hC0 : C[0]? = some (.int .i64 call) := by rw [hC]; exact opC_lo _ _ _ _ _ _ _ _ _ _ 0 (by decide)
      have hwr1 := hd_ (fun W (h : Bd W w.heap.size (w.heap.size + 1) v1 u1 (bkF x k) sx) => show Calls Try.prog 25 #[.pointer (some ⟨w.heap.size, 0, none⟩), .pointer (some ⟨w.heap.size + 1, 0, none⟩), .agg C] W (BdRet W w.heap.size (w.heap.size + 1) v1 u1 (wStep (bkF x k) call V n most S F ds kk u m) (wStep sx call V n most S F ds kk u m)) by rw [hC]; exact D_write _ _ v1 u1 (bkF x k) sx call n most m V S kk u F ds W h hV hn hd hdb hm0 hm (by omega) (by omega))
      have hcur := hd_ hX
      have hkx := hd_ hlt
      have hI1 : (Value.int IntKind.i64 (wrap64 ((k : Int) + 1))) = .int .i64 ((k : Int) + 1) := congrArg _ (by unfold wrap64; omega)
      have hstay := hd_ (show sx.2.length ≤ 64 * (k + 1) + ((x.take (k + 1)).map opSz).sum ∧ (bkF x (k + 1)).2.length ≤ 1 + 64 * (k + 1) + ((x.take (k + 1)).map opSz).sum by omega)
      have hheld := hd_ (And.intro he hbs)
      have hstep := hd_ (And.intro herr (show (wStep sx call V n most S F ds kk u m).2.length ≤ 64 * (k + 1) + ((x.take (k + 1)).map opSz).sum by omega))
      clear hcs hcell hX hs hs2 hlen hsa hsl hea hszz ha hal hra hC hd hdb hn hm0 hm hV hzO hk hbl hbs herr he
      go_upto_region 7 with (first
        | (refine load_at rfl 53 _ rfl bl off C _ rfl hce.out Try.underlying53 rfl hiO ?_)
        | (refine store_box rfl 53 _ _ rfl _ _ _ C rfl rfl (Box.new _ _ _) hiO (by rw [hCz]; rfl) hC1 ?_; intro w5 hb5 hg5))
      have HB5 := below_row (al1 (Below.refl wr.heap.size wr) _) hg5 (Nat.le_refl _) (size_al _ _)
      have P5 := hd_ (hcur.out.keep HB5)
      simp only [Act.put]
      clear hg5 HB5
      have q0 := hb5.cell 0 hC0
      by_cases h6 : call = 6
      · subst h6
        have hE : bkF x (k + 1) = bkF x k := by rw [hheld.out.2]; rfl
        have hst2 := hstay.out
        rw [hE] at hst2
        go_wp2
        go_roundw
        case rel => exact ⟨k + 1, v1, u1, sx, hkx.out, by first | rfl | (rw [hI1]; rfl), by rw [hE]; exact P5.out, by rw [hE]; exact hheld.out.1, hst2.1, by rw [hE]; exact hst2.2⟩
        case measure => first | (rw [hI1]; exact meas_k1 _ _ hkx.out) | exact meas_k1 _ _ hkx.out
      by_cases h7 : call = 7
      · subst h7
        have hE : bkF x (k + 1) = bkF x k := by rw [hheld.out.2]; rfl
        have hst2 := hstay.out
        rw [hE] at hst2
        go_wp2
        go_roundw
        case rel => exact ⟨k + 1, v1, u1, sx, hkx.out, by first | rfl | (rw [hI1]; rfl), by rw [hE]; exact P5.out, by rw [hE]; exact hheld.out.1, hst2.1, by rw [hE]; exact hst2.2⟩
        case measure => first | (rw [hI1]; exact meas_k1 _ _ hkx.out) | exact meas_k1 _ _ hkx.out
      by_cases h8 : call = 8
      · subst h8
        have hE : bkF x (k + 1) = bkF x k := by rw [hheld.out.2]; rfl
        have hst2 := hstay.out
        rw [hE] at hst2
        go_wp2
        go_roundw
        case rel => exact ⟨k + 1, v1, u1, sx, hkx.out, by first | rfl | (rw [hI1]; rfl), by rw [hE]; exact P5.out, by rw [hE]; exact hheld.out.1, hst2.1, by rw [hE]; exact hst2.2⟩
        case measure => first | (rw [hI1]; exact meas_k1 _ _ hkx.out) | exact meas_k1 _ _ hkx.out
      have b6 : (call == 6) = false := beq_false_of_ne h6
      have b7 : (call == 7) = false := beq_false_of_ne h7
      have b8 : (call == 8) = false := beq_false_of_ne h8
      have n6 : (call != 6) = true := by rw [bne, b6]; rfl
      have n7 : (call != 7) = true := by rw [bne, b7]; rfl
      have n8 : (call != 8) = true := by rw [bne, b8]; rfl
      have hE : bkF x (k + 1) = wStep (bkF x k) call V n most S F ds kk u m := by rw [hheld.out.2]; exact if_neg h6
      have hw1 := hwr1.out _ P5.out.1
      rw [← hE] at hw1
      have hw1 := hd_ hw1
      have herr := hstep.out.1
      rw [← hE] at herr
      clear hwr1
      go_wp2_with (first
        | (refine load_box rfl 53 _ rfl wr.heap.size 53 C _ rfl hb5 Try.underlying53 rfl hiO ?_)
        | (go_at_call 25; (with_reducible refine hw1.out.mono ?_); rintro e w7 ⟨rfl, H7⟩))
      obtain ⟨v3, u3, P7⟩ := P5.out.step H7
      go_roundw
      case rel => exact ⟨k + 1, v3, u3, _, hkx.out, by first | rfl | (rw [hI1]; rfl), P7, herr, hstep.out.2, hstay.out.2⟩
      case measure => first | (rw [hI1]; exact meas_k1 _ _ hkx.out) | exact meas_k1 _ _ hkx.out
    · obtain rfl : k = x.length := by omega
      rw [List.take_length] at hs hs2
      have hszz := hsz.out
      have hP := hd_ hX
      have hX1 : Wr wr w.heap.size v1 (bkF x x.length) := hX.1.1
      have hX2 : Xr wr (w.heap.size + 1) u1 sx := hX.1.2.1
      have heH := hd_ he
      have hWB := hd_ (show Calls Try.prog 23 #[.pointer (some ⟨w.heap.size, 0, none⟩)] wr (fun e w' => ∃ u, e = .returned (.tuple #[u, .int .i64 (bkF x x.length).1]) ∧ Own w' wr.heap.size 5 u (if (bkF x x.length).1 = 0 then (bkF x x.length).2 else []) ∧ Below wr.heap.size wr w') from W_Bytes_any w.heap.size v1 (bkF x x.length) wr hX1 (by omega))
      have hLb := hd_ (show (bkF x x.length).2.length ≤ 1 + 64 * x.length + (x.map opSz).sum from hs2)
      clear hX hX1 hX2 hs hs2 he
      go_upto_region 11 with (go_at_call 23; (with_reducible refine hWB.out.mono ?_); rintro e w1 ⟨b1, rfl, HO1, HB1⟩)
      have P1 := hd_ (hP.out.keep HB1)
      clear hWB hP
      by_cases h0 : (bkF x x.length).1 = 0
      · rw [if_pos h0] at HO1
        rw [h0]
        have h0H := hd_ h0
        obtain ⟨L, hL⟩ : ∃ L, L = (bkF x x.length).2 := ⟨_, rfl⟩
        obtain ⟨E0, hE0⟩ := bkF_head x
        have hL0 := hd_ (show L = [9] ++ E0 by rw [hL, hE0])
        rw [← hL] at HO1 hLb
        have hLn := hd_ (show L.length ≤ 140737488355328 by have := hLb.out; omega)
        have hLD := hd_ (show L.length + D.length ≤ 140737488355328 by have := hLb.out; have := hDH.out.2; omega)
        have hLDl := hd_ (show (L ++ D).length ≤ 140737488355328 by rw [List.length_append]; exact hLD.out)
        have hLH := hd_ hL
        clear hL hE0 h0 heH
        have hlb := HO1.rd.2.len (P := Try.prog) 25 5 3 Try.underlying25
        have HO1H := hd_ HO1
        have hDw := hd_ (hDH.out.1.keep P1.out.2.2)
        go_upto_region 14 with (first
          | (go_at_call 14; (with_reducible refine (R_New_any b1 L w1 HO1H.out.rd hLn.out).mono ?_); rintro e w2 ⟨g1, r1, rfl, HR1, hg1, hr1, HB2⟩; have hb2 := (HO1H.out.keep HB2).rd; have hd2 := hDw.out.keep HB2)
          | (go_at_call 44; (with_reducible refine (Copy_any b1 L w2 hb2).mono ?_); rintro e w3 ⟨v3, rfl, HF3, HB3⟩; have hd3 := hd2.keep HB3; have HN3 : OwnN w3 v3 L := .inr (HF3.low (Nat.zero_le _)))
          | (at_builtin; refine app_N rfl _ _ 25 5 rfl Try.underlying25 infoB _ vd L D rfl rfl HN3 hd3 hLD.out ?_; intro v4 w4 HO4 HC4 hv4; have hrd4 := HO4.rd)
          | (go_at_call 14; (with_reducible refine (R_New_any v4 (L ++ D) w4 hrd4 hLDl.out).mono ?_); rintro e w5 ⟨g2, r2, rfl, HR2, hg2, hr2, HB5⟩))
        have hB24 := HC4.then HB3 (fun b e => (HF3.lt b e).1) HB3.size
        have hB25 := bel_trans hB24 HB5
        have hB15 := bel_trans HB2 hB25
        have hPz := P1.out.2.2.size
        have hPB := P1.out.2.2
        have hPW := P1.out.1.1
        have hz4 := hB24.size
        have hg2lt := HR1.1.lt
        have hPb := hd_ (show Bb w w5 w.heap.size v1 (bkF x x.length) g1 r1 L 0 0 g2 r2 (L ++ D) 0 0 from ⟨⟨hPW.1.keep hB15, hPW.2.keep hB15⟩, HR1.keep hB25, HR2, by omega, by omega, by have := HB2.size; omega, bel_trans hPB hB15⟩)
        clear hB24 hB25 hB15 hPz hPB hPW hz4 hg2lt HR1 HR2 hg1 hr1 hg2 hr2 HB2 HB3 HB5 HC4 HO4 HF3 hv4 hrd4 HN3 hd3 hd2 hb2 HO1 HO1H hDw P1 HB1
        have hru1 := hd_ (show Calls Try.prog 15 #[.pointer (some ⟨g1, 0, none⟩)] w5 (RRet w5 g1 r1 L (.int .u64 9) 1 0) from by have := R_Uint_any g1 r1 L 0 0 w5 hPb.out.2.1; have e : rUint L 0 0 = (9, 1, 0) := (by rw [hL0.out]; exact r9 E0); rw [e] at this; exact this)
        have hru2 := hd_ (fun W (h : Rr W g2 r2 (L ++ D) 0 0) => show Calls Try.prog 15 #[.pointer (some ⟨g2, 0, none⟩)] W (RRet W g2 r2 (L ++ D) (.int .u64 9) 1 0) from by have := R_Uint_any g2 r2 (L ++ D) 0 0 W h; have e : rUint (L ++ D) 0 0 = (9, 1, 0) := (by rw [hL0.out, List.append_assoc]; exact r9 (E0 ++ D)); rw [e] at this; exact this)
        go_upto_region 17 with (first
          | (go_at_call 15; (with_reducible refine hru1.out.mono ?_); rintro e w6 ⟨rfl, H6⟩; have P6 := hPb.out.s1 H6; have hru3 := hru2.out w6 P6.2.2.1)
          | (go_at_call 15; (with_reducible refine hru3.mono ?_); rintro e w7 ⟨rfl, H7⟩; have P7 := P6.s2 H7))
        have hP7 := hd_ (show Bb w w7 w.heap.size v1 (bkF x x.length) g1 r1 L (bkF x 0).2.length 0 g2 r2 (L ++ D) (bkF x 0).2.length 0 from P7)
        clear hru1 hru2 hPb P6 P7 H6 H7 hru3
        go_loopw [74] (fun vi wr => ∃ (k : Nat), k ≤ x.length ∧ vi = .int .i64 (k : Int) ∧ Bb w wr w.heap.size v1 (bkF x x.length) g1 r1 L (bkF x k).2.length 0 g2 r2 (L ++ D) (bkF x k).2.length 0) (fun vi _ => x.length - (intOf vi).toNat)
        case atStart => exact ⟨0, Nat.zero_le _, rfl, hP7.out⟩
        case round =>
          clear hP7
          obtain ⟨k, hk, rfl, hX⟩ := hrel
          by_cases hlt : k < x.length
          · have hkI : (k : Int) < (x.length : Int) := by omega
            obtain ⟨a, ha, hal, hra⟩ := hxH.out k hlt
            obtain ⟨V, hV, hVe, hcs, hd, hdb, hn, hm0, hm⟩ := op_cells hra hal
            have hsz1 : a.2.2.2.2.1.size ≤ 140737488351232 := hra.2.2.2.2.1.2
            obtain ⟨call, V0, n, most, S, F, ds, ⟨kk, u, m, u9⟩, u8⟩ := a
            have hmo : most ≤ 9223372036854775807 := (wf_i64 hra.2.2.2.1.2).2
            simp only at hVe hcs hd hdb hn hm0 hm hsz1
            subst hVe
            obtain ⟨_, k1, k2⟩ := bkF_back x h0H.out k call n most m V S kk u F ds u9 u8 ha hV hn hd hm hsz1 []
            obtain ⟨_, k3, k4⟩ := bkF_back x h0H.out k call n most m V S kk u F ds u9 u8 ha hV hn hd hm hsz1 D
            rw [← hLH.out] at k1 k2 k3 k4
            rw [List.append_nil] at k1 k2
            obtain ⟨C, hC⟩ : ∃ C, C = opC call (V : Int) n most S F ds kk u m := ⟨_, rfl⟩
            rw [← hC] at hcs
            have hCz : C.size = 41 := by rw [hC]; exact opC_size _ _ _ _ _ _ _ hd _ _ _
            obtain ⟨zO, bO, hzO⟩ := infoOpZ
            obtain ⟨bl, off, hix, hcell⟩ := hRH.out.whole Try.underlying39 hzO .i64 k hlt (by omega) C hcs hCz
            have hce := hd_ (cells_keep hcell hX.2.2.2.2.2.2)
            have hiO : (Try.prog.info? 53).map (·.size) = some C.size := by rw [hCz]; exact infoOp2
            have hC1 : C.all (·.oneCell') = true := by rw [hC]; exact opC_one _ _ _ _ _ _ _ _ _ _
            have ht1 := hd_ (fun W (h : Rr W g1 r1 L (bkF x k).2.length 0) => show Calls Try.prog 45 #[.pointer (some ⟨g1, 0, none⟩), .agg C] W (fun e w' => e = .returned (.bool true) ∧ RrPost W g1 r1 L (bkF x (k + 1)).2.length 0 w') from by have := taken_any g1 r1 L (bkF x k).2.length 0 call n most m V S kk u F ds W h hd hmo k2; rw [k1, ← hC] at this; exact this)
            have ht2 := hd_ (fun W (h : Rr W g2 r2 (L ++ D) (bkF x k).2.length 0) => show Calls Try.prog 45 #[.pointer (some ⟨g2, 0, none⟩), .agg C] W (fun e w' => e = .returned (.bool true) ∧ RrPost W g2 r2 (L ++ D) (bkF x (k + 1)).2.length 0 w') from by have := taken_any g2 r2 (L ++ D) (bkF x k).2.length 0 call n most m V S kk u F ds W h hd hmo k4; rw [k3, ← hC] at this; exact this)
            have hcur := hd_ hX
            have hkx := hd_ hlt
            have hI1 : (Value.int IntKind.i64 (wrap64 ((k : Int) + 1))) = .int .i64 ((k : Int) + 1) := congrArg _ (by unfold wrap64; omega)
            clear hcs hcell hX ha hal hra hC hd hdb hn hm0 hm hV hzO hk k1 k2 k3 k4 hmo hsz1
            go_upto_region 19 with (first
              | (refine load_at rfl 53 _ rfl bl off C _ rfl hce.out Try.underlying53 rfl hiO ?_)
              | (refine store_box rfl 53 _ _ rfl _ _ _ C rfl rfl (Box.new _ _ _) hiO (by rw [hCz]; rfl) hC1 ?_; intro w5 hb5 hg5))
            have HB5 := below_row (al1 (Below.refl wr.heap.size wr) _) hg5 (Nat.le_refl _) (size_al _ _)
            have P5 := hd_ (hcur.out.keep HB5)
            have hl1 := hcur.out.2.1.1.lt
            have ht1' := hd_ (ht1.out w5 P5.out.2.1)
            simp only [Act.put]
            clear hg5 HB5
            go_wp2_with (first
              | (refine load_box rfl 53 _ rfl wr.heap.size 53 C _ rfl hb5 Try.underlying53 rfl hiO ?_)
              | (go_at_call 45; (with_reducible refine ht1'.out.mono ?_); rintro e w6 ⟨rfl, H6⟩; have P6 := P5.out.s1 H6; have hb6 := hb5.chg H6.2 (by rintro rfl; omega); have ht2' := ht2.out w6 P6.2.2.1)
              | (refine load_boxG rfl 53 _ rfl wr.heap.size 53 C _ rfl hb6 Try.underlying53 rfl hiO ?_)
              | (go_at_call 45; (with_reducible refine ht2'.mono ?_); rintro e w7 ⟨rfl, H7⟩; have P7 := P6.s2 H7))
            go_roundw
            case rel => exact ⟨k + 1, hkx.out, by first | rfl | (rw [hI1]; rfl), P7⟩
            case measure => first | (rw [hI1]; exact meas_k1 _ _ hkx.out) | exact meas_k1 _ _ hkx.out
          · obtain rfl : k = x.length := by omega
            rw [← hLH.out] at hX
            have hP := hd_ hX
            have hle := hd_ (fun W (h : Rr W g2 r2 (L ++ D) L.length 0) => R_End_any g2 r2 (L ++ D) L.length 0 W h)
            have hllD : (L ++ D).length = L.length + D.length := List.length_append
            have hwD : ((L.length + D.length : Nat) : Int) - (L.length : Int) = (D.length : Int) := by omega
            have hLft := hd_ (fun W (h : Rr W g2 r2 (L ++ D) L.length 0) => show Calls Try.prog 30 #[.pointer (some ⟨g2, 0, none⟩)] W (fun e w' => e = .returned (.int .i64 (D.length : Int)) ∧ Below W.heap.size W w') from (R_Left_any g2 r2 (L ++ D) L.length 0 W h).mono (by rintro e w' ⟨h1, mm, h2⟩; rw [hllD, hwD] at h1; exact ⟨h1, by rw [h2]; exact below_drewN (Below.refl _ _) _⟩))
            have hE1 := hd_ (fun W (h : Rr W g1 r1 L L.length 0) => show Calls Try.prog 46 #[.pointer (some ⟨g1, 0, none⟩)] W (fun e w' => e = .returned (.int .i64 0) ∧ Below W.heap.size W w') from by have := R_End_any g1 r1 L L.length 0 W h; have e : rEnd L L.length 0 = 0 := (by unfold rEnd; rw [if_neg (by simp)]); rw [e] at this; exact this)
            have hSz := hd_ (fun W (h : Wr W w.heap.size v1 (bkF x x.length)) => show Calls Try.prog 47 #[.pointer (some ⟨w.heap.size, 0, none⟩)] W (fun e w' => e = .returned (.int .i64 (L.length : Int)) ∧ W = w') from by have := W_Size_any w.heap.size v1 (bkF x x.length) W h; rw [← hLH.out] at this; exact this)
            clear hX hllD hwD
            by_cases hD0 : 0 < D.length
            · have hDI : 0 < (D.length : Int) := by omega
              have hE2 := hd_ (show Calls Try.prog 46 #[.pointer (some ⟨g2, 0, none⟩)] wr (fun e w' => e = .returned (.int .i64 34) ∧ Below wr.heap.size wr w') from by have := hle.out wr hP.out.2.2.1; have e : rEnd (L ++ D) L.length 0 = 34 := (by unfold rEnd; rw [if_pos ⟨rfl, by rw [List.length_append]; omega⟩]); rw [e] at this; exact this)
              clear hle
              go_wp2_with (first
                | (go_at_call 46; (with_reducible refine hE2.out.mono ?_); rintro e wa ⟨rfl, HBa⟩; have Pa := hP.out.keep HBa; have hL2 := hLft.out wa Pa.2.2.1)
                | (go_at_call 30; (with_reducible refine hL2.mono ?_); rintro e wb ⟨rfl, HBb⟩; have Pb := Pa.keep HBb; have hE3 := hE1.out wb Pb.2.1)
                | (go_at_call 46; (with_reducible refine hE3.mono ?_); rintro e wc ⟨rfl, HBc⟩; have Pc := Pb.keep HBc; have rc := Pc.2.1; have hS3 := hSz.out wc Pc.1)
                | (go_at_call 31; (with_reducible refine (R_At_any g1 r1 L L.length 0 wc rc).mono ?_); rintro e wd ⟨rfl, rfl⟩)
                | (go_at_call 47; (with_reducible refine hS3.mono ?_); rintro e wd ⟨rfl, rfl⟩))
              go_ret
              exact ⟨by simp, Pc.2.2.2.2.2.2⟩
            · have hDI : ¬ 0 < (D.length : Int) := by omega
              have hL2 := hd_ (hLft.out wr hP.out.2.2.1)
              clear hle
              go_wp2_with (first
                | (go_at_call 30; (with_reducible refine hL2.out.mono ?_); rintro e wb ⟨rfl, HBb⟩; have Pb := hP.out.keep HBb; have hE3 := hE1.out wb Pb.2.1)
                | (go_at_call 46; (with_reducible refine hE3.mono ?_); rintro e wc ⟨rfl, HBc⟩; have Pc := Pb.keep HBc; have rc := Pc.2.1; have hS3 := hSz.out wc Pc.1)
                | (go_at_call 31; (with_reducible refine (R_At_any g1 r1 L L.length 0 wc rc).mono ?_); rintro e wd ⟨rfl, rfl⟩)
                | (go_at_call 47; (with_reducible refine hS3.mono ?_); rintro e wd ⟨rfl, rfl⟩))
              go_ret
              exact ⟨by simp, Pc.2.2.2.2.2.2⟩
      · rw [if_neg h0] at HO1
        have hlb := HO1.rd.2.len (P := Try.prog) 25 5 3 Try.underlying25
        have hB : ((bkF x x.length).1 == 0) = false := by rw [beq_eq_false_iff_ne]; exact h0
        have hB2 : ((bkF x x.length).1 != 0) = true := by rw [bne, hB]; rfl
        have q1 : w1.cell? ⟨w.heap.size + 1, 1, none⟩ = some (.int .i64 (bkF x x.length).1) := by rw [← heH.out]; exact P1.out.1.2.1.1.cell 1 rfl
        go_wp2
        go_ret
        exact ⟨by simp, P1.out.2.2⟩
end Go.Proofs.Ytlaeiipiboabaaa
