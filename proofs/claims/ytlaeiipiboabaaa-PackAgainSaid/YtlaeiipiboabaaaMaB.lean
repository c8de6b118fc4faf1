/- The law PackAgain. -/
import Derived.Test.YtlaeiipiboabaaaMaA
import Derived.Test.YtlaeiipiboabaaaMwC
namespace Go.Proofs.Ytlaeiipiboabaaa
open Go.RowKit
set_option maxRecDepth 100000
set_option linter.unusedVariables false
theorem RrM.chg {w w1 : World} {g : Nat} {v : Value} {B : List Int} {a : Nat} {err : Int} {S : Nat → Prop} (h : Rr w g v B a err) (hc : Chg S w w1) (hg : ¬ S g) (hv : ∀ k, v.ownBlock = some k → ¬ S k) : Rr w1 g v B a err := ⟨h.1.chg hc hg, h.2.1.chg hc hv, h.2.2⟩
/-- a writer and a reader, side by side; what was there ahead of them is as it was -/
def Ag (w0 W : World) (gw : Nat) (vw : Value) (s : WS) (h : Nat) (u : Value) (B : List Int) (a : Nat) (err : Int) : Prop :=
  Wr W gw vw s ∧ Rr W h u B a err ∧ (∀ b, vw.ownBlock = some b → u.ownBlock ≠ some b) ∧ w0.heap.size ≤ gw ∧ w0.heap.size ≤ h ∧ (∀ b, vw.ownBlock = some b → w0.heap.size ≤ b) ∧ Below w0.heap.size w0 W
section
variable {w0 W W1 : World} {gw : Nat} {vw : Value} {s s1 : WS} {h : Nat} {u : Value} {B : List Int} {a a1 : Nat} {err e1 : Int}
theorem Ag.keep (t : Ag w0 W gw vw s h u B a err) (hb : Below W.heap.size W W1) : Ag w0 W1 gw vw s h u B a err :=
  ⟨⟨t.1.1.keep hb, t.1.2.keep hb⟩, t.2.1.keep hb, t.2.2.1, t.2.2.2.1, t.2.2.2.2.1, t.2.2.2.2.2.1, bel_trans t.2.2.2.2.2.2 hb⟩
theorem Ag.rd (t : Ag w0 W gw vw s h u B a err) (p : RrPost W h u B a1 e1 W1) : Ag w0 W1 gw vw s h u B a1 e1 := by
  obtain ⟨t1, t2, n1, n2, n3, n4, hB⟩ := t
  have m1 : gw ≠ h := box_box t1.1 t2.1 (by decide)
  have m2 : vw.ownBlock ≠ some h := own_box t1.2 t2.1 (by decide)
  exact ⟨⟨t1.1.chg p.2 m1, t1.2.chg p.2 (fun k hk e => m2 (e ▸ hk))⟩, p.1, n1, n2, n3, n4, p.2.then hB (fun k e => by rw [e]; exact n3) hB.size⟩
theorem Ag.wr (t : Ag w0 W gw vw s h u B a err) (p : WrPost W gw vw s1 W1) : ∃ v', Ag w0 W1 gw v' s1 h u B a err := by
  obtain ⟨t1, t2, n1, n2, n3, n4, hB⟩ := t
  obtain ⟨v', hW, hC, ho⟩ := p
  have m1 : gw ≠ h := box_box t1.1 t2.1 (by decide)
  have m2 : vw.ownBlock ≠ some h := own_box t1.2 t2.1 (by decide)
  have m3 : u.ownBlock ≠ some gw := own_box t2.2.1 t1.1 (by decide)
  have hs := hB.size
  refine ⟨v', hW, RrM.chg t2 hC ?_ ?_, ?_, n2, n3, ?_, hC.then hB ?_ hB.size⟩
  · rintro (e | e)
    · exact m1 e.symm
    · exact m2 e.symm
  · rintro k hk (e | e)
    · exact m3 (e ▸ hk)
    · exact n1 k e.symm hk
  · intro b e e2
    rcases ho with h1 | ⟨k, h1, h2⟩
    · exact n1 b (h1 ▸ e) e2
    · rw [h1] at e; injection e with e
      have := (own_lt t2.2.1 b e2).2; omega
  · intro b e
    rcases ho with h1 | ⟨k, h1, h2⟩
    · exact n4 b (h1 ▸ e)
    · rw [h1] at e; injection e with e; omega
  · rintro k (e | e)
    · rw [e]; exact n2
    · exact n4 k e.symm
end
theorem W_Row_back (B : List Int) (hB : IsBytes B) (hl : B.length ≤ 140737488351232) (a : Nat) (ha : a ≤ B.length) (g : Nat) (v : Value) (k u : List Int) (n : Int) (a' : Nat) (hR : rRow B a 0 = ((k, u, n), a', 0)) (w : World) (h : Wr w g v (0, B.take a)) :
    Calls Try.prog 43 #[.pointer (some ⟨g, 0, none⟩), .agg (rowC (strOfNums k) (strOfNums u) n)] w (WrRet w g v (0, B.take a')) := by
  have hr := (ag_row B hB a ha 0).2
  rw [hR] at hr
  obtain ⟨m, h1, h2, h3, h4, h5, h6, h7, h8, h9, h10⟩ := hr rfl
  simp only at h1 h4 h5 h6 h7 h8 h9 h10
  subst h1
  have z1 : (strOfNums k).size = k.length := strOfNums_size k
  have z2 : (strOfNums u).size = u.length := strOfNums_size u
  have hta : (B.take a).length = a := by rw [List.length_take]; omega
  have := W_Row_fit g v (B.take a) (strOfNums k) (strOfNums u) m w h (by rw [z1]; intro e; exact h4 (List.eq_nil_of_length_eq_zero e)) h2 (by rw [z1]; omega) (by rw [z2]; omega) (by omega) (by rw [z1, z2, hta]; omega)
  rw [z1, z2, byL_strM h7, byL_strM h8, h10] at this
  exact this
set_option maxHeartbeats 8000000 in
theorem law_PackAgain (w : World) (v0 : Value) (B : List Int) (HR : Rd w v0 B) (hl : B.length ≤ 140737488351232) (v : Value) (x : List OpT) (r : RSl 41 128 ROp w [v] x) :
    Calls Try.prog 10 #[v0, v] w fun e w' => e = .returned (.bool true) ∧ Below w.heap.size w w' := by
  obtain ⟨v', vs, hv, hR, hBB, hx⟩ := r
  injection hv with hv
  subst hv
  have hRH := hd_ hR
  have hxH := hd_ hx
  obtain ⟨hvl, A, cap, rfl, hc1, hc2, _, _⟩ := hR
  have hxl : x.length ≤ 1099511627776 := by omega
  clear hx hBB
  have hlen := HR.2.len (P := Try.prog) 25 5 3 Try.underlying25
  have hIn := hd_ (And.intro HR (And.intro hl HR.1))
  have hl3 := hd_ (show B.length ≤ 140737488355328 by omega)
  have hB1 := hd_ (al1 (Below.refl w.heap.size w) (.cells #[.int .i64 0, .slice none 0 0] 43))
  have hbw := hd_ (Box.new w #[.int .i64 0, .slice none 0 0] 43)
  have hl63 : B.length ≤ 9223372036854775807 := by omega
  clear HR hl
  go_enter Try.func10, Try.ntmps10
  go_upto_region 6 with (first
    | (go_at_call 14; (with_reducible refine (R_New_any v0 B _ (hIn.out.1.keep hB1.out) hl3.out).mono ?_); rintro e w1 ⟨gr, vr, rfl, HRr, hgr, hvr, HB1⟩; have hRr := hd_ HRr)
    | (go_at_call 30; (with_reducible refine (R_Left_any gr vr B 0 0 w1 hRr.out).mono ?_); rintro e w2 ⟨rfl, m2, hm2⟩))
  subst hm2
  have hBa := bel_trans HB1 (below_drewN (Below.refl _ _) m2)
  have hz1 := hB1.out.size
  have hN := hd_ (show Ag w (w1.drewN m2) w.heap.size (.slice none 0 0) (0, B.take 0) gr vr B 0 0 from ⟨⟨hbw.out.keep hBa, own_nil8 _ _ _⟩, HRr.keep (below_drewN (Below.refl _ _) m2), fun b e => absurd e (by simp [Value.ownBlock]), Nat.le_refl _, Nat.le_trans hz1 hgr, fun b e => absurd e (by simp [Value.ownBlock]), bel_trans hB1.out hBa⟩)
  clear hBa hz1 HB1 hvr hgr HRr hRr hB1 hbw
  go_loopw [25] (fun vi wr => ∃ (k : Nat) (vw : Value) (a : Nat) (err : Int), k ≤ x.length ∧ vi = .int .i64 (k : Int) ∧ Ag w wr w.heap.size vw (0, B.take a) gr vr B a err) (fun vi _ => x.length - (intOf vi).toNat)
  case atStart => exact ⟨0, _, 0, 0, Nat.zero_le _, rfl, hN.out⟩
  case round =>
    clear hN
    obtain ⟨k, vw, a, err, hk, rfl, hX⟩ := hrel
    by_cases hlt : k < x.length
    · have hkI : (k : Int) < (x.length : Int) := by omega
      obtain ⟨op, hop, hal, hra⟩ := hxH.out k hlt
      obtain ⟨V, hV, hVe, hcs, hd, hdb, hn, hm0, hm⟩ := op_cells hra hal
      obtain ⟨call, V0, n, most, S, F, ds, ⟨kk, u, m, u9⟩, u8⟩ := op
      have hmo : most ≤ 9223372036854775807 := (wf_i64 hra.2.2.2.1.2).2
      simp only at hVe hcs hd hdb hn hm0 hm
      subst hVe
      obtain ⟨C, hC⟩ : ∃ C, C = opC call (V : Int) n most S F ds kk u m := ⟨_, rfl⟩
      rw [← hC] at hcs
      have hCz : C.size = 41 := by rw [hC]; exact opC_size _ _ _ _ _ _ _ hd _ _ _
      obtain ⟨zO, bO, hzO⟩ := infoOpZ
      obtain ⟨bl, off, hix, hcell⟩ := hRH.out.whole Try.underlying39 hzO .i64 k hlt (by omega) C hcs hCz
      have hce := hd_ (cells_keep hcell hX.2.2.2.2.2.2)
      have hiO : (Try.prog.info? 53).map (·.size) = some C.size := by rw [hCz]; exact infoOp2
      have hC1 : C.all (·.oneCell') = true := by rw [hC]; exact opC_one _ _ _ _ _ _ _ _ _ _
      have hC0 : C[0]? = some (.int .i64 call) := by rw [hC]; exact opC_lo _ _ _ _ _ _ _ _ _ _ 0 (by decide)
      have hC3 : C[3]? = some (.int .i64 most) := by rw [hC]; exact opC_lo _ _ _ _ _ _ _ _ _ _ 3 (by decide)
      have hcur := hd_ hX
      have hkx := hd_ hlt
      have hmm := hd_ hmo
      have haB := hX.2.1.2.2
      have hle := hd_ (show a ≤ B.length from haB)
      clear hcs hcell hX hop hal hra hC hd hdb hn hm0 hm hV hzO hk hmo haB
      have hI1 : (Value.int IntKind.i64 (wrap64 ((k : Int) + 1))) = .int .i64 ((k : Int) + 1) := congrArg _ (by unfold wrap64; omega)
      go_upto_region 8 with (first
        | (refine load_at rfl 53 _ rfl bl off C _ rfl hce.out Try.underlying53 rfl hiO ?_)
        | (refine store_box rfl 53 _ _ rfl _ _ _ C rfl rfl (Box.new _ _ _) hiO (by rw [hCz]; rfl) hC1 ?_; intro w5 hb5 hg5))
      have HB5 := below_row (al1 (Below.refl wr.heap.size wr) _) hg5 (Nat.le_refl _) (size_al _ _)
      have P5 := hd_ (hcur.out.keep HB5)
      have hb5H := hd_ hb5
      have hnb := hd_ (show wr.heap.size ≠ gr from fun e => by have := hcur.out.2.1.1.lt; omega)
      have hR5 := hd_ P5.out.2.1
      have q0 := hb5.cell 0 hC0
      have q3 := hb5.cell 3 hC3
      simp only [Act.put]
      clear hg5 HB5 hcur hce hb5
      go_upto_region 9 with (go_at_call 31; (with_reducible refine (R_At_any gr vr B a err w5 hR5.out).mono ?_); rintro e wa ⟨rfl, rfl⟩)
      by_cases h0 : call = 0
      · subst h0
        obtain ⟨R, hRR⟩ : ∃ R, R = rUint B a err := ⟨_, rfl⟩
        have hag := ag_uint B hIn.out.2.2 a hle.out err
        have hrd := R_Uint_any gr vr B a err w5 hR5.out
        rw [← hRR] at hag
        simp only [← hRR] at hrd
        have hRH2 := hd_ hRR
        clear hRR
        obtain ⟨X, a', e'⟩ := R
        simp only at hag hrd
        obtain ⟨⟨g1, g2, g3, g4⟩, g5⟩ := hag
        simp only at g1 g2 g3 g4 g5
        have hrdH := hd_ hrd
        have hleI : ¬ ((a' : Int) < (a : Int)) := by omega
        clear hrd
        by_cases he : e' = 0
        · subst he
          obtain rfl := g4 rfl
          obtain ⟨q, rfl, hq, hw⟩ := g5 rfl
          have hwr := hd_ (fun W (h : Wr W w.heap.size vw (0, B.take a)) => show Calls Try.prog 22 #[.pointer (some ⟨w.heap.size, 0, none⟩), .int .u64 (q : Int)] W (WrRet W w.heap.size vw (0, B.take a')) by rw [← hw]; exact W_Uint_any _ vw _ q W h hq (by simp only [List.length_take]; have := hIn.out.2.1; omega))
          clear g3 g4 g5
          go_wp2_with (first
            | (go_at_call 15; (with_reducible refine hrdH.out.mono ?_); rintro e w6 ⟨rfl, H6⟩; have P6 := P5.out.rd H6; have r6 := H6.1; have P6w := P6.1)
            | (go_at_call 38; (with_reducible refine (R_Err_any gr vr B a' 0 w6 r6).mono ?_); rintro e wa ⟨rfl, rfl⟩)
            | (go_at_call 22; (with_reducible refine (hwr.out _ P6w).mono ?_); rintro e w8 ⟨rfl, H8⟩; obtain ⟨vw8, P8⟩ := P6.wr H8; have r8 := P8.2.1; have P8H := hd_ P8)
            | (go_at_call 31; (with_reducible refine (R_At_any gr vr B a' 0 w8 r8).mono ?_); rintro e wa ⟨rfl, rfl⟩)
            | (go_at_call 38; (with_reducible refine (R_Err_any gr vr B a' 0 w8 r8).mono ?_); rintro e wa ⟨rfl, rfl⟩))
          go_roundw
          case rel => exact ⟨k + 1, vw8, a', 0, hkx.out, by first | rfl | (rw [hI1]; rfl), P8H.out⟩
          case measure => first | (rw [hI1]; exact meas_k1 _ _ hkx.out) | exact meas_k1 _ _ hkx.out
        · obtain rfl := g3 he
          have heB : (e' == 0) = false := by rw [beq_eq_false_iff_ne]; exact he
          clear g3 g4 g5
          go_wp2_with (first
            | (go_at_call 15; (with_reducible refine hrdH.out.mono ?_); rintro e w6 ⟨rfl, H6⟩; have P6 := P5.out.rd H6; have r6 := H6.1; have P6w := P6.1)
            | (go_at_call 31; (with_reducible refine (R_At_any gr vr B a' e' w6 r6).mono ?_); rintro e wa ⟨rfl, rfl⟩)
            | (go_at_call 38; (with_reducible refine (R_Err_any gr vr B a' e' w6 r6).mono ?_); rintro e wa ⟨rfl, rfl⟩))
          go_roundw
          case rel => exact ⟨k + 1, vw, a', e', hkx.out, by first | rfl | (rw [hI1]; rfl), P6⟩
          case measure => first | (rw [hI1]; exact meas_k1 _ _ hkx.out) | exact meas_k1 _ _ hkx.out
      by_cases h2 : call = 2
      · subst h2
        obtain ⟨R, hRR⟩ : ∃ R, R = rText B a err most := ⟨_, rfl⟩
        have hag := ag_text B hIn.out.2.2 a hle.out err most (by have := hmm.out; omega)
        have hrd := R_Text_any gr vr B a err most w5 hR5.out hmm.out
        rw [← hRR] at hag
        simp only [← hRR] at hrd
        have hRH2 := hd_ hRR
        clear hRR
        obtain ⟨X, a', e'⟩ := R
        simp only at hag hrd
        obtain ⟨⟨g1, g2, g3, g4⟩, g5⟩ := hag
        simp only at g1 g2 g3 g4 g5
        have hrdH := hd_ hrd
        have hleI : ¬ ((a' : Int) < (a : Int)) := by omega
        clear hrd
        by_cases he : e' = 0
        · subst he
          obtain rfl := g4 rfl
          obtain ⟨hq1, hq2, hw⟩ := g5 rfl
          have hwr := hd_ (fun W (h : Wr W w.heap.size vw (0, B.take a)) => show Calls Try.prog 39 #[.pointer (some ⟨w.heap.size, 0, none⟩), .string (strOfNums X), .int .i64 most] W (WrRet W w.heap.size vw (0, B.take a')) by rw [← hw]; have := W_Text_any _ vw (0, B.take a) (strOfNums X) most W h (by rw [strOfNums_size, List.length_take]; have := hIn.out.2.1; omega); rw [byL_strM hq1] at this; exact this)
          clear g3 g4 g5
          go_wp2_with (first
            | (go_at_call 28; (with_reducible refine hrdH.out.mono ?_); rintro e w6 ⟨rfl, H6⟩; have P6 := P5.out.rd H6; have r6 := H6.1; have P6w := P6.1; have q36 := H6.2.cell q3 (fun e => hnb.out e))
            | (go_at_call 38; (with_reducible refine (R_Err_any gr vr B a' 0 w6 r6).mono ?_); rintro e wa ⟨rfl, rfl⟩)
            | (go_at_call 39; (with_reducible refine (hwr.out _ P6w).mono ?_); rintro e w8 ⟨rfl, H8⟩; obtain ⟨vw8, P8⟩ := P6.wr H8; have r8 := P8.2.1; have P8H := hd_ P8)
            | (go_at_call 31; (with_reducible refine (R_At_any gr vr B a' 0 w8 r8).mono ?_); rintro e wa ⟨rfl, rfl⟩)
            | (go_at_call 38; (with_reducible refine (R_Err_any gr vr B a' 0 w8 r8).mono ?_); rintro e wa ⟨rfl, rfl⟩))
          go_roundw
          case rel => exact ⟨k + 1, vw8, a', 0, hkx.out, by first | rfl | (rw [hI1]; rfl), P8H.out⟩
          case measure => first | (rw [hI1]; exact meas_k1 _ _ hkx.out) | exact meas_k1 _ _ hkx.out
        · obtain rfl := g3 he
          have heB : (e' == 0) = false := by rw [beq_eq_false_iff_ne]; exact he
          clear g3 g4 g5
          go_wp2_with (first
            | (go_at_call 28; (with_reducible refine hrdH.out.mono ?_); rintro e w6 ⟨rfl, H6⟩; have P6 := P5.out.rd H6; have r6 := H6.1; have P6w := P6.1; have q36 := H6.2.cell q3 (fun e => hnb.out e))
            | (go_at_call 31; (with_reducible refine (R_At_any gr vr B a' e' w6 r6).mono ?_); rintro e wa ⟨rfl, rfl⟩)
            | (go_at_call 38; (with_reducible refine (R_Err_any gr vr B a' e' w6 r6).mono ?_); rintro e wa ⟨rfl, rfl⟩))
          go_roundw
          case rel => exact ⟨k + 1, vw, a', e', hkx.out, by first | rfl | (rw [hI1]; rfl), P6⟩
          case measure => first | (rw [hI1]; exact meas_k1 _ _ hkx.out) | exact meas_k1 _ _ hkx.out
      by_cases h3 : call = 3
      · subst h3
        obtain ⟨R, hRR⟩ : ∃ R, R = rFlag B a err := ⟨_, rfl⟩
        have hag := ag_flag B hIn.out.2.2 a hle.out err
        have hrd := R_Flag_any gr vr B a err w5 hR5.out
        rw [← hRR] at hag
        simp only [← hRR] at hrd
        have hRH2 := hd_ hRR
        clear hRR
        obtain ⟨X, a', e'⟩ := R
        simp only at hag hrd
        obtain ⟨⟨g1, g2, g3, g4⟩, g5⟩ := hag
        simp only at g1 g2 g3 g4 g5
        have hrdH := hd_ hrd
        have hleI : ¬ ((a' : Int) < (a : Int)) := by omega
        clear hrd
        by_cases he : e' = 0
        · subst he
          obtain rfl := g4 rfl
          have hw := g5 rfl
          have hwr := hd_ (fun W (h : Wr W w.heap.size vw (0, B.take a)) => show Calls Try.prog 41 #[.pointer (some ⟨w.heap.size, 0, none⟩), .bool X] W (WrRet W w.heap.size vw (0, B.take a')) by rw [← hw]; exact W_Flag_any _ vw _ X W h (by simp only [List.length_take]; have := hIn.out.2.1; omega))
          clear g3 g4 g5
          go_wp2_with (first
            | (go_at_call 40; (with_reducible refine hrdH.out.mono ?_); rintro e w6 ⟨rfl, H6⟩; have P6 := P5.out.rd H6; have r6 := H6.1; have P6w := P6.1)
            | (go_at_call 38; (with_reducible refine (R_Err_any gr vr B a' 0 w6 r6).mono ?_); rintro e wa ⟨rfl, rfl⟩)
            | (go_at_call 41; (with_reducible refine (hwr.out _ P6w).mono ?_); rintro e w8 ⟨rfl, H8⟩; obtain ⟨vw8, P8⟩ := P6.wr H8; have r8 := P8.2.1; have P8H := hd_ P8)
            | (go_at_call 31; (with_reducible refine (R_At_any gr vr B a' 0 w8 r8).mono ?_); rintro e wa ⟨rfl, rfl⟩)
            | (go_at_call 38; (with_reducible refine (R_Err_any gr vr B a' 0 w8 r8).mono ?_); rintro e wa ⟨rfl, rfl⟩))
          go_roundw
          case rel => exact ⟨k + 1, vw8, a', 0, hkx.out, by first | rfl | (rw [hI1]; rfl), P8H.out⟩
          case measure => first | (rw [hI1]; exact meas_k1 _ _ hkx.out) | exact meas_k1 _ _ hkx.out
        · obtain rfl := g3 he
          have heB : (e' == 0) = false := by rw [beq_eq_false_iff_ne]; exact he
          clear g3 g4 g5
          go_wp2_with (first
            | (go_at_call 40; (with_reducible refine hrdH.out.mono ?_); rintro e w6 ⟨rfl, H6⟩; have P6 := P5.out.rd H6; have r6 := H6.1; have P6w := P6.1)
            | (go_at_call 31; (with_reducible refine (R_At_any gr vr B a' e' w6 r6).mono ?_); rintro e wa ⟨rfl, rfl⟩)
            | (go_at_call 38; (with_reducible refine (R_Err_any gr vr B a' e' w6 r6).mono ?_); rintro e wa ⟨rfl, rfl⟩))
          go_roundw
          case rel => exact ⟨k + 1, vw, a', e', hkx.out, by first | rfl | (rw [hI1]; rfl), P6⟩
          case measure => first | (rw [hI1]; exact meas_k1 _ _ hkx.out) | exact meas_k1 _ _ hkx.out
      by_cases h5 : call = 5
      · subst h5
        obtain ⟨R, hRR⟩ : ∃ R, R = rRow B a err := ⟨_, rfl⟩
        have hag := ag_row B hIn.out.2.2 a hle.out err
        have hrd := R_Row_any gr vr B a err w5 hR5.out
        rw [← hRR] at hag
        simp only [← hRR] at hrd
        have hRH2 := hd_ hRR
        clear hRR
        obtain ⟨X, a', e'⟩ := R
        simp only at hag hrd
        obtain ⟨⟨g1, g2, g3, g4⟩, g5⟩ := hag
        simp only at g1 g2 g3 g4 g5
        have hrdH := hd_ hrd
        have hleI : ¬ ((a' : Int) < (a : Int)) := by omega
        clear hrd
        by_cases he : e' = 0
        · subst he
          obtain rfl := g4 rfl
          have hwr := hd_ (fun W (h : Wr W w.heap.size vw (0, B.take a)) => W_Row_back B hIn.out.2.2 hIn.out.2.1 a hle.out _ vw X.1 X.2.1 X.2.2 a' hRH2.out.symm W h)
          clear g3 g4 g5
          go_wp2_with (first
            | (go_at_call 42; (with_reducible refine hrdH.out.mono ?_); rintro e w6 ⟨rfl, H6⟩; have P6 := P5.out.rd H6; have r6 := H6.1; skip)
            | (refine store_box rfl 51 _ _ rfl _ _ _ (rowC (strOfNums X.1) (strOfNums X.2.1) X.2.2) rfl rfl (Box.new _ _ _) infoRw rfl (rowC_one _ _ _) ?_; intro w7 hb7 hg7; have HB7 := below_row (al1 (Below.refl w6.heap.size w6) _) hg7 (Nat.le_refl _) (size_al _ _); have P7 := P6.keep HB7; have r7 := P7.2.1; have P6w := P7.1)
            | (refine load_box rfl 51 _ rfl w6.heap.size 51 (rowC (strOfNums X.1) (strOfNums X.2.1) X.2.2) _ rfl hb7 Try.underlying51 rfl infoRw ?_)
            | (go_at_call 38; (with_reducible refine (R_Err_any gr vr B a' 0 w7 r7).mono ?_); rintro e wa ⟨rfl, rfl⟩)
            | (go_at_call 43; (with_reducible refine (hwr.out _ P6w).mono ?_); rintro e w8 ⟨rfl, H8⟩; obtain ⟨vw8, P8⟩ := P7.wr H8; have r8 := P8.2.1; have P8H := hd_ P8)
            | (go_at_call 31; (with_reducible refine (R_At_any gr vr B a' 0 w8 r8).mono ?_); rintro e wa ⟨rfl, rfl⟩)
            | (go_at_call 38; (with_reducible refine (R_Err_any gr vr B a' 0 w8 r8).mono ?_); rintro e wa ⟨rfl, rfl⟩))
          go_roundw
          case rel => exact ⟨k + 1, vw8, a', 0, hkx.out, by first | rfl | (rw [hI1]; rfl), P8H.out⟩
          case measure => first | (rw [hI1]; exact meas_k1 _ _ hkx.out) | exact meas_k1 _ _ hkx.out
        · obtain rfl := g3 he
          have heB : (e' == 0) = false := by rw [beq_eq_false_iff_ne]; exact he
          clear g3 g4 g5
          go_wp2_with (first
            | (go_at_call 42; (with_reducible refine hrdH.out.mono ?_); rintro e w6 ⟨rfl, H6⟩; have P6 := P5.out.rd H6; have r6 := H6.1; skip)
            | (refine store_box rfl 51 _ _ rfl _ _ _ (rowC (strOfNums X.1) (strOfNums X.2.1) X.2.2) rfl rfl (Box.new _ _ _) infoRw rfl (rowC_one _ _ _) ?_; intro w7 hb7 hg7; have HB7 := below_row (al1 (Below.refl w6.heap.size w6) _) hg7 (Nat.le_refl _) (size_al _ _); have P7 := P6.keep HB7; have r7 := P7.2.1; have P6w := P7.1)
            | (refine load_box rfl 51 _ rfl w6.heap.size 51 (rowC (strOfNums X.1) (strOfNums X.2.1) X.2.2) _ rfl hb7 Try.underlying51 rfl infoRw ?_)
            | (go_at_call 31; (with_reducible refine (R_At_any gr vr B a' e' w7 r7).mono ?_); rintro e wa ⟨rfl, rfl⟩)
            | (go_at_call 38; (with_reducible refine (R_Err_any gr vr B a' e' w7 r7).mono ?_); rintro e wa ⟨rfl, rfl⟩))
          go_roundw
          case rel => exact ⟨k + 1, vw, a', e', hkx.out, by first | rfl | (rw [hI1]; rfl), P7⟩
          case measure => first | (rw [hI1]; exact meas_k1 _ _ hkx.out) | exact meas_k1 _ _ hkx.out
      have b0 : (call == 0) = false := beq_false_of_ne h0
      have b2 : (call == 2) = false := beq_false_of_ne h2
      have b3 : (call == 3) = false := beq_false_of_ne h3
      have b5 : (call == 5) = false := beq_false_of_ne h5
      have hleI : ¬ ((a : Int) < (a : Int)) := by omega
      by_cases he : err = 0
      · subst he
        go_wp2_with (first
          | (go_at_call 31; (with_reducible refine (R_At_any gr vr B a 0 w5 hR5.out).mono ?_); rintro e wa ⟨rfl, rfl⟩)
          | (go_at_call 38; (with_reducible refine (R_Err_any gr vr B a 0 w5 hR5.out).mono ?_); rintro e wa ⟨rfl, rfl⟩))
        go_roundw
        case rel => exact ⟨k + 1, vw, a, 0, hkx.out, by first | rfl | (rw [hI1]; rfl), P5.out⟩
        case measure => first | (rw [hI1]; exact meas_k1 _ _ hkx.out) | exact meas_k1 _ _ hkx.out
      · have heB : (err == 0) = false := by rw [beq_eq_false_iff_ne]; exact he
        go_wp2_with (first
          | (go_at_call 31; (with_reducible refine (R_At_any gr vr B a err w5 hR5.out).mono ?_); rintro e wa ⟨rfl, rfl⟩)
          | (go_at_call 38; (with_reducible refine (R_Err_any gr vr B a err w5 hR5.out).mono ?_); rintro e wa ⟨rfl, rfl⟩))
        go_roundw
        case rel => exact ⟨k + 1, vw, a, err, hkx.out, by first | rfl | (rw [hI1]; rfl), P5.out⟩
        case measure => first | (rw [hI1]; exact meas_k1 _ _ hkx.out) | exact meas_k1 _ _ hkx.out
    · obtain rfl : k = x.length := by omega
      have hP := hd_ hX
      have haB := hX.2.1.2.2
      have hBl := hIn.out.2.1
      have hr0 := hd_ hX.2.1
      have hw1 : IntKind.i64.wrap ((a : Int) + ((B.length : Int) - (a : Int))) = (B.length : Int) := by rw [IntKind.wrap_i64]; omega
      have hw2 : wrap64 ((a : Int) + ((B.length : Int) - (a : Int))) = (B.length : Int) := by unfold wrap64; omega
      have hn0 : ¬ ((a : Int) < 0) := by omega
      have hn1 : ¬ ((B.length : Int) - (a : Int) < 0) := by omega
      have hL := hd_ (fun W (h : Rr W gr vr B a err) => R_Left_any gr vr B a err W h)
      clear hX
      go_upto_region 31 with (first
        | (go_at_call 31; (with_reducible refine (R_At_any gr vr B a err wr hr0.out).mono ?_); rintro e wa ⟨rfl, rfl⟩)
        | (go_at_call 30; (with_reducible refine (R_Left_any gr vr B a err wr hr0.out).mono ?_); rintro e w2 ⟨rfl, m2, rfl⟩; have HB2 := below_drewN (Below.refl wr.heap.size wr) m2; have hr2 := hr0.out.keep HB2)
        | (go_at_call 31; (with_reducible refine (R_At_any gr vr B a err (wr.drewN m2) hr2).mono ?_); rintro e wa ⟨rfl, rfl⟩)
        | (go_at_call 30; (with_reducible refine (R_Left_any gr vr B a err (wr.drewN m2) hr2).mono ?_); rintro e w3 ⟨rfl, m3, rfl⟩; have HB3 := below_drewN (Below.refl (wr.drewN m2).heap.size (wr.drewN m2)) m3; have hr3 := hr2.keep HB3))
      have P9 := hP.out.keep (below_drewN (Below.refl wr.heap.size wr) (m2 + m3))
      clear hr3 HB3
      generalize wr.drewN (m2 + m3) = W3 at *
      have hta : (B.take a).length = a := by rw [List.length_take]; omega
      have hWB := hd_ (W_Bytes_any w.heap.size vw (0, B.take a) W3 P9.1 (by simp only [hta]; omega))
      have HP9 := hd_ P9
      clear P9 hP HB2 hr0 hr2 hL
      obtain ⟨p, hs0, hRp0⟩ := hIn.out.1.sl_h (P := Try.prog) Try.underlying25 infoB a haB
      have hRp := hd_ hRp0
      clear hRp0
      go_wp2_with (first
        | (go_at_call 23; (with_reducible refine hWB.out.mono ?_); rintro e w4 ⟨c4, rfl, HO4, HB4⟩; have P10 := HP9.out.keep HB4; have hr10 := P10.2.1; have hc4 : Rd w4 c4 (B.take a) := (by have := HO4.rd; rw [if_pos rfl] at this; exact this); have hp4 := hRp.out.keep P10.2.2.2.2.2.2)
        | (go_at_call 31; (with_reducible refine (R_At_any gr vr B a err w4 hr10).mono ?_); rintro e wa ⟨rfl, rfl⟩)
        | (go_at_call 19; (with_reducible refine (Same_any c4 p (B.take a) (B.take a) w4 hc4 hp4).mono ?_); rintro e w5 ⟨rfl, rfl⟩))
      go_ret
      exact ⟨by simp, P10.2.2.2.2.2.2⟩
end Go.Proofs.Ytlaeiipiboabaaa
