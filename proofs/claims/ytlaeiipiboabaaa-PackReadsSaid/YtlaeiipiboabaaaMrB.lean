/- The law PackReads. -/
import Derived.Test.YtlaeiipiboabaaaMrA
import Derived.Test.YtlaeiipiboabaaaMwC
import Derived.Test.YtlaeiipiboabaaaPlA
namespace Go.Proofs.Ytlaeiipiboabaaa
open Go.RowKit
set_option maxRecDepth 100000
set_option linter.unusedVariables false
theorem Two.chg {S : Nat → Prop} {w w1 : World} {g h : Nat} {v u : Value} {B : List Int} {a : Nat} {err : Int} (t : Two w g h v u B a err) (hc : Chg S w w1) (h1 : ¬ S g) (h2 : ¬ S h) (h3 : ∀ k, v.ownBlock = some k → ¬ S k) (h4 : B = [] ∨ ∀ k, u.ownBlock = some k → ¬ S k) : Two w1 g h v u B a err :=
  ⟨⟨t.1.1.chg hc h1, t.1.2.1.chg hc h3, t.1.2.2⟩, ⟨t.2.1.1.chg hc h2, t.2.1.2.1.chgE hc h4, t.2.1.2.2⟩, t.2.2⟩
/-- two pairs of readers, apart; what was there ahead of them is as it was -/
def Rd2 (w0 W : World) (g h : Nat) (v u : Value) (B : List Int) (a : Nat) (err : Int) (g2 h2 : Nat) (v2 u2 : Value) (B2 : List Int) (a2 : Nat) (err2 : Int) : Prop :=
  Two W g h v u B a err ∧ Two W g2 h2 v2 u2 B2 a2 err2 ∧ (g ≠ g2 ∧ g ≠ h2 ∧ h ≠ g2 ∧ h ≠ h2) ∧
  (v.ownBlock ≠ some g2 ∧ v.ownBlock ≠ some h2 ∧ (B = [] ∨ (u.ownBlock ≠ some g2 ∧ u.ownBlock ≠ some h2))) ∧
  (v2.ownBlock ≠ some g ∧ v2.ownBlock ≠ some h ∧ (B2 = [] ∨ (u2.ownBlock ≠ some g ∧ u2.ownBlock ≠ some h))) ∧
  (w0.heap.size ≤ g ∧ w0.heap.size ≤ h ∧ w0.heap.size ≤ g2 ∧ w0.heap.size ≤ h2) ∧ Below w0.heap.size w0 W
section
variable {w0 W W1 : World} {g h : Nat} {v u : Value} {B : List Int} {a a1 : Nat} {err e1 : Int} {g2 h2 : Nat} {v2 u2 : Value} {B2 : List Int} {a2 : Nat} {err2 : Int}
theorem Rd2.keep (t : Rd2 w0 W g h v u B a err g2 h2 v2 u2 B2 a2 err2) (hb : Below W.heap.size W W1) : Rd2 w0 W1 g h v u B a err g2 h2 v2 u2 B2 a2 err2 :=
  ⟨t.1.keep hb, t.2.1.keep hb, t.2.2.1, t.2.2.2.1, t.2.2.2.2.1, t.2.2.2.2.2.1, bel_trans t.2.2.2.2.2.2 hb⟩
theorem Rd2.swap (t : Rd2 w0 W g h v u B a err g2 h2 v2 u2 B2 a2 err2) : Rd2 w0 W g2 h2 v2 u2 B2 a2 err2 g h v u B a err :=
  ⟨t.2.1, t.1, ⟨t.2.2.1.1.symm, t.2.2.1.2.2.1.symm, t.2.2.1.2.1.symm, t.2.2.1.2.2.2.symm⟩, t.2.2.2.2.1, t.2.2.2.1, ⟨t.2.2.2.2.2.1.2.2.1, t.2.2.2.2.2.1.2.2.2, t.2.2.2.2.2.1.1, t.2.2.2.2.2.1.2.1⟩, t.2.2.2.2.2.2⟩
theorem Rd2.step (t : Rd2 w0 W g h v u B a err g2 h2 v2 u2 B2 a2 err2) (p : TwoPost W g h v u B a1 e1 W1) : Rd2 w0 W1 g h v u B a1 e1 g2 h2 v2 u2 B2 a2 err2 := by
  obtain ⟨t1, t2, n1, n2, n3, n4, hB⟩ := t
  obtain ⟨p1, hC⟩ := p
  refine ⟨p1, t2.chg hC ?_ ?_ ?_ ?_, n1, n2, n3, n4, hC.then hB ?_ hB.size⟩
  · rintro (e | e)
    · exact n1.1 e.symm
    · exact n1.2.2.1 e.symm
  · rintro (e | e)
    · exact n1.2.1 e.symm
    · exact n1.2.2.2 e.symm
  · rintro k hk (e | e)
    · exact n3.1 (e ▸ hk)
    · exact n3.2.1 (e ▸ hk)
  · refine n3.2.2.imp id fun hx => ?_
    rintro k hk (e | e)
    · exact hx.1 (e ▸ hk)
    · exact hx.2 (e ▸ hk)
  · rintro k (e | e)
    · rw [e]; exact n4.1
    · rw [e]; exact n4.2.1
end
abbrev qrO (v : Value) : Obj := .cells #[v, .int .i64 0, .int .i64 0] 72
abbrev l3O : Obj := .cells #[.int .u8 5, .int .u8 172, .int .u8 2] 5
theorem lit3 : (#[.int .u8 5, .int .u8 172, .int .u8 2] : Array Value) = u8A [5, 172, 2] := rfl
/-- the document's readers, made -/
theorem two_new (w W : World) (g g2 : Nat) (v v2 v0 : Value) (B : List Int) (hR : Rr W g v B 0 0) (hR2 : Rr W g2 v2 [5, 172, 2] 0 0) (hd : Rd W v0 B) (h0 : B = [] ∨ ∀ k, v0.ownBlock = some k → k < w.heap.size) (hg : w.heap.size ≤ g) (hg2 : w.heap.size ≤ g2) (hne : g ≠ g2) (hv : v.ownBlock ≠ some g2) (hv2 : v2.ownBlock ≠ some g) (hB : Below w.heap.size w W) :
    Rd2 w (((W.alloc (qrO v0)).alloc l3O).alloc (qrO (.slice (some ⟨W.heap.size + 1, 0, none⟩) 3 3))) g W.heap.size v v0 B 0 0 g2 (W.heap.size + 1 + 1) v2 (.slice (some ⟨W.heap.size + 1, 0, none⟩) 3 3) [5, 172, 2] 0 0 := by
  have n1 : ∀ W : World, ∀ o, Below W.heap.size W (W.alloc o) := fun W o => al1 (Below.refl _ _) o
  have z1 : (W.alloc (qrO v0)).heap.size = W.heap.size + 1 := World.size_alloc _ _
  have z2 : ((W.alloc (qrO v0)).alloc l3O).heap.size = W.heap.size + 1 + 1 := by rw [World.size_alloc, z1]
  have b1 := ((Box.new W _ 72 : Box (W.alloc (qrO v0)) _ _ _).keep (n1 _ l3O)).keep (n1 _ (qrO (.slice (some ⟨W.heap.size + 1, 0, none⟩) 3 3)))
  have o2 := (lit_own8 (W.alloc (qrO v0)) 0 (Nat.zero_le _) [5, 172, 2] (by intro b hb; simp at hb; omega) 3 rfl (by unfold maxLen; omega)).keep (n1 _ (qrO (.slice (some ⟨W.heap.size + 1, 0, none⟩) 3 3)))
  have b3 := (Box.new ((W.alloc (qrO v0)).alloc l3O) _ 72 : Box (((W.alloc (qrO v0)).alloc l3O).alloc (qrO (.slice (some ⟨W.heap.size + 1, 0, none⟩) 3 3))) _ _ _)
  rw [z1] at o2
  rw [z2] at b3
  have hBB := bel_trans (n1 W (qrO v0)) (bel_trans (n1 _ l3O) (n1 _ (qrO (.slice (some ⟨W.heap.size + 1, 0, none⟩) 3 3))))
  rw [← lit3] at o2
  generalize (((W.alloc (qrO v0)).alloc l3O).alloc (qrO (.slice (some ⟨W.heap.size + 1, 0, none⟩) 3 3))) = Z at *
  have hs := hB.size
  have l1 := hR.1.lt
  have l2 := hR2.1.lt
  have lv : ∀ k, v.ownBlock = some k → k < W.heap.size := fun k e => (own_lt hR.2.1 k e).2
  have lv2 : ∀ k, v2.ownBlock = some k → k < W.heap.size := fun k e => (own_lt hR2.2.1 k e).2
  have e3 : (Value.slice (some ⟨W.heap.size + 1, 0, none⟩) 3 3).ownBlock = some (W.heap.size + 1) := rfl
  refine ⟨⟨hR.keep hBB, ⟨b1, hd.keep hBB, ?_, Nat.zero_le _⟩, by omega, fun e => by have := lv _ e; omega, ?_⟩, ⟨hR2.keep hBB, ⟨b3, o2.rd, .inr (by rw [e3]; intro e; injection e with e; omega), Nat.zero_le _⟩, by omega, fun e => by have := lv2 _ e; omega, .inr (by rw [e3]; intro e; injection e with e; omega)⟩, ⟨hne, by omega, by omega, by omega⟩, ⟨hv, fun e => by have := lv _ e; omega, ?_⟩, ⟨hv2, fun e => by have := lv2 _ e; omega, .inr ⟨by rw [e3]; intro e; injection e with e; omega, by rw [e3]; intro e; injection e with e; omega⟩⟩, ⟨hg, hs, hg2, by omega⟩, bel_trans hB hBB⟩
  · exact h0.imp id fun hx e => by have := hx _ e; omega
  · exact h0.imp id fun hx e => by have := hx _ e; omega
  · exact h0.imp id fun hx => ⟨fun e => by have := hx _ e; omega, fun e => by have := hx _ e; omega⟩
theorem rd_old {w : World} {v : Value} {B : List Int} (h : Rd w v B) : B = [] ∨ ∀ k, v.ownBlock = some k → k < w.heap.size := by
  by_cases hB : B = []
  · exact .inl hB
  · refine .inr fun k hk => ?_
    obtain ⟨A, cap, hv, _, _, _, hc⟩ := h.form
    obtain ⟨b, off, hA, hcell⟩ := hc 0 (by cases B with | nil => exact absurd rfl hB | cons => simp)
    rw [hv, hA] at hk
    have hk2 : b = k ∨ b ≠ k := Decidable.em _
    have e : (Value.slice (some ⟨b, off, none⟩) B.length cap).ownBlock = some b ∨ (Value.slice (some ⟨b, off, none⟩) B.length cap).ownBlock = none := by
      first | exact .inl rfl | (unfold Value.ownBlock; split <;> simp)
    rcases e with e | e
    · rw [e] at hk
      injection hk with hk
      subst hk
      exact World.block_lt_of_cell? w _ hcell
    · rw [e] at hk; cases hk
set_option maxHeartbeats 8000000 in
theorem law_PackReads (w : World) (v0 : Value) (B : List Int) (HR : Rd w v0 B) (hl : B.length ≤ 140737488351232) (v : Value) (x : List OpT) (r : RSl 41 128 ROp w [v] x) :
    Calls Try.prog 9 #[v0, v] w fun e w' => e = .returned (.bool true) ∧ Below w.heap.size w w' := by
  obtain ⟨v', vs, hv, hR, hBB, hx⟩ := r
  injection hv with hv
  subst hv
  have hRH := hd_ hR
  have hxH := hd_ hx
  obtain ⟨hvl, A, cap, rfl, hc1, hc2, _, _⟩ := hR
  have hxl : x.length ≤ 1099511627776 := by omega
  clear hx hBB
  have hIn := hd_ (And.intro HR (And.intro hl (rd_old HR)))
  have hl3 := hd_ (show B.length ≤ 140737488355328 by omega)
  clear HR hl
  go_enter Try.func9, Try.ntmps9
  go_upto_region 6 with (first
    | (go_at_call 32; (with_reducible refine (Lend_any v0 B _ hIn.out.1 hIn.out.2.1).mono ?_); rintro e w1 ⟨g1, c1, q1, rfl, HOw, HRq, hqb, HB1⟩; have HRqH := hd_ HRq)
    | (go_at_call 14; (with_reducible refine (R_New_any q1 B w1 HRqH.out hl3.out).mono ?_); rintro e w2 ⟨g, vr, rfl, HRr, hg, hvr, HB2⟩; have hO3 := hd_ (lit_own8 w2 0 (Nat.zero_le _) [5, 172, 2] (by intro b hb; simp at hb; omega) 3 rfl (by unfold maxLen; omega)); have HBl := al1 (Below.refl w2.heap.size w2) (.cells (u8A [5, 172, 2]) 5))
    | (go_at_call 14; refine (R_New_any _ [5, 172, 2] _ hO3.out.rd (by decide)).mono ?_; rintro e w3 ⟨g2, vr2, rfl, HRr2, hg2, hvr2, HB3⟩)
    | (go_at_call 35; (with_reducible refine (Kept_true _ v0 B _ ((HOw.keep (bel_trans HB2 (bel_trans HBl HB3))).rd) ((hIn.out.1.keep (bel_trans HB1 (bel_trans HB2 (bel_trans HBl HB3))))) hIn.out.2.1).mono ?_); rintro e w4 ⟨rfl, HB4⟩))
  have hBl3 := bel_trans HBl HB3
  have hB24 := bel_trans HB2 (bel_trans hBl3 HB4)
  have HBw4 := hd_ (bel_trans HB1 hB24)
  have HOw4 := hd_ (HOw.keep hB24)
  have hg1 := hd_ (own_lt HOw g1 rfl)
  have hz2 := HBl.size
  have hf := hd_ (And.intro (HRr.keep (bel_trans hBl3 HB4)) (And.intro (HRr2.keep HB4) (And.intro hg (And.intro hvr (And.intro (show g < g2 from Nat.lt_of_lt_of_le HRr.1.lt (Nat.le_trans hz2 hg2)) (And.intro (fun k e => Nat.lt_of_lt_of_le (own_lt HRr.2.1 k e).2 (Nat.le_trans hz2 hg2) : ∀ k, vr.ownBlock = some k → k < g2) (fun k e => Nat.lt_of_lt_of_le HRr.1.lt (Nat.le_trans hz2 (hvr2 k e)) : ∀ k, vr2.ownBlock = some k → g < k)))))))
  have hgw := hd_ (own_lt HOw g1 rfl).2
  obtain ⟨NN, hNN⟩ : ∃ NN, NN = B.length + 9 := ⟨_, rfl⟩
  have hLn := hd_ (show (lendL B).length = NN by rw [lendL_length, hNN])
  have hNl := hd_ (show NN ≤ 140737488351241 by have := hIn.out.2.1; omega)
  rw [← hNN] at HOw4
  have hNI : (B.length : Int) + 9 = (NN : Int) := by omega
  simp only [← hNN]
  try rw [hNI]
  clear hNI
  clear hNN HOw HRq hqb HB1 HB2 HB3 HB4 HBl hBl3 hB24 hz2 HRr HRr2 hg hvr hg2 hvr2 hO3 HRqH
  go_loopw [37] (fun vi wr => ∃ (k : Nat) (L : List Int), k ≤ NN ∧ vi = .int .i64 (k : Int) ∧ L.length = NN ∧ Own wr w.heap.size 5 (.slice (some ⟨g1, 0, none⟩) NN c1) L ∧ Chg (fun b => b = g1) w4 wr) (fun vi _ => NN - (intOf vi).toNat)
  case atStart => exact ⟨0, _, Nat.zero_le _, rfl, hLn.out, HOw4.out, Chg.refl _ _⟩
  case round =>
    clear HOw4
    obtain ⟨k, L, hk, rfl, hL, HO, hC⟩ := hrel
    by_cases hlt : k < NN
    · have hkI : (k : Int) < (NN : Int) := by omega
      obtain ⟨_, _, hfm, _, _, _, hcf⟩ := HO.rd.form
      obtain ⟨b7, o7, hA7, hc7⟩ := hcf k (by omega)
      injection hfm with e1 e2 e3
      rw [← e1] at hA7
      injection hA7 with hA7
      injection hA7 with e4 e5
      subst e4; subst e5
      rw [Nat.zero_add] at hc7
      have hNb := hNl.out
      have hO2 := HO.2
      rw [hL] at hO2
      have hf7 := hO2.frozenAt k
      clear hO2
      obtain ⟨p7, g7⟩ := HO.put k 7 (by decide) (by decide)
      have hst := hd_ (And.intro p7 (And.intro (hC.trans (Chg.of g7) (fun b _ (e : some b = some g1) => by injection e)) (show (L.set k 7).length = NN by rw [List.length_set]; exact hL)))
      clear p7 g7 HO hC e1 e2 e3 hL hcf
      go_wp2
      go_roundw
      case rel => exact ⟨k + 1, _, hlt, by go_num, hst.out.2.2, hst.out.1, hst.out.2.1⟩
      case measure => (simp [intOf]; try omega)
    · obtain rfl : k = NN := by omega
      have HBr := Chg.then HBw4.out hC (fun b hb => by subst hb; exact hg1.out.1) HBw4.out.size
      obtain ⟨A0, c0, rfl, _⟩ := hIn.out.1.form
      obtain ⟨f1, f2, f3, f4, f5, f6, f7⟩ := hf.out
      have hlw := hg1.out.1
      have hgw1 := hgw.out
      have hN := hd_ (two_new w wr g g2 vr vr2 _ B (f1.chg hC (fun e => by omega) (fun k hk e => by have := f4 k hk; omega)) (f2.chg hC (fun e => by omega) (fun k hk e => by have := f7 k hk; omega)) (hIn.out.1.keep HBr) hIn.out.2.2 (by omega) (by omega) (by omega) (fun e => by have := f6 _ e; omega) (fun e => by have := f7 _ e; omega) HBr)
      clear f1 f2 f3 f4 f5 f6 f7 HBr hf HBw4 hC HO hL hlw hgw1 hg1 hgw
      go_upto_region 12 with fail
      obtain ⟨W0, hW0⟩ : ∃ W0, W0 = (((wr.alloc (qrO (.slice A0 B.length c0))).alloc l3O).alloc (qrO (.slice (some ⟨wr.heap.size + 1, 0, none⟩) 3 3))) := ⟨_, rfl⟩
      rw [← hW0] at hN ⊢
      clear hW0
      obtain ⟨gx, hgx⟩ : ∃ gx, gx = wr.heap.size := ⟨_, rfl⟩
      rw [← hgx] at hN ⊢
      obtain ⟨u2, hu2⟩ : ∃ u2, u2 = Value.slice (some ⟨gx + 1, 0, none⟩) 3 3 := ⟨_, rfl⟩
      rw [← hu2] at hN
      obtain ⟨gy, hgy⟩ : ∃ gy, gy = gx + 1 + 1 := ⟨_, rfl⟩
      rw [← hgy] at hN ⊢
      clear hgx hu2 hgy
      go_loopw [52] (fun vi wq => ∃ (k a a2 : Nat) (e e2 : Int), k ≤ x.length ∧ vi = .int .i64 (k : Int) ∧ Rd2 w wq g gx vr (.slice A0 B.length c0) B a e g2 gy vr2 u2 [5, 172, 2] a2 e2) (fun vi _ => x.length - (intOf vi).toNat)
      case atStart => exact ⟨0, 0, 0, 0, 0, Nat.zero_le _, rfl, hN.out⟩
      case round =>
        clear hN
        obtain ⟨k, ra, ra2, re, re2, hk, rfl, hX⟩ := hrel
        by_cases hlt : k < x.length
        · have hkI : (k : Int) < (x.length : Int) := by omega
          obtain ⟨op, ha, hal, hra⟩ := hxH.out k hlt
          obtain ⟨V, hV, hVe, hcs, hd, hdb, hn, hm0, hm⟩ := op_cells hra hal
          obtain ⟨call, V0, n, most, S, F, ds, ⟨kk, u, m, u9⟩, u8⟩ := op
          have hmo : most ≤ 9223372036854775807 := (wf_i64 hra.2.2.2.1.2).2
          simp only at hVe hcs hd hdb hn hm0 hm
          subst hVe
          obtain ⟨C, hC⟩ : ∃ C, C = opC call (V : Int) n most S F ds kk u m := ⟨_, rfl⟩
          rw [← hC] at hcs
          have hCz : C.size = 41 := by rw [hC]; exact opC_size _ _ _ _ _ _ _ hd _ _ _
          obtain ⟨zO, bO, hzO⟩ := infoOpZ
          obtain ⟨bl, off, hix, hcell⟩ := hRH.out.whole Try.underlying39 hzO .i64 k hlt (by omega) C hcs hCz
          have hce := hd_ (cells_keep hcell hX.2.2.2.2.2.2)
          have hiO : (Try.prog.info? 53).map (·.size) = some C.size := by rw [hCz]; exact infoOp2
          have hC1 : C.all (·.oneCell') = true := by rw [hC]; exact opC_one _ _ _ _ _ _ _ _ _ _
          have hC0 : C[0]? = some (.int .i64 call) := by rw [hC]; exact opC_lo _ _ _ _ _ _ _ _ _ _ 0 (by decide)
          have hC2 : C[2]? = some (.int .i64 n) := by rw [hC]; exact opC_lo _ _ _ _ _ _ _ _ _ _ 2 (by decide)
          have hC3 : C[3]? = some (.int .i64 most) := by rw [hC]; exact opC_lo _ _ _ _ _ _ _ _ _ _ 3 (by decide)
          have hcur := hd_ hX
          have hkx := hd_ hlt
          have hnn := hd_ hn
          have hmm := hd_ hmo
          clear hcs hcell hX ha hal hra hC hd hdb hn hm0 hm hV hzO hk hmo
          go_upto_region 14 with (first
            | (refine load_at rfl 53 _ rfl bl off C _ rfl hce.out Try.underlying53 rfl hiO ?_)
            | (refine store_box rfl 53 _ _ rfl _ _ _ C rfl rfl (Box.new _ _ _) hiO (by rw [hCz]; rfl) hC1 ?_; intro w5 hb5 hg5))
          have HB5 := below_row (al1 (Below.refl wr.heap.size wr) _) hg5 (Nat.le_refl _) (size_al _ _)
          have P5 := hd_ (hcur.out.keep HB5)
          have hl1 := hcur.out.1.1.1.lt
          have hl2 := hcur.out.1.2.1.1.lt
          have hrd1 := hd_ (read_any g gx vr (.slice A0 B.length c0) B ra re call n most C w5 P5.out.1 hC0 hC2 hC3 hmm.out hnn.out)
          simp only [Act.put]
          clear hg5 HB5
          go_cut [73] (fun p W => p = .bool false ∧ ∃ (a a2 : Nat) (e e2 : Int), Rd2 w W g gx vr (.slice A0 B.length c0) B a e g2 gy vr2 u2 [5, 172, 2] a2 e2)
          case first =>
            by_cases h3 : k % 3 = 0
            · have h3I : (k : Int).tmod 3 = 0 := by rw [Int.tmod_eq_emod_of_nonneg (Int.natCast_nonneg k)]; omega
              go_wp2_with (first
                | (refine load_box rfl 53 _ rfl wr.heap.size 53 C _ rfl hb5 Try.underlying53 rfl hiO ?_)
                | (go_at_call 36; (with_reducible refine hrd1.out.mono ?_); rintro e w6 ⟨rfl, H6⟩; have P6 := P5.out.step H6; have hb6 := hb5.chg H6.2 (by rintro (e | e) <;> omega); have hrd2 := hd_ (read_any g2 gy vr2 u2 [5, 172, 2] ra2 re2 call n most C w6 P6.2.1 hC0 hC2 hC3 hmm.out hnn.out))
                | (refine load_boxG rfl 53 _ rfl wr.heap.size 53 C _ rfl hb6 Try.underlying53 rfl hiO ?_)
                | (go_at_call 36; (with_reducible refine hrd2.out.mono ?_); rintro e w7 ⟨rfl, H7⟩; have P7 := P6.swap.step H7))
              go_meet
              exact ⟨rfl, _, _, _, _, P7.swap⟩
            · have h3I : ((k : Int).tmod 3 == 0) = false := by rw [Int.tmod_eq_emod_of_nonneg (Int.natCast_nonneg k)]; simp; omega
              have h3J : ¬ ((k : Int).tmod 3 = 0) := by rw [Int.tmod_eq_emod_of_nonneg (Int.natCast_nonneg k)]; omega
              go_wp2_with (first
                | (refine load_box rfl 53 _ rfl wr.heap.size 53 C _ rfl hb5 Try.underlying53 rfl hiO ?_)
                | (go_at_call 36; (with_reducible refine hrd1.out.mono ?_); rintro e w6 ⟨rfl, H6⟩; have P6 := P5.out.step H6))
              go_meet
              exact ⟨rfl, _, _, _, _, P6⟩
          obtain ⟨rfl, a', a2', e', e2', P8⟩ := hcut
          have P8 := hd_ P8
          have hI1 : (Value.int IntKind.i64 (wrap64 ((k : Int) + 1))) = .int .i64 ((k : Int) + 1) := congrArg _ (by unfold wrap64; omega)
          clear hrd1 P5 hb5
          go_wp2
          go_roundw
          case rel => exact ⟨k + 1, a', a2', e', e2', hkx.out, by first | rfl | (rw [hI1]; rfl), P8.out⟩
          case measure => first | (rw [hI1]; exact meas_k1 _ _ hkx.out) | exact meas_k1 _ _ hkx.out
        · obtain rfl : k = x.length := by omega
          have hP := hd_ hX
          have hlk1 := hd_ (looked_any g gx vr (.slice A0 B.length c0) B ra re wr hX.1)
          have hlk2 := hd_ (fun W (h : Below wr.heap.size wr W) => looked_any g2 gy vr2 u2 [5, 172, 2] ra2 re2 W (hP.out.keep h).2.1)
          have hR := hd_ (show rUint [172, 2] 0 0 = (300, 2, 0) by decide)
          have hHB := hd_ hX.2.2.2.2.2.2
          clear hX
          go_wp2_with (first
            | (go_at_call 37; (with_reducible refine hlk1.out.mono ?_); rintro e wa ⟨rfl, HBa⟩; have hlk3 := hlk2.out wa HBa)
            | (go_at_call 37; (with_reducible refine hlk3.mono ?_); rintro e wb ⟨rfl, HBb⟩; have hO := hd_ (lit_own8 wb 0 (Nat.zero_le _) [172, 2] (by intro b hb; simp at hb; omega) 2 rfl (by unfold maxLen; omega)); have hBl := al1 (Below.refl wb.heap.size wb) (.cells (u8A [172, 2]) 5))
            | (go_at_call 14; refine (R_New_any _ [172, 2] _ hO.out.rd (by decide)).mono ?_; rintro e w1 ⟨gn, vn, rfl, HRn, hgn, hvn, HBn⟩)
            | (go_at_call 15; refine (R_Uint_any gn vn [172, 2] 0 0 w1 HRn).mono ?_; rintro e w2 ⟨rfl, HP2⟩; rw [hR.out] at HP2 ⊢))
          go_ret
          refine ⟨rfl, ?_⟩
          have h1 := bel_trans hHB.out (bel_trans HBa (bel_trans HBb (bel_trans hBl HBn)))
          exact Chg.then h1 HP2.2 (fun b hb => by subst hb; exact Nat.le_trans (bel_trans hHB.out (bel_trans HBa (bel_trans HBb hBl))).size hgn) h1.size
end Go.Proofs.Ytlaeiipiboabaaa
