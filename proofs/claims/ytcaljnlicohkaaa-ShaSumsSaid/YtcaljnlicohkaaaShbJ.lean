/- The law ShaSums. -/
import Derived.Test.YtcaljnlicohkaaaShbI
import Derived.Test.YtcaljnlicohkaaaLend
import Derived.Test.YtcaljnlicohkaaaShaQ
namespace Go.Proofs.Ytcaljnlicohkaaa
open Go.RowKit
set_option maxRecDepth 100000
set_option linter.unusedVariables false
set_option linter.unusedSimpArgs false
/-- a list that is lent, in its row, and what is lent of it -/
def Lent (W : World) (base : Nat) (a b : Value) (l : List Int) : Prop := Own W base 5 a (lendL l) ∧ Rd W b l ∧ b.ownBlock = a.ownBlock ∧ a.oneCell' = true ∧ b.oneCell' = true
theorem Lent.keep {w w1 : World} {base : Nat} {a b : Value} {l : List Int} (h : Lent w base a b l) (hb : Below w.heap.size w w1) : Lent w1 base a b l := ⟨h.1.keep hb, h.2.1.keep hb, h.2.2⟩
theorem Lent.past {W w2 : World} {b0 base k : Nat} {eS : TypeId} {a b vo : Value} {l : List Int} {vs : List Value} {s : Nat} (h : Lent W b0 a b l) (HO : W.ownsRow base eS s vo k vs) (hg : W.grownBy w2 vo.ownBlock) (hne : 5 ≠ eS) : Lent w2 b0 a b l := by
  obtain ⟨h1, h2, h3, h4⟩ := h
  refine ⟨own_past h1 HO hg hne, h2.chg (Chg.of hg) (fun kk hkk e => ?_), h3, h4⟩
  rcases own_types h1.2 HO hne with h5 | h5
  · rw [← h3, hkk] at h5; cases h5
  · exact h5 (by rw [← h3, hkk, e])
theorem own_base {w : World} {base b2 : Nat} {e : TypeId} {v : Value} {xs : List Int} (h : Own w base e v xs) (hb : b2 ≤ base) : Own w b2 e v xs := by
  obtain ⟨h0, h1, h2⟩ := h
  refine ⟨h0, h1, ?_⟩
  rcases h2 with h2 | ⟨g, cap, cur, h3, h4, h5⟩
  · exact .inl h2
  · exact .inr ⟨g, cap, cur, h3, Nat.le_trans hb h4, h5⟩
theorem infoSl : (Try.prog.info? 34).map (fun i => (i.zero, i.size, i.bytes)) = some (some (.slice none 0 0), 1, 24) := by kernel_rfl
/-- two lists of their own, one of which grows -/
theorem row_apart {W w2 : World} {b1 b2 s1 s2 n1 n2 : Nat} {e1 e2 : TypeId} {va vb : Value} {xs ys : List Value} (h : W.ownsRow b1 e1 s1 va n1 xs) (h2 : W.ownsRow b2 e2 s2 vb n2 ys) (hd : ∀ b, va.ownBlock = some b → vb.ownBlock ≠ some b) (hg : W.grownBy w2 va.ownBlock) : w2.ownsRow b2 e2 s2 vb n2 ys :=
  row_chg h2 (Chg.of hg) (fun k hk e => hd k e.symm hk)
set_option maxHeartbeats 2000000 in
theorem law_ShaSums (w : World) (v : Value) (xss : List (List Int)) (HR : RdL w v xss) (hcnt : xss.length * 24 ≤ 140737488351232) (hl : ∀ xs ∈ xss, xs.length ≤ 140737488351232) :
    Calls Try.prog 5 #[v] w fun e w' => e = .returned (.bool true) ∧ Below w.heap.size w w' := by
  have HRH := hd_ HR
  obtain ⟨A, cap, rfl, hn, hm, _, hc⟩ := HR.form
  clear HR
  unfold maxLen at hm
  have hcH := hd_ hc
  have hlH := hd_ hl
  clear hc hl
  go_enter Try.func5, Try.ntmps5
  go_wp2
  go_loopw [3, 4, 14] (fun va vb vi wr => ∃ (k : Nat) (vs ws : List Value), k ≤ xss.length ∧ vi = .int .i64 k ∧ vs.length = k ∧ ws.length = k ∧ wr.ownsRow w.heap.size 34 1 va k vs ∧ wr.ownsRow w.heap.size 34 1 vb k ws ∧ (∀ b, va.ownBlock = some b → vb.ownBlock ≠ some b) ∧ Hid ((∀ u ∈ vs, u.oneCell' = true) ∧ (∀ u ∈ ws, u.oneCell' = true)) ∧ Hid (∀ j, j < k → Lent wr w.heap.size (vs.getD j undef) (ws.getD j undef) (xss.getD j [])) ∧ Below w.heap.size w wr) (fun _ _ i _ => xss.length - (intOf i).toNat)
  case atStart => exact ⟨0, [], [], Nat.zero_le _, rfl, rfl, rfl, World.ownsRow_nil _ _ _ _, World.ownsRow_nil _ _ _ _, fun b hb => absurd hb (by simp [Value.ownBlock]), hd_ ⟨fun u hu => absurd hu (by simp), fun u hu => absurd hu (by simp)⟩, fun j hj => absurd hj (by omega), Below.refl _ _⟩
  case round =>
    obtain ⟨k, vs, ws, hk, rfl, hvs, hws, HO, HP, hdis, h1, hel, hbel⟩ := hrel
    by_cases hlt : k < xss.length
    · obtain ⟨b, off, u, rfl, hcell0, hu0⟩ := hcH.out k hlt
      have hcell := cell_keep hbel hcell0
      have hu := hu0.keep hbel
      have hp := hlH.out _ (getD_mem xss k hlt)
      obtain ⟨p, hpp⟩ : ∃ p, p = xss.getD k [] := ⟨_, rfl⟩
      rw [← hpp] at hu hp
      have HPP := hd_ hpp
      have hA := hd_ (And.intro HO (And.intro HP (And.intro hdis hbel)))
      have hvw := hd_ (And.intro hvs hws)
      have hup := hd_ (And.intro hu hp)
      clear hpp hcell0 hu0 HO HP hdis hbel hvs hws hu hp
      go_wp2_with (first
        | (go_at_call 16; (with_reducible refine (Lend_any u p _ hup.out.1 hup.out.2).mono ?_); rintro e w1 ⟨g1, c1, q1, rfl, HOw, HRq, hqb, HB1⟩; obtain ⟨A1, cq, rfl, _⟩ := HRq.form)
        | (at_builtin; (refine app_rd w.heap.size rfl _ _ 33 34 (.slice none 0 0) 1 24 rfl Try.underlying33 infoSl rfl (by omega) _ _ k 1 vs [.slice (some ⟨g1, 0, none⟩) (p.length + 9) c1] rfl rfl ((row_keep hA.out.1 HB1).alloc _) (box_one _ _ _) (one_slice _ _ _) (Nat.le_trans (Nat.le_trans hA.out.2.2.2.size HB1.size) (size_al _ _)) (by omega) (by omega) ?_); intro v2 w2 HO2 hg2 hat2)
        | (at_builtin; (refine app_rd w.heap.size rfl _ _ 33 34 (.slice none 0 0) 1 24 rfl Try.underlying33 infoSl rfl (by omega) _ _ k 1 ws [.slice A1 p.length cq] rfl rfl ((row_apart ((row_keep hA.out.1 HB1).alloc _) ((row_keep hA.out.2.1 HB1).alloc _) hA.out.2.2.1 hg2).alloc _) (box_one _ _ _) (one_slice _ _ _) (Nat.le_trans (Nat.le_trans (Nat.le_trans (Nat.le_trans hA.out.2.2.2.size HB1.size) (size_al _ _)) hg2.size) (size_al _ _)) (by omega) (by omega) ?_); intro v4 w4 HO4 hg4 hat4))
      obtain ⟨HO, HP, hdis, hbel⟩ := hA.out
      have HX1 := (row_keep HO HB1).alloc (.cells #[.slice (some ⟨g1, 0, none⟩) (p.length + 9) c1] 34)
      have HX2 := (row_keep HP HB1).alloc (.cells #[.slice (some ⟨g1, 0, none⟩) (p.length + 9) c1] 34)
      have hal1 := al1 (Below.refl w1.heap.size w1) (.cells #[.slice (some ⟨g1, 0, none⟩) (p.length + 9) c1] 34)
      have hal2 := al1 (Below.refl w2.heap.size w2) (.cells #[.slice A1 p.length cq] 34)
      have HP2 := row_apart HX1 HX2 hdis hg2
      have HPX := HP2.alloc (.cells #[.slice A1 p.length cq] 34)
      have HOX := row_keep HO2 hal2
      have hd2 : ∀ b, v2.ownBlock = some b → u4.ownBlock ≠ some b := fun b hb e => by
        rcases hat2 with h2 | h2
        · exact hdis b (h2 ▸ hb) e
        · rw [h2] at hb
          injection hb with hb
          have := (HX2.lt b e).2
          omega
      have hd3 : ∀ b, u4.ownBlock = some b → v2.ownBlock ≠ some b := fun b hb e => hd2 b e hb
      have HO5 := row_apart HPX HOX hd3 hg4
      have hd4 : ∀ b, v2.ownBlock = some b → v4.ownBlock ≠ some b := fun b hb e => by
        rcases hat4 with h2 | h2
        · exact hd2 b hb (h2 ▸ e)
        · rw [h2] at e
          injection e with e
          have := (HOX.lt b hb).2
          omega
      have hB2 : Below w.heap.size w w2 := below_grown (al1 (bel_trans hbel HB1) _) HX1 hg2 (Nat.le_trans (Nat.le_trans hbel.size HB1.size) (size_al _ _))
      have hB4 : Below w.heap.size w w4 := below_grown (al1 hB2 _) HPX hg4 (Nat.le_trans hB2.size (size_al _ _))
      go_roundw
      case rel =>
        refine ⟨k + 1, vs ++ [.slice (some ⟨g1, 0, none⟩) (p.length + 9) c1], ws ++ [.slice A1 p.length cq], hlt, by go_num, by rw [List.length_append, hvw.out.1]; rfl, by rw [List.length_append, hvw.out.2]; rfl, HO5, HO4, hd4, hd_ ⟨one_snoc h1.out.1 _ _ _, one_snoc h1.out.2 _ _ _⟩, fun j hj => ?_, hB4⟩
        by_cases e : j < k
        · rw [getD_left (by have := hvw.out.1; omega), getD_left (by have := hvw.out.2; omega)]
          exact (((((hel.out j e).keep HB1).keep hal1).past HX1 hg2 (by decide)).keep hal2).past HPX hg4 (by decide)
        · obtain rfl : j = k := by omega
          rw [getD_mid hvw.out.1.symm, getD_mid hvw.out.2.symm, ← HPP.out]
          have h0 : Lent w1 w.heap.size (.slice (some ⟨g1, 0, none⟩) (p.length + 9) c1) (.slice A1 p.length cq) p := ⟨own_base HOw hbel.size, HRq, hqb, rfl, rfl⟩
          exact ((((h0.keep hal1).past HX1 hg2 (by decide)).keep hal2).past HPX hg4 (by decide))
      case measure => (simp [intOf]; try omega)
    · obtain rfl : k = xss.length := by omega
      have hRp := hd_ (show RdL wr u4 xss from ⟨ws, hws, RdC.own HP, h1.out.2, fun j hj => (hel.out j hj).2.1⟩)
      obtain ⟨hlv, Av, cv, rfl, hv1, hv2, hv3, hv4⟩ := RdC.own HO
      have hwhole := hd_ (fun j (hj : j < xss.length) => by
        obtain ⟨b, off, hA, hc⟩ := hv4 j (by omega)
        exact (⟨b, off, hA, by rw [hc, List.getD_eq_getElem?_getD, List.getElem?_eq_getElem (by omega)]; rfl⟩ : ∃ b off, Av = some ⟨b, off, none⟩ ∧ wr.cell? ⟨b, off + j, none⟩ = some (vs.getD j undef)))
      obtain ⟨D, hD⟩ : ∃ D, D = digL xss.flatten := ⟨_, rfl⟩
      have hDs : D.length = 32 := by rw [hD, digL_length]
      have hSum := hd_ (fun W (h : RdL W u4 xss) => show Calls Try.prog 17 #[u4] W fun e w' => e = .returned (.agg (u8A D)) ∧ Below W.heap.size W w' by rw [hD]; exact sha_Sum_any u4 xss W h hlH.out)
      have hRef := hd_ (fun W (h : RdL W (.slice A xss.length cap) xss) => show Calls Try.prog 18 #[.slice A xss.length cap] W fun e w' => e = .returned (.agg (u8A D)) ∧ Below W.heap.size W w' by rw [hD]; exact ref_Sum_any _ xss W h hlH.out)
      have hiD : (Try.prog.info? 24).map (·.size) = some (u8A D).size := by rw [u8A_size, hDs]; kernel_rfl
      have hD1 := u8A_one D
      have hDz : (u8A zd32).size = (u8A D).size := by rw [u8A_size, u8A_size, hDs]; rfl
      have heq := eqDg D D hDs hDs
      rw [decide_eq_true rfl] at heq
      have hbH := hd_ hbel
      have hRw := hd_ (HRH.out.keep hbel)
      clear HO HP hdis hbel hlt hk hD hDs hlv hv1 hv2 hv3 hv4
      go_upto_region 10 with (first
        | (go_at_call 17; (with_reducible refine (hSum.out _ hRp.out).mono ?_); rintro e w3 ⟨rfl, HB3⟩)
        | (refine store_box rfl 24 _ _ rfl _ _ _ (u8A D) rfl rfl (Box.new _ _ _) hiD (by rw [← hDz]; rfl) hD1 ?_; intro w5 hb5 hg5))
      have HB5 := below_row (al1 (Below.refl w3.heap.size w3) _) hg5 (Nat.le_refl _) (size_al _ _)
      simp only [Act.put]
      have hC0 : (fun W : World => Box W w3.heap.size 24 (u8A D)) w5.drew := hb5.keep (Below.refl w5.heap.size w5).drew
      refine region_J [] (fun W : World => Box W w3.heap.size 24 (u8A D)) (by kernel_rfl) ?_
      refine take_J 1 _ _ (v := ?_) rfl (by kernel_rfl) (by kernel_rfl) (by kernel_rfl) (by kernel_rfl) (fun _ _ _ h => h) rfl hC0 ?_ ?_
      rotate_left
      · intro W hC; go_simp; try with_reducible rfl
      simp only [Act.put, List.setIfInBounds_toArray, List.set_cons_zero, List.set_cons_succ]
      refine take_J 0 _ _ rfl (by kernel_rfl) (by kernel_rfl) (by kernel_rfl) (by kernel_rfl) (fun _ _ _ h => h) rfl hC0 (fun W hC => exec_load_mid 24 _ rfl w3.heap.size 0 rfl (u8A D).toList _ ?_ Try.underlying24 rfl (by rw [Array.length_toList]; exact hiD)) ?_
      · intro j u hj
        rw [Array.getElem?_toList] at hj
        rw [Nat.zero_add]
        exact Box.cell hC j hj
      simp only [Act.put, List.setIfInBounds_toArray, List.set_cons_zero, List.set_cons_succ, Array.toArray_toList]
      have HBX := hd_ (bel_trans (HB3.trans (HB5.mono HB3.size)) (Below.refl w5.heap.size w5).drew)
      refine ready_J 2 _ _ rfl (by kernel_rfl) rfl (fun K hK => ?_)
      go_simp
      with_reducible refine (hRef.out _ (hRw.out.keep HBX.out)).mono ?_
      rintro e w6 ⟨rfl, HB6⟩
      refine hK _ _ (fun _ => Box.keep hC0 HB6) ?_
      clear hK K
      have hC1 := Box.keep hC0 HB6
      refine ready_J 3 _ _ rfl (by kernel_rfl) rfl (fun K hK => ?_)
      go_simp
      refine hK _ _ (fun _ => hC1) ?_
      clear hK K
      refine wpAnyJ_done (by kernel_rfl) ?_ _
      have HBY := hd_ (bel_trans HBX.out HB6)
      clear hC1 hC0 HB6 HB5 hg5 hb5 HBX HB3
      go_wp2
      generalize w6 = wz at *
      go_loopw [40] (fun vi wy => ∃ k : Nat, k ≤ xss.length ∧ vi = .int .i64 k ∧ Below wr.heap.size wr wy) (fun i _ => xss.length - (intOf i).toNat)
      case atStart => exact ⟨0, Nat.zero_le _, rfl, HBY.out⟩
      case round =>
        clear HBY
        obtain ⟨k, hk, rfl, hB⟩ := hrel
        by_cases hlt : k < xss.length
        · obtain ⟨b, off, p, rfl, hcell0, hp0⟩ := hcH.out k hlt
          have hcell := cell_keep hB (cell_keep hbH.out hcell0)
          obtain ⟨b2, off2, rfl, hcell20⟩ := hwhole.out k hlt
          have hcell2 := cell_keep hB hcell20
          have hkI : (k : Int) < (xss.length : Int) := by omega
          have hL := hd_ ((hel.out k hlt).keep hB)
          have hp := hd_ ((hp0.keep hbH.out).keep hB)
          have hpl := hd_ (hlH.out _ (getD_mem xss k hlt))
          have hBk := hd_ hB
          clear hcell0 hcell20 hp0 hB
          generalize xss.getD k [] = q at *
          obtain ⟨gg, cq, hqf⟩ : ∃ gg cq, vs.getD k undef = .slice gg (lendL q).length cq := by
            obtain ⟨gg, cq, h, _⟩ := hL.out.1.rd.form
            exact ⟨gg, cq, h⟩
          have hLr := hd_ hL.out.1.rd
          rw [hqf] at hcell2 hLr
          clear hqf hL
          obtain ⟨Ap, cp, rfl, _⟩ := hp.out.form
          go_wp2_with (go_at_call 19; (with_reducible refine (Kept_true _ _ q _ hLr.out hp.out hpl.out).mono ?_); rintro e w7 ⟨rfl, HB7⟩)
          go_roundw
          case rel => exact ⟨k + 1, hlt, by go_num, bel_trans hBk.out HB7⟩
          case measure => (simp [intOf]; try omega)
        · obtain rfl : k = xss.length := by omega
          have hBk := hd_ hB
          clear hB
          go_wp2
          go_ret
          exact ⟨rfl, bel_trans hbH.out hBk.out⟩
end Go.Proofs.Ytcaljnlicohkaaa
