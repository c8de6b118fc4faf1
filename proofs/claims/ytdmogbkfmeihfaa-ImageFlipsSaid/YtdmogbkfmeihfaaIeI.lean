/- The document's image of a state. -/
import Derived.Test.YtdmogbkfmeihfaaIeH
namespace Go.Proofs.Ytdmogbkfmeihfaa
open Go.RowKit
set_option maxRecDepth 100000
set_option linter.unusedVariables false
theorem own_raiseI {W : World} {b b2 : Nat} {e : TypeId} {v : Value} {xs : List Int} (h : Own W b e v xs) (hb : ∀ k, v.ownBlock = some k → b2 ≤ k) : Own W b2 e v xs := by
  refine ⟨h.1, h.2.1, ?_⟩
  rcases h.2.2 with h1 | ⟨g, cap, cur, rfl, h2, h3⟩
  · exact .inl h1
  · exact .inr ⟨g, cap, cur, rfl, hb g rfl, h3⟩
section
variable {P : Program} {o : Oper} {a : Act} {K : Act → World → Prop} {Q : Exit → Act → World → Prop}
theorem wp_app_O {W : World} (base : Nat) (s x : Operand) (t e : TypeId)
    (ho : o.op = .call { callee := .builtin .append, args := #[s, x], argTypes := #[t, t] })
    (ht : P.underlying t = some (.slice e)) (hinfo : (P.info? e).map (fun i => (i.zero, i.size, i.bytes)) = some (some (.int .u8 0), 1, 1))
    (v y : Value) (xs ys : List Int) (hs : a.eval s = v) (hx : a.eval x = y)
    (HO : Own W base e v xs) (HR : Rd W y ys) (hbase : base ≤ W.heap.size) (hl : xs.length + ys.length ≤ 140737488355328)
    (h : ∀ v1 w1, Own w1 base e v1 (xs ++ ys) → W.grownBy w1 v.ownBlock → (v1.ownBlock = v.ownBlock ∨ v1.ownBlock = some W.heap.size) → K (a.put o.dst v1) w1) :
    Oper.wp P o a W K Q := by
  obtain ⟨v1, w1, hr, h2, h3, h4⟩ := run_app (P := P) (W := W) base t o.type e (.int .u8 0) 1 1 ht hinfo rfl (by omega) HO.2 HR.2 (nums8_one ys) hbase (by omega) (by rw [Nat.mul_one]; exact hl)
  unfold Oper.wp execOp
  simp only [ho, resolve, invoke, builtin, Sem.run_bind, Sem.run_pure, Result.andThen_ok, List.map_toArray, List.map_cons, List.map_nil, hs, hx, hr]
  exact h v1 w1 ⟨bytes_append HO.1 HR.1, by rw [nums8_append, List.length_append]; exact h2⟩ h3 h4
end
/-- the document's writer without an error over a world -/
def Xi (w0 W : World) (g : Nat) (v : Value) (L : List Int) : Prop := Xr W g v (0, L) ∧ w0.heap.size ≤ g ∧ (∀ b, v.ownBlock = some b → w0.heap.size ≤ b) ∧ Below w0.heap.size w0 W
theorem Xi.step {w0 W W1 : World} {g : Nat} {v : Value} {L M : List Int} (t : Xi w0 W g v L) (p : XrPost W g v (0, M) W1) : ∃ v', Xi w0 W1 g v' M := by
  obtain ⟨v', h1, hC, ho⟩ := p
  refine ⟨v', h1, t.2.1, fun b e => ?_, hC.then t.2.2.2 (fun k e => ?_) t.2.2.2.size⟩
  · rcases ho with h2 | ⟨k, h2, h3⟩
    · exact t.2.2.1 b (h2 ▸ e)
    · rw [h2] at e; injection e with e; have := t.2.2.2.size; omega
  · rcases e with e | e
    · rw [e]; exact t.2.1
    · exact t.2.2.1 k e.symm
theorem Xi.keep {w0 W W1 : World} {g : Nat} {v : Value} {L : List Int} (t : Xi w0 W g v L) (hb : Below W.heap.size W W1) : Xi w0 W1 g v L :=
  ⟨⟨t.1.1.keep hb, t.1.2.keep hb⟩, t.2.1, t.2.2.1, bel_trans t.2.2.2 hb⟩
set_option maxHeartbeats 1000000 in
theorem word_any (x : W32) (w : World) : Calls Try.prog 45 #[.int .u32 (I x)] w (HeadRet w (B4 x)) := by
  go_enter Try.func45, Try.ntmps45
  go_wp2
  go_ret
  refine ⟨_, rfl, ⟨B4_bytes x, ?_⟩, al1 (Below.refl _ _) _⟩
  exact World.ownsRow_lit (e := 5) (size := 1) w #[.int .u8 (I x % 256), .int .u8 (I x / 256 % 256), .int .u8 (I x / 65536 % 256), .int .u8 (I x / 16777216 % 256)] 4 (Nat.le_refl _) (by decide) rfl
/-- bytes of one's own and an error answered -/
def EncRet (w : World) (R : Int × List Int) (e : Ending) (w' : World) : Prop := ∃ u, e = .returned (.tuple #[u, .int .i64 R.1]) ∧ Own w' w.heap.size 5 u R.2 ∧ Below w.heap.size w w'
theorem encA_chk (seq : Int) (l : List RowT) : encA seq l = if chkA seq l ≠ 0 then (chkA seq l, []) else (0, sealB (hdI seq l ++ allR l)) := by
  unfold encA
  rw [laid_chk]
  by_cases h : chkA seq l = 0
  · rw [if_neg (show ¬ chkA seq l ≠ 0 from fun h2 => h2 h), if_neg (by simp), if_neg (show ¬ chkA seq l ≠ 0 from fun h2 => h2 h)]
  · rw [if_pos (show chkA seq l ≠ 0 from h), if_pos (show (chkA seq l, ([] : List Int)).1 ≠ 0 from h), if_pos (show chkA seq l ≠ 0 from h)]
theorem chkA_ok {seq : Int} {l : List RowT} (h : chkA seq l = 0) : l.length ≤ 1048576 ∧ 0 ≤ seq ∧ seq ≤ 1152921504606846976 ∧ risesR seq l true ⟨#[]⟩ = true ∧ (hdI seq l).length + 4 + (allR l).length ≤ 268435456 := by
  unfold chkA at h
  by_cases h1 : 1048576 < l.length
  · rw [if_pos h1] at h; exact absurd h (by decide)
  rw [if_neg h1] at h
  by_cases h2 : seq < 0 ∨ 1152921504606846976 < seq
  · rw [if_pos h2] at h; exact absurd h (by decide)
  rw [if_neg h2] at h
  cases h3 : risesR seq l true ⟨#[]⟩
  · rw [h3, if_pos rfl] at h; exact absurd h (by decide)
  rw [h3, if_neg (by simp)] at h
  by_cases h4 : 268435456 < (hdI seq l).length + 4 + (allR l).length
  · rw [if_pos h4] at h; exact absurd h (by decide)
  · exact ⟨by omega, by omega, by omega, rfl, by omega⟩
set_option maxHeartbeats 8000000 in
theorem rEncode_any (seq : Int) (v : Value) (l : List RowT) (w : World) (HR : RdR w v l) :
    Calls Try.prog 21 #[.agg (stC seq v)] w (EncRet w (encA seq l)) := by
  obtain ⟨A0, c0, hv0, hc0⟩ := HR.form
  subst hv0
  have hlen := HR.len
  have hbS := Box.new w (stC seq (.slice A0 l.length c0)) 36
  have hB0 := al1 (Below.refl w.heap.size w) (.cells (stC seq (.slice A0 l.length c0)) 36)
  rw [encA_chk]
  have hck := chkA_ok (seq := seq) (l := l)
  have hCk := hd_ (fun W (h : RdR W (.slice A0 l.length c0) l) => rCheck_any seq (.slice A0 l.length c0) l W h)
  generalize chkA seq l = E at *
  by_cases hE : E = 0
  · subst hE
    rw [if_neg (by simp)]
    obtain ⟨g1, g2, g3, g4, g5⟩ := hck rfl
    have htab := hd_ (risesR_tab seq l true ⟨#[]⟩ g4)
    have hhl := hdI_len seq l g2 g3 g1
    have hHd := hd_ (fun W (h : RdR W (.slice A0 l.length c0) l) => head_any seq (.slice A0 l.length c0) l W h g2 g3 g1)
    obtain ⟨W0, hW0⟩ : ∃ W0, W0 = w.alloc (.cells (stC seq (.slice A0 l.length c0)) 36) := ⟨_, rfl⟩
    rw [← hW0] at hbS hB0
    have hRH := hd_ (HR.keep hB0)
    have q1 := hbS.cell 1 (v := .slice A0 l.length c0) rfl
    have hQ := hd_ (fun W (h : Below W0.heap.size W0 W) => And.intro (cell_keep h q1) (hbS.keep h))
    have hCc := hd_ (hCk.out W0 hRH.out)
    have hB0 := hd_ hB0
    have hbS := hd_ hbS
    have hlb := hd_ (show l.length ≤ 1048576 ∧ (hdI seq l ++ allR l).length ≤ 268435456 by rw [List.length_append]; omega)
    obtain ⟨T, hT0⟩ : ∃ T, T = hdI seq l ++ allR l := ⟨_, rfl⟩
    obtain ⟨L0, hL0⟩ : ∃ L0, L0 = hdI seq l := ⟨_, rfl⟩
    rw [← hL0] at hT0 hHd hhl
    have hst := hd_ (show L0 ++ allR l = T ∧ L0.length ≤ 24 from ⟨hT0.symm, hhl⟩)
    rw [← hL0, ← hT0]
    rw [← hL0, ← hT0] at hlb
    unfold stC at hW0
    clear hck g1 g2 g3 g4 g5 hhl hT0 hL0 HR hCk
    go_enter Try.func21, Try.ntmps21
    go_upto_region 1 with fail
    try unfold stC
    rw [← hW0]
    clear hW0
    go_upto_region 5 with (first
      | (refine load_boxI ?hw 36 _ rfl w.heap.size 36 (stC seq (.slice A0 l.length c0)) _ rfl hbS.out Try.underlying36 rfl infoSt ?_; (case hw => first | rfl | simp [Region.wanted, yielded]))
      | (go_at_call 33; (with_reducible refine hCc.out.mono ?_); rintro e w1 ⟨rfl, HB1⟩; obtain ⟨q1b, hbSb⟩ := hQ.out w1 HB1; have hHc := hHd.out w1 (hRH.out.keep HB1))
      | (refine load_boxI ?hw 36 _ rfl w.heap.size 36 (stC seq (.slice A0 l.length c0)) _ rfl hbSb Try.underlying36 rfl infoSt ?_; (case hw => first | rfl | simp [Region.wanted, yielded]))
      | (go_at_call 43; (with_reducible refine hHc.mono ?_); rintro e w2 ⟨v2, rfl, HO2, HB2⟩; obtain ⟨A2, c2, rfl, _⟩ := HO2.rd.form))
    have HB02 := bel_trans HB1 HB2
    have HBw := al1 (Below.refl w2.heap.size w2) (.cells #[.slice A2 L0.length c2, .int .i64 0] 94)
    have hXi := hd_ (show Xi W0 (w2.alloc (.cells #[.slice A2 L0.length c2, .int .i64 0] 94)) w2.heap.size (.slice A2 L0.length c2) L0 from ⟨⟨Box.new _ _ _, (HO2.keep HBw).1, row_base (HO2.keep HBw).2 (Nat.zero_le _)⟩, HB02.size, fun b e => Nat.le_trans HB1.size (own_lt HO2 b e).1, bel_trans HB02 HBw⟩)
    obtain ⟨q1c, _⟩ := hQ.out _ hXi.out.2.2.2
    clear q1b hbSb hHc hHd hCc HO2 HBw HB1 HB2 HB02 hbS q1
    generalize w2.alloc (.cells #[.slice A2 L0.length c2, .int .i64 0] 94) = w3 at *
    generalize w2.heap.size = gw at *
    generalize Value.slice A2 L0.length c2 = v2 at *
    go_upto_region 6 with fail
    clear q1c
    go_loopw [20] (fun vi wr => ∃ (k : Nat) (vb : Value) (L : List Int), k ≤ l.length ∧ vi = .int .i64 (k : Int) ∧ Xi W0 wr gw vb L ∧ L ++ allR (l.drop k) = T ∧ L.length ≤ 24 + 66600 * k) (fun vi _ => l.length - (intOf vi).toNat)
    case atStart => exact ⟨0, v2, L0, Nat.zero_le _, rfl, hXi.out, by rw [List.drop_zero]; exact hst.out.1, by have := hst.out.2; omega⟩
    case round =>
      clear hXi
      obtain ⟨k, vb, L, hk, rfl, hX, hT, hLl⟩ := hrel
      by_cases hlt : k < l.length
      · have hkI : (k : Int) < (l.length : Int) := by omega
        obtain ⟨bl, off, hix, hcell0⟩ := hRH.out.at k hlt
        have ht := htab.out _ (List.getElem_mem hlt)
        rw [List.drop_eq_getElem_cons hlt] at hT
        generalize l[k] = r at *
        obtain ⟨ky, vu, n⟩ := r
        simp only at hcell0
        have hcell := hd_ (cells_keep hcell0 hX.2.2.2)
        have hXH := hd_ hX
        have hkx := hd_ hlt
        have hT : L ++ (rowL (ky, vu, n) ++ allR (l.drop (k + 1))) = T := hT
        rw [← List.append_assoc] at hT
        have hrl := rowL_le ht
        obtain ⟨z1, z2, z3, z4, z5⟩ := tabC_zero ht
        simp only at z1 z2 z3 z4 z5
        have hl9 := hlb.out.1
        have hI1 : (Value.int IntKind.i64 (wrap64 ((k : Int) + 1))) = .int .i64 ((k : Int) + 1) := congrArg _ (wrap_k1 k (by omega))
        have hRow := hd_ (fun W (h : Xi W0 W gw vb L) => show Calls Try.prog 44 #[.pointer (some ⟨gw, 0, none⟩), .agg (rowC ky vu n)] W (XrRet W gw vb (0, L ++ rowL (ky, vu, n))) from by have := X_Row_any gw vb (0, L) ky vu n W h.1 (by omega) (by omega) (by simp only; omega); rw [wRow_ok ht] at this; exact this)
        have hnx := hd_ (show (L ++ rowL (ky, vu, n)).length ≤ 24 + 66600 * (k + 1) by rw [List.length_append]; omega)
        generalize hRL : L ++ rowL (ky, vu, n) = L2 at *
        have hTH := hd_ hT
        clear hcell0 hX hlt hk hT hLl hrl ht hl9 z1 z2 z3 z4 z5 hRL
        go_upto_region 8 with (first
          | (refine load_at rfl 61 _ rfl bl off (rowC ky vu n) _ rfl hcell.out Try.underlying61 rfl infoRow ?_)
          | (refine store_box rfl 61 _ _ rfl _ _ _ (rowC ky vu n) rfl rfl (Box.new _ _ _) infoRow rfl (rowC_one' _ _ _) ?_; intro w5 hb5 hg5))
        have HB5 := below_row (al1 (Below.refl wr.heap.size wr) _) hg5 (Nat.le_refl _) (size_al _ _)
        have P5 := hd_ (hXH.out.keep HB5)
        have hRc := hd_ (hRow.out w5 P5.out)
        have hb5 := hd_ hb5
        simp only [Act.put]
        clear hg5 HB5 hXH hcell hRow
        go_wp2_with (first
          | (refine load_boxI ?hw 61 _ rfl wr.heap.size 61 (rowC ky vu n) _ rfl hb5.out Try.underlying61 rfl infoRow ?_; (case hw => first | rfl | simp [Region.wanted, yielded]))
          | (go_at_call 44; (with_reducible refine hRc.out.mono ?_); rintro e w6 ⟨rfl, HP6⟩; obtain ⟨v6, P6⟩ := P5.out.step HP6))
        go_roundw
        case rel => exact ⟨k + 1, v6, L2, hkx.out, by first | rfl | (rw [hI1]; rfl), P6, hTH.out, hnx.out⟩
        case measure => first | (rw [hI1]; exact meas_k1i _ _ hkx.out) | exact meas_k1i _ _ hkx.out
      · obtain rfl : k = l.length := by omega
        rw [List.drop_length] at hT
        have hT : L ++ [] = T := hT
        rw [List.append_nil] at hT
        subst hT
        have hLb := hlb.out.2
        have q0 : wr.cell? ⟨gw, 0, none⟩ = some vb := hX.1.1.cell 0 rfl
        have hne := hd_ (own_box hX.1.2 hX.1.1 (by decide) : vb.ownBlock ≠ some gw)
        have hO := hd_ (own_raiseI hX.1.2 hX.2.2.1)
        have hXB := hd_ hX.2.2.2
        have hSu := hd_ (fun W (h : Rd W vb L) => ref_Sum_any vb L W h (by omega))
        have hL4 := hd_ (show L.length + (B4 (sumW L)).length ≤ 140737488355328 by have : (B4 (sumW L)).length = 4 := rfl; omega)
        have hW := hd_ (word_any (sumW L))
        have hsl := hd_ (show sealB L = L ++ B4 (sumW L) from rfl)
        clear hX hLl hlt hk hLb hst
        go_upto_region 10 with fail
        have hC0 : (fun W : World => W.cell? ⟨gw, 0, none⟩ = some vb) wr.drew := q0
        refine region_J [] (fun W : World => W.cell? ⟨gw, 0, none⟩ = some vb) (by kernel_rfl) ?_
        have hO := hd_ (hO.out.keep (Below.refl wr.heap.size wr).drew)
        have hXB := hd_ hXB.out.drew
        clear q0
        generalize wr.drew = W2 at *
        refine take_J 0 _ _ (v := ?_) rfl (by kernel_rfl) (by kernel_rfl) (by kernel_rfl) (by kernel_rfl) (fun _ _ _ h => h) rfl hC0 ?_ ?_
        rotate_left
        · intro W hC; go_simp; try with_reducible rfl
        simp only [Act.put, List.setIfInBounds_toArray, List.set_cons_zero, List.set_cons_succ]
        refine take_J 1 _ _ (v := ?_) rfl (by kernel_rfl) (by kernel_rfl) (by kernel_rfl) (by kernel_rfl) (fun _ _ _ h => h) rfl hC0 ?_ ?_
        rotate_left
        · intro W hC; go_simp; try with_reducible rfl
        simp only [Act.put, List.setIfInBounds_toArray, List.set_cons_zero, List.set_cons_succ]
        refine take_J 2 _ _ (v := ?_) rfl (by kernel_rfl) (by kernel_rfl) (by kernel_rfl) (by kernel_rfl) (fun _ _ _ h => h) rfl hC0 ?_ ?_
        rotate_left
        · intro W hC; go_simp; try with_reducible rfl
        simp only [Act.put, List.setIfInBounds_toArray, List.set_cons_zero, List.set_cons_succ]
        refine take_J 3 _ _ (v := ?_) rfl (by kernel_rfl) (by kernel_rfl) (by kernel_rfl) (by kernel_rfl) (fun _ _ _ h => h) rfl hC0 ?_ ?_
        rotate_left
        · intro W hC; go_simp; try with_reducible rfl
        simp only [Act.put, List.setIfInBounds_toArray, List.set_cons_zero, List.set_cons_succ]
        refine take_J 4 _ _ (v := ?_) rfl (by kernel_rfl) (by kernel_rfl) (by kernel_rfl) (by kernel_rfl) (fun _ _ _ h => h) rfl hC0 ?_ ?_
        rotate_left
        · intro W hC; go_simp; try with_reducible rfl
        simp only [Act.put, List.setIfInBounds_toArray, List.set_cons_zero, List.set_cons_succ]
        refine take_J 5 _ _ (v := ?_) rfl (by kernel_rfl) (by kernel_rfl) (by kernel_rfl) (by kernel_rfl) (fun _ _ _ h => h) rfl hC0 ?_ ?_
        rotate_left
        · intro W hC; go_simp; try with_reducible rfl
        simp only [Act.put, List.setIfInBounds_toArray, List.set_cons_zero, List.set_cons_succ]
        refine take_J 6 _ _ (v := ?_) rfl (by kernel_rfl) (by kernel_rfl) (by kernel_rfl) (by kernel_rfl) (fun _ _ _ h => h) rfl hC0 ?_ ?_
        rotate_left
        · intro W hC; go_simp; try with_reducible rfl
        simp only [Act.put, List.setIfInBounds_toArray, List.set_cons_zero, List.set_cons_succ]
        refine take_J 7 _ _ (v := ?_) rfl (by kernel_rfl) (by kernel_rfl) (by kernel_rfl) (by kernel_rfl) (fun _ _ _ h => h) rfl hC0 ?_ ?_
        rotate_left
        · intro W hC; go_simp; try with_reducible rfl
        simp only [Act.put, List.setIfInBounds_toArray, List.set_cons_zero, List.set_cons_succ]
        refine ready_J 8 _ _ rfl (by kernel_rfl) rfl (fun K hK => ?_)
        go_simp
        with_reducible refine (hSu.out _ hO.out.rd).mono ?_
        rintro e w1 ⟨rfl, rfl⟩
        refine hK _ _ (fun _ => hC0) ?_
        clear hK K
        refine ready_J 9 _ _ rfl (by kernel_rfl) rfl (fun K hK => ?_)
        go_simp
        with_reducible refine (hW.out _).mono ?_
        rintro e w2 ⟨v9, rfl, HO9, HB9⟩
        have hC1 : (fun W : World => W.cell? ⟨gw, 0, none⟩ = some vb) w2 := cell_keep HB9 hC0
        have HOx := hO.out.keep HB9
        have HBx := bel_trans hXB.out HB9
        refine hK _ _ (fun _ => hC1) ?_
        clear hK K
        refine ready_J 10 _ _ rfl (by kernel_rfl) rfl (fun K hK => ?_)
        refine wp_app_O W0.heap.size _ _ 22 5 rfl Try.underlying22 infoB vb v9 L (B4 (sumW L)) rfl rfl HOx HO9.rd HBx.size hL4.out ?_
        intro v3 w3' HO3 hg3 hat3
        have hC2 : (fun W : World => W.cell? ⟨gw, 0, none⟩ = some vb) w3' := Chg.cell (Chg.of hg3) hC1 (fun e => hne.out e.symm)
        refine hK _ _ (fun _ => hC2) ?_
        clear hK K
        simp only [Act.put, List.setIfInBounds_toArray, List.set_cons_zero, List.set_cons_succ]
        refine ready_J 11 _ _ rfl (by kernel_rfl) rfl (fun K hK => ?_)
        go_simp
        refine hK _ _ (fun _ => hC2) ?_
        clear hK K
        refine ready_J 12 _ _ rfl (by kernel_rfl) rfl (fun K hK => ?_)
        go_simp
        refine hK _ _ (fun _ => hC2) ?_
        clear hK K
        refine wpAnyJ_done (by kernel_rfl) ?_ _
        go_wp2
        go_ret2
        rw [hsl.out]
        exact ⟨v3, rfl, ⟨HO3.1, row_base HO3.2 hB0.out.size⟩, hB0.out.trans ((below_grown HBx HOx.2 hg3 HBx.size).mono hB0.out.size)⟩
  · have hEB : (E == 0) = false := by rw [beq_eq_false_iff_ne]; exact hE
    rw [if_pos hE]
    have hCc := hd_ (hCk.out _ (HR.keep hB0))
    have hB0 := hd_ hB0
    have hbS := hd_ hbS
    clear hck hCk HR
    go_enter Try.func21, Try.ntmps21
    go_wp2_with (first
      | (refine load_boxI ?hw 36 _ rfl w.heap.size 36 (stC seq (.slice A0 l.length c0)) _ rfl hbS.out Try.underlying36 rfl infoSt ?_; (case hw => first | rfl | simp [Region.wanted, yielded]))
      | (go_at_call 33; (with_reducible refine hCc.out.mono ?_); rintro e w1 ⟨rfl, HB1⟩))
    go_ret2
    exact ⟨_, rfl, own_nil8 _ _ _, bel_trans hB0.out HB1⟩
end Go.Proofs.Ytdmogbkfmeihfaa
