/- The law PackTexts. -/
import Derived.Test.YtlaeiipiboabaaaTxE
import Derived.Test.YtlaeiipiboabaaaOwD
import Derived.Test.YtlaeiipiboabaaaPlA
namespace Go.Proofs.Ytlaeiipiboabaaa
open Go.RowKit
set_option maxRecDepth 100000
set_option linter.unusedVariables false
section
variable {P : Program} {ops : Array Oper} {rest : List Oper} {o : Oper} {a : Act} {Q : Exit → Act → World → Prop}
theorem app_hyp {W : World} (hw : Region.wanted o (yielded ops a.tmps) = true) (s x : Operand) (t : TypeId) (ho : o.op = .call { callee := .builtin .append, args := #[s, x], argTypes := #[t, t] })
    (v y : Value) (hs : a.eval s = v) (hx : a.eval x = y) (v1 : Value) (w1 : World) (hr : (Builtin.append_ #[t, t] o.type #[v, y]).run P W = .ok v1 w1) (h : wpList P ops Q rest (a.put o.dst v1) w1) : wpList P ops Q (o :: rest) a W := by
  unfold wpList
  rw [if_pos hw]
  refine .inl ?_
  unfold Oper.wp execOp
  simp only [ho, resolve, invoke, builtin, Sem.run_bind, Sem.run_pure, Result.andThen_ok, List.map_toArray, List.map_cons, List.map_nil, hs, hx, hr]
  exact h
end
theorem l16 (n : Nat) (h : n * 16 ≤ 140737488351232) : (0 + n) * 16 ≤ 140737488355328 ∧ (0 + n + 2) * 16 ≤ 140737488355328 := by omega
theorem rds_rsl {w : World} {v : Value} {l : List ByteArray} (r : RSl 1 16 RStr w [v] l) : RdS w v l ∧ (∀ s ∈ l, s.size ≤ 140737488351232) ∧ l.length * 16 ≤ 140737488351232 := by
  obtain ⟨v', vs, hv, hR, hB, hx⟩ := r
  injection hv with hv
  subst hv
  have hvl := hR.1
  rw [Nat.mul_one] at hvl
  have hget : ∀ j, j < l.length → ∃ a, l[j]? = some a ∧ vs[j]? = some (.string a) ∧ a.size ≤ 140737488351232 := fun j hj => by
    obtain ⟨a, h1, _, h3, h4⟩ := hx j hj
    refine ⟨a, h1, ?_, h4⟩
    rw [Nat.mul_one] at h3
    have := congrArg (·[0]?) h3
    simpa [List.getElem?_take, List.getElem?_drop] using this
  have e : vs = l.map Value.string := by
    apply List.ext_getElem?
    intro j
    by_cases hj : j < l.length
    · obtain ⟨a, h1, h2, _⟩ := hget j hj
      rw [h2, List.getElem?_map, h1]; rfl
    · rw [List.getElem?_eq_none (by omega), List.getElem?_eq_none (by rw [List.length_map]; omega)]
  refine ⟨by rw [e] at hR; exact hR, fun s hs => ?_, hB⟩
  obtain ⟨j, hj, rfl⟩ := List.getElem_of_mem hs
  obtain ⟨a, h1, _, h3⟩ := hget j hj
  rw [List.getElem?_eq_getElem hj] at h1
  injection h1 with h1
  rw [h1]; exact h3
theorem txR_len : ∀ (l : List ByteArray) (f : Bool) (ahead : ByteArray) (all : Nat) (L : List Int), all ≤ 268435456 → L.length ≤ 30000000 + all → l.length ≤ 1048576 → L.length + 20 * l.length ≤ 30000000 + all → (txR l f ahead all L).2.length ≤ 300000000
  | [], f, ahead, all, L, h1, h2, _, _ => by show L.length ≤ _; omega
  | s :: r, f, ahead, all, L, h1, h2, h3, h4 => by
    unfold txR
    split
    · simp
    split
    · simp
    split
    · simp
    · rename_i hA hB hC
      have hl := shL_le (byL ahead) (byL s)
      rw [byL_length, byL_length] at hl
      have hb1 := lebB_10 (v := shL (byL ahead) (byL s)) (by omega)
      have hb2 := lebB_10 (v := s.size - shL (byL ahead) (byL s)) (by omega)
      have hd : ((byL s).drop (shL (byL ahead) (byL s))).length = s.size - shL (byL ahead) (byL s) := by rw [List.length_drop, byL_length]
      simp only [List.length_cons] at h3 h4
      refine txR_len r false s (all + s.size) _ (by omega) ?_ (by omega) ?_
      · simp only [List.length_append]; omega
      · simp only [List.length_append]; omega
theorem txA_len (l : List ByteArray) : (txA l).2.length ≤ 300000000 := by
  unfold txA
  split
  · simp
  · rename_i h
    have := lebB_10 (v := l.length) (by omega)
    exact txR_len l true ⟨#[]⟩ 0 _ (by omega) (by omega) (by omega) (by omega)
abbrev abS : List ByteArray := [⟨#[97]⟩, ⟨#[97, 98]⟩, ⟨#[98]⟩]
theorem txA_ab : txA abS = (0, [3, 0, 1, 97, 1, 1, 98, 0, 1, 98]) := by
  have q1 : lq ⟨#[97, 98]⟩ ⟨#[97]⟩ = false := by kernel_rfl
  have q2 : lq ⟨#[98]⟩ ⟨#[97, 98]⟩ = false := by kernel_rfl
  have b0 : byL ⟨#[]⟩ = [] := rfl
  have b1 : byL ⟨#[97]⟩ = [97] := rfl
  have b2 : byL ⟨#[97, 98]⟩ = [97, 98] := rfl
  have b3 : byL ⟨#[98]⟩ = [98] := rfl
  have z1 : (ByteArray.mk #[97]).size = 1 := rfl
  have z2 : (ByteArray.mk #[97, 98]).size = 2 := rfl
  have z3 : (ByteArray.mk #[98]).size = 1 := rfl
  have l0 : lebB 0 = [0] := lebB_lo (by decide)
  have l1 : lebB 1 = [1] := lebB_lo (by decide)
  have l3 : lebB 3 = [3] := lebB_lo (by decide)
  simp [txA, txR, q1, q2, b0, b1, b2, b3, z1, z2, z3, shL, l0, l1, l3]
set_option maxHeartbeats 8000000 in
theorem law_PackTexts (w : World) (v : Value) (l : List ByteArray) (r : RSl 1 16 RStr w [v] l) (v2 : Value) (l2 : List ByteArray) (r2 : RSl 1 16 RStr w [v2] l2) :
    Calls Try.prog 4 #[v, v2] w fun e w' => e = .returned (.bool true) ∧ Below w.heap.size w w' := by
  obtain ⟨HR, hs, hl⟩ := rds_rsl r
  obtain ⟨HR2, hs2, hl2⟩ := rds_rsl r2
  clear r r2
  have hl16 := hd_ (And.intro hl (show l.length ≤ 8796093022000 by omega))
  obtain ⟨E, M, hA⟩ : ∃ E M, txA l = (E, M) := ⟨_, _, rfl⟩
  obtain ⟨E2, M2, hA2⟩ : ∃ E M, txA l2 = (E, M) := ⟨_, _, rfl⟩
  have hm1 := hd_ (show M.length ≤ 70368744177664 by have := txA_len l; rw [hA] at this; simp only at this; omega)
  have hm2 := hd_ (show M2.length ≤ 70368744177664 by have := txA_len l2; rw [hA2] at this; simp only at this; omega)
  have hP := hd_ (fun W u (h : RdS W u l) => show Calls Try.prog 17 #[u] W (fun e w' => ∃ x, e = .returned (.tuple #[x, .int .i64 E]) ∧ Own w' W.heap.size 5 x M ∧ Below W.heap.size W w') from by have := P_Texts_any u l W h hs (by omega); rw [hA] at this; exact this)
  have hP2 := hd_ (fun W u (h : RdS W u l2) => show Calls Try.prog 17 #[u] W (fun e w' => ∃ x, e = .returned (.tuple #[x, .int .i64 E2]) ∧ Own w' W.heap.size 5 x M2 ∧ Below W.heap.size W w') from by have := P_Texts_any u l2 W h hs2 (by omega); rw [hA2] at this; exact this)
  have hX := hd_ (fun W u (h : RdS W u l) => show Calls Try.prog 18 #[u] W (fun e w' => ∃ x, e = .returned (.tuple #[x, .int .i64 E]) ∧ Own w' W.heap.size 5 x M ∧ Below W.heap.size W w') from by have := X_Texts_any u l W h hs (by omega); rw [hA] at this; exact this)
  have hX2 := hd_ (fun W u (h : RdS W u l2) => show Calls Try.prog 18 #[u] W (fun e w' => ∃ x, e = .returned (.tuple #[x, .int .i64 E2]) ∧ Own w' W.heap.size 5 x M2 ∧ Below W.heap.size W w') from by have := X_Texts_any u l2 W h hs2 (by omega); rw [hA2] at this; exact this)
  have hRH := hd_ HR
  have hRH2 := hd_ HR2
  have hSame := hd_ (fun W v u l (h1 : Rd W v l) (h2 : Rd W u l) => show Calls Try.prog 19 #[v, u] W (fun e w' => e = .returned (.bool true) ∧ W = w') from (Same_any v u l l W h1 h2).mono (by rintro e w' ⟨h1, h2⟩; exact ⟨by rw [h1, decide_eq_true rfl], h2⟩))
  clear HR HR2 hs hs2 hl hl2 hA hA2
  go_enter Try.func4, Try.ntmps4
  go_upto_region 6 with (first
    | (go_at_call 16; (with_reducible refine (lendS_any v l w hRH.out hl16.out.1).mono ?_); rintro e w1 ⟨wh, pt, rfl, hWh, hPt, hB1⟩; have hPc1 := hP.out w1 pt hPt)
    | (go_at_call 17; (with_reducible refine hPc1.mono ?_); rintro e w2 ⟨a, rfl, hOa, hB2⟩; have hB02 := bel_trans hB1 hB2; have hXc := hX.out w2 v (hRH.out.keep hB02))
    | (go_at_call 18; (with_reducible refine hXc.mono ?_); rintro e w3 ⟨b, rfl, hOb, hB3⟩; have hB03 := bel_trans hB02 hB3; have hPc2 := hP2.out w3 v2 (hRH2.out.keep hB03))
    | (go_at_call 17; (with_reducible refine hPc2.mono ?_); rintro e w4 ⟨c, rfl, hOc, hB4⟩; have hB04 := bel_trans hB03 hB4; have hXc2 := hX2.out w4 v2 (hRH2.out.keep hB04))
    | (go_at_call 18; (with_reducible refine hXc2.mono ?_); rintro e w5 ⟨d, rfl, hOd, hB5⟩))
  have hB05 := bel_trans hB04 hB5
  have hB35 := bel_trans hB4 hB5
  have hB25 := bel_trans hB3 hB35
  have hOa5 := hOa.keep hB25
  have hOb5 := hOb.keep hB35
  have hOc5 := hOc.keep hB5
  have hWh5 := hWh.keep (bel_trans hB2 hB25)
  have hPt5 := hd_ (hPt.keep (bel_trans hB2 hB25))
  have hSab := hd_ (hSame.out w5 a b M hOa5.rd hOb5.rd)
  have hScd := hd_ (hSame.out w5 c d M2 hOc5.rd hOd.rd)
  have hB6 := al1 (Below.refl w5.heap.size w5) (.cells #[] 9)
  have hO6 : Hid ((w5.alloc (.cells #[] 9)).ownsRow w5.heap.size 9 1 (.slice (some ⟨w5.heap.size, 0, none⟩) 0 0) 0 ([].map Value.string)) := hd_ (lit_ownS w5 w5.heap.size (Nat.le_refl _) [] 0 rfl (by decide))
  have hR6 := hd_ ((hRH.out.keep hB05).keep hB6)
  have hfacts := hd_ (And.intro hOa5 (And.intro hOc5 (And.intro hB05 (And.intro (fun k e => Nat.lt_of_lt_of_le (own_lt hOa k e).2 (Nat.le_trans hB3.size hB4.size) : ∀ k, a.ownBlock = some k → k < w4.heap.size) (And.intro (fun k e => Nat.lt_of_lt_of_le (own_lt hOa k e).2 hB3.size : ∀ k, a.ownBlock = some k → k < w3.heap.size) (And.intro (fun k e => (own_lt hOc k e).1 : ∀ k, c.ownBlock = some k → w3.heap.size ≤ k) (And.intro hB1.size hB03.size)))))))
  have hWh5 := hd_ hWh5
  have hB6 := hd_ hB6
  obtain ⟨hl1, hl3⟩ := l16 l.length hl16.out.1
  clear hPc1 hXc hPc2 hXc2 hOa hOb hOc hOd hB1 hB2 hB3 hB4 hB5 hB02 hB03 hB04 hB05 hB35 hB25 hOa5 hOb5 hOc5 hWh hPt hX hX2
  obtain ⟨u1, w6, hr1, h1, hg1, hat1⟩ := run_app (P := Try.prog) (W := w5.alloc (.cells #[] 9)) w5.heap.size 28 28 9 (.string ⟨#[]⟩) 1 16 Try.underlying28 infoS rfl Nat.one_pos (v := .slice (some ⟨w5.heap.size, 0, none⟩) 0 0) (y := v) (n := 0) (m := l.length) (xs := [].map Value.string) (ys := l.map Value.string) hO6.out hR6.out (one_strs l) hB6.out.size (by omega) hl1
  have hB7 := hB6.out.grown hg1 hB6.out.size (fun k hk => (show w5.heap.size ≤ k from by have h1 : some w5.heap.size = some k := hk; injection h1 with h1; omega))
  have hO7 := row_keep h1 (al1 (Below.refl w6.heap.size w6) (.cells (xyS.map Value.string).toArray 9))
  have hR7 : RdC 1 (w6.alloc (.cells (xyS.map Value.string).toArray 9)) (.slice (some ⟨w6.heap.size, 0, none⟩) 2 2) 2 (xyS.map Value.string) := RdC.own (lit_ownS w6 0 (Nat.zero_le _) xyS 2 rfl (by decide))
  have hB8 := bel_trans hB7 (al1 (Below.refl w6.heap.size w6) (.cells (xyS.map Value.string).toArray 9))
  obtain ⟨u2, w7, hr2, h2, hg2, hat2⟩ := run_app (P := Try.prog) (W := w6.alloc (.cells (xyS.map Value.string).toArray 9)) w5.heap.size 28 28 9 (.string ⟨#[]⟩) 1 16 Try.underlying28 infoS rfl Nat.one_pos (v := u1) (y := .slice (some ⟨w6.heap.size, 0, none⟩) 2 2) (n := 0 + l.length) (m := 2) (xs := [].map Value.string ++ l.map Value.string) (ys := xyS.map Value.string) hO7 hR7 (one_strs xyS) hB8.size (by omega) hl3
  have hB9 := hB8.grown hg2 hB8.size (fun k hk => by
    rcases hat1 with h4 | h4
    · have h5 : some k = some w5.heap.size := hk.symm.trans h4
      injection h5 with h5; omega
    · have h5 := hk.symm.trans h4
      injection h5 with h5
      have := hB6.out.size
      omega)
  have hU := rds_of (l := l ++ xyS) (by rw [List.map_append]; exact h2) (by rw [List.length_append]; simp)
  have hsm := hd_ (same_true wh u2 (l ++ xyS) w7 (hWh5.out.keep hB9) hU (by have := hl16.out.2; rw [List.length_append]; simp only [List.length_cons, List.length_nil]; omega))
  have hB9 := hd_ hB9
  have hr1' : Sem.run Try.prog (Builtin.append_ #[28, 28] 28 #[.slice (some ⟨w5.heap.size, 0, none⟩) 0 0, v]) (w5.alloc (.cells #[] 9)) = .ok u1 w6 := hr1
  have hr2' : Sem.run Try.prog (Builtin.append_ #[28, 28] 28 #[u1, .slice (some ⟨w6.heap.size, 0, none⟩) 2 2]) (w6.alloc (.cells #[.string ⟨#[120]⟩, .string ⟨#[121]⟩] 9)) = .ok u2 w7 := hr2
  have hr1' := hd_ hr1'
  have hr2' := hd_ hr2'
  clear hr1 h1 hg1 hat1 hB7 hO7 hR7 hB8 hr2 h2 hg2 hat2 hU hO6 hR6 hWh5 hl1 hl3 hB6
  go_upto_region 8 with (first
    | (go_at_call 19; (with_reducible refine hSab.out.mono ?_); rintro e wz ⟨rfl, rfl⟩)
    | (go_at_call 19; (with_reducible refine hScd.out.mono ?_); rintro e wz ⟨rfl, rfl⟩)
    | (at_builtin; refine app_hyp ?hw _ _ 28 rfl _ _ rfl rfl u1 w6 hr1'.out ?_; (case hw => first | rfl | simp [Region.wanted, yielded]))
    | (at_builtin; refine app_hyp ?hw _ _ 28 rfl _ _ rfl rfl u2 w7 hr2'.out ?_; (case hw => first | rfl | simp [Region.wanted, yielded]))
    | (go_at_call 20; (with_reducible refine hsm.out.mono ?_); rintro e w8 ⟨rfl, m8, rfl⟩))
  have hB10 := bel_trans hB9.out (below_drewN (Below.refl w7.heap.size w7) m8)
  obtain ⟨hOa5, hOc5, hB05, ka4, ka3, kc3, hz1, hz3⟩ := hfacts.out
  have hOa10 := hd_ (hOa5.keep hB10)
  have hOc10 := hd_ (hOc5.keep hB10)
  have hB010 := hd_ (bel_trans hB05 hB10)
  have hPc := hd_ (hP.out (w7.drewN m8) pt (hPt5.out.keep hB10))
  have hk := hd_ (And.intro ka3 (And.intro kc3 (And.intro hz1 hz3)))
  have hsz10 := hd_ hB10.size
  clear hB10 hOa5 hOc5 hB05 ka4 ka3 kc3 hz1 hz3 hfacts hPt5 hsm hr1' hr2' hB9 hSab hScd
  generalize w7.drewN m8 = W10 at *
  go_upto_region 9 with (go_at_call 17; (with_reducible refine hPc.out.mono ?_); rintro e w11 ⟨ag, rfl, hOg, hB11⟩)
  have hOa11 := hOa10.out.keep hB11
  have hOc11 := hOc10.out.keep hB11
  have hB011 := bel_trans hB010.out hB11
  obtain ⟨Aa, na, ca, hva⟩ : ∃ A m k, a = .slice A m k := by obtain ⟨A, k, h⟩ := own_slice hOa11.toN; exact ⟨A, _, k, h⟩
  obtain ⟨Ac, nc, cc, hvc⟩ : ∃ A m k, c = .slice A m k := by obtain ⟨A, k, h⟩ := own_slice hOc11.toN; exact ⟨A, _, k, h⟩
  obtain ⟨Ag, ng, cg, hvg⟩ : ∃ A m k, ag = .slice A m k := by obtain ⟨A, k, h⟩ := own_slice hOg.toN; exact ⟨A, _, k, h⟩
  subst hva; subst hvc; subst hvg
  obtain ⟨k1, k2, k3, k4⟩ := hk.out
  have hB12 := al1 (Below.refl w11.heap.size w11) (.cells #[.slice Aa na ca, .slice Ac nc cc, .slice Ag ng cg] 25)
  have hbx12 := Box.new w11 #[.slice Aa na ca, .slice Ac nc cc, .slice Ag ng cg] 25
  obtain ⟨W12, hW12⟩ : ∃ W12, W12 = w11.alloc (.cells #[.slice Aa na ca, .slice Ac nc cc, .slice Ag ng cg] 25) := ⟨_, rfl⟩
  rw [← hW12] at hB12 hbx12
  have ga : ∀ k, (Value.slice Aa na ca).ownBlock = some k → k < W10.heap.size := fun k e => (own_lt hOa10.out k e).2
  have gc : ∀ k, (Value.slice Ac nc cc).ownBlock = some k → k < W10.heap.size := fun k e => (own_lt hOc10.out k e).2
  have gg : ∀ k, (Value.slice Ag ng cg).ownBlock = some k → W10.heap.size ≤ k ∧ k < w11.heap.size := fun k e => own_lt hOg k e
  have h1011 := hB11.size
  have hOw := hd_ (Own3_any (.slice Aa na ca) (.slice Ac nc cc) (.slice Ag ng cg) M M2 M w11.heap.size W12 (hOa11.keep hB12).toN (hOc11.keep hB12).toN (hOg.keep hB12).toN (hbx12.cell 0 rfl) (hbx12.cell 1 rfl) (hbx12.cell 2 rfl) hm1.out hm2.out hm1.out
    (fun k e e2 => by have := k1 k e; have := k2 k e2; omega) (fun k e e2 => by have := ga k e; have := gg k e2; omega) (fun k e e2 => by have := gc k e; have := gg k e2; omega)
    (fun e => by have := ga _ e; omega) (fun e => by have := gc _ e; omega) (fun e => by have := gg _ e; omega))
  have hafter := hd_ (fun W (hC : Chg (fun k => (Value.slice Aa na ca).ownBlock = some k ∨ (Value.slice Ac nc cc).ownBlock = some k ∨ (Value.slice Ag ng cg).ownBlock = some k) W12 W) => (show Below w.heap.size w W from hC.then (bel_trans hB011 hB12) (fun k h2 => by
      have hz010 := hB010.out.size
      rcases h2 with h2 | h2 | h2
      · have := (own_lt hOa10.out k h2).1; omega
      · have := k2 k h2; omega
      · have := gg k h2; omega) (bel_trans hB011 hB12).size))
  rw [hW12] at hOw
  clear hB12 hbx12 ga gc gg h1011 hOa11 hOc11 hB011 hOg hB11 k1 k2 k3 k4
  go_upto_region 11 with (go_at_call 21; (with_reducible refine hOw.out.mono ?_); rintro e w13 ⟨rfl, hC13⟩)
  rw [← hW12] at hC13
  have hB13 := hafter.out _ hC13
  have hB14 := al1 (Below.refl w13.heap.size w13) (.cells (abS.map Value.string).toArray 9)
  have hL14 := lit_ownS w13 0 (Nat.zero_le _) abS 3 rfl (by decide)
  have hPab := hd_ (show Calls Try.prog 17 #[.slice (some ⟨w13.heap.size, 0, none⟩) 3 3] (w13.alloc (.cells #[.string ⟨#[97]⟩, .string ⟨#[97, 98]⟩, .string ⟨#[98]⟩] 9)) (fun e w' => ∃ x, e = .returned (.tuple #[x, .int .i64 0]) ∧ Own w' (w13.alloc (.cells #[.string ⟨#[97]⟩, .string ⟨#[97, 98]⟩, .string ⟨#[98]⟩] 9)).heap.size 5 x [3, 0, 1, 97, 1, 1, 98, 0, 1, 98] ∧ Below (w13.alloc (.cells #[.string ⟨#[97]⟩, .string ⟨#[97, 98]⟩, .string ⟨#[98]⟩] 9)).heap.size (w13.alloc (.cells #[.string ⟨#[97]⟩, .string ⟨#[97, 98]⟩, .string ⟨#[98]⟩] 9)) w') from by
    have := P_Texts_any (.slice (some ⟨w13.heap.size, 0, none⟩) 3 3) abS (w13.alloc (.cells (abS.map Value.string).toArray 9)) (rds_of hL14 rfl) (by intro s hs; simp at hs; rcases hs with rfl | rfl | rfl <;> decide) (by decide)
    rw [txA_ab] at this
    exact this)
  have hB14 := hd_ hB14
  have hB13 := hd_ hB13
  clear hC13 hL14 hOw hafter
  go_wp2_with (first
    | (go_at_call 17; (with_reducible refine hPab.out.mono ?_); rintro e w15 ⟨ab, rfl, hOab, hB15⟩; have hlt := lit_own8 w15 0 (Nat.zero_le _) [3, 0, 1, 97, 1, 1, 98, 0, 1, 98] (by intro b hb; simp at hb; omega) 10 rfl (by unfold maxLen; omega); have hB16 := al1 (Below.refl w15.heap.size w15) (.cells (u8A [3, 0, 1, 97, 1, 1, 98, 0, 1, 98]) 5); have hSx := hd_ (hSame.out _ ab _ _ (hOab.keep hB16).rd hlt.rd))
    | (go_at_call 19; refine hSx.out.mono ?_; rintro e wz ⟨rfl, rfl⟩))
  go_ret
  exact ⟨rfl, bel_trans hB13.out (bel_trans hB14.out (bel_trans hB15 hB16))⟩
end Go.Proofs.Ytlaeiipiboabaaa
