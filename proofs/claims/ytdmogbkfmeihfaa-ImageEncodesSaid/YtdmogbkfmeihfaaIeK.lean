/- A state lent; the law ImageEncodes. -/
import Derived.Test.YtdmogbkfmeihfaaIeJ
import Derived.Test.YtdmogbkfmeihfaaIeE
namespace Go.Proofs.Ytdmogbkfmeihfaa
open Go.RowKit
set_option maxRecDepth 100000
set_option linter.unusedVariables false
theorem results_tmp_cell {fn : Func} {u p : Tmp} {ty : TypeId} (h : fn.results = #[.tmp u, .cell p ty]) (tmps : Array Value) (P : Program) (w : World) {v : Value} {g : Nat} (hp : tmps.getD p undef = .pointer (some ⟨g, 0, none⟩))
    (hl : (loadVar ty ⟨g, 0, none⟩).run P w = .ok v w) : (results fn tmps).run P w = .ok (.tuple #[tmps.getD u undef, v]) w := by
  have hp2 : tmps[p]?.getD undef = .pointer (some ⟨g, 0, none⟩) := by rw [← hp]; simp
  simp only [results, h]
  simp [Result.andThen, hp2, asAddr, hl]
abbrev srR : List RowT := [(⟨#[115, 112, 97, 114, 101]⟩, ⟨#[]⟩, 0), (⟨#[114, 111, 111, 109]⟩, ⟨#[]⟩, 0)]
def LendSt (w : World) (seq : Int) (l : List RowT) (e : Ending) (w' : World) : Prop := ∃ wh pt, e = .returned (.tuple #[wh, .agg (stC seq pt)]) ∧ RdR w' wh (l ++ srR) ∧ RdR w' pt l ∧ Below w.heap.size w w'
theorem lit_row0 (W : World) (base : Nat) (hb : base ≤ W.heap.size) : (W.alloc (.cells #[] 61)).ownsRow base 61 3 (.slice (some ⟨W.heap.size, 0, none⟩) 0 0) 0 [] := by
  have := World.ownsRow_lit (e := 61) (size := 3) W #[] 0 hb (by decide) rfl
  simpa using this
theorem lit_row2 (W : World) : RdC 3 (W.alloc (.cells #[.string ⟨#[115, 112, 97, 114, 101]⟩, .string ⟨#[]⟩, .int .i64 0, .string ⟨#[114, 111, 111, 109]⟩, .string ⟨#[]⟩, .int .i64 0] 61)) (.slice (some ⟨W.heap.size, 0, none⟩) 2 2) 2 (rowsV srR) :=
  ⟨rfl, _, _, rfl, Nat.le_refl _, by decide, (fun h => by cases h), fun j hj => ⟨_, 0, rfl, by rw [Nat.zero_add, World.cell?_alloc_new]; show _ = ([.string ⟨#[115, 112, 97, 114, 101]⟩, .string ⟨#[]⟩, .int .i64 0, .string ⟨#[114, 111, 111, 109]⟩, .string ⟨#[]⟩, .int .i64 0] : List Value)[j]?; simp⟩⟩
theorem rdr_of {w : World} {base n : Nat} {v : Value} {l : List RowT} (h : w.ownsRow base 61 3 v n (rowsV l)) (hn : n = l.length) : RdR w v l := by subst hn; exact RdC.own h
section
variable {P : Program} {o : Oper} {a : Act} {K : Act → World → Prop} {Q : Exit → Act → World → Prop}
theorem wp_store_boxI {W : World} (ty : TypeId) (x y : Operand) (ho : o.op = .store ty x y) (g : Nat) (t : TypeId) (old cells : Array Value)
    (hx : a.eval x = .pointer (some ⟨g, 0, none⟩)) (hy : a.eval y = .agg cells) (hb : Box W g t old) (hi : (P.info? ty).map (·.size) = some cells.size) (hold : old.size = cells.size) (h1 : cells.all (·.oneCell') = true)
    (h : ∀ w1, Box w1 g t cells → W.grownBy w1 (some g) → K (a.put o.dst undef) w1) : Oper.wp P o a W K Q :=
  wp_store_row ty x y ho g cells hx hy t old hb hi hold h1 (h _ (setRow_heap W g old cells t (0, 0) hb) ⟨rfl, rfl, rfl, by simp [World.setRow], fun k _ hk => setRow_other W g k cells (fun e => hk (by simp [e]))⟩)
end
set_option maxHeartbeats 4000000 in
theorem lendI_any (seq : Int) (v : Value) (l : List RowT) (w : World) (HR : RdR w v l) (hl : l.length * 40 ≤ 140737488351232) :
    Calls Try.prog 20 #[.agg (stC seq v)] w (LendSt w seq l) := by
  obtain ⟨A0, c0, hv0, hc0⟩ := HR.form
  subst hv0
  have hlen := HR.len
  have hl40 := hd_ (show (0 + l.length) * 40 ≤ 140737488355328 ∧ (0 + l.length + 2) * 40 ≤ 140737488355328 by omega)
  have hbS := Box.new w (stC seq (.slice A0 l.length c0)) 36
  have hB0 := al1 (Below.refl w.heap.size w) (.cells (stC seq (.slice A0 l.length c0)) 36)
  obtain ⟨W0, hW0⟩ : ∃ W0, W0 = w.alloc (.cells (stC seq (.slice A0 l.length c0)) 36) := ⟨_, rfl⟩
  rw [← hW0] at hbS hB0
  have hB1 := al1 (Below.refl W0.heap.size W0) (.cells #[.int .i64 0, .slice none 0 0] 36)
  have hbR := Box.new W0 #[.int .i64 0, .slice none 0 0] 36
  obtain ⟨W1, hW1⟩ : ∃ W1, W1 = W0.alloc (.cells #[.int .i64 0, .slice none 0 0] 36) := ⟨_, rfl⟩
  rw [← hW1] at hB1 hbR
  have hz1 : W0.heap.size = w.heap.size + 1 := by rw [hW0]; simp
  have hz2 : W1.heap.size = w.heap.size + 2 := by rw [hW1, World.alloc, Array.size_push]; omega
  rw [hz1] at hbR
  have hzz := hd_ hz2
  clear hz2
  have hbS1 := hbS.keep hB1
  clear hz1
  have hR1 := HR.keep (bel_trans hB0 hB1)
  have q0 := hbS1.cell 0 (v := .int .i64 seq) rfl
  have q1 := hbS1.cell 1 (v := .slice A0 l.length c0) rfl
  have hQ := hd_ (fun W (h : Below W1.heap.size W1 W) => And.intro (cell_keep h q0) (And.intro (cell_keep h q1) (hbR.keep h)))
  have hE0 := al1 (Below.refl W1.heap.size W1) (.cells #[] 61)
  have q1a := cell_keep hE0 q1
  have hO0 := hd_ (lit_row0 W1 W1.heap.size (Nat.le_refl _))
  have hR1a := hd_ (hR1.keep hE0)
  have hE0 := hd_ hE0
  have hB01 := hd_ (bel_trans hB0 hB1)
  unfold stC at hW0
  clear hbS hbS1 HR hR1 hB0 hbR
  go_enter Try.func20, Try.ntmps20
  go_upto_region 1 with fail
  try unfold stC
  rw [← hW0, ← hW1]
  clear hW0 hW1 hB1
  go_upto_region 2 with (first
    | (at_builtin; refine app_rd W1.heap.size rfl _ _ 34 61 (.agg #[.string ⟨#[]⟩, .string ⟨#[]⟩, .int .i64 0]) 3 40 rfl Try.underlying34 infoRowZ rfl (by omega) _ (.slice A0 l.length c0) 0 l.length [] (rowsV l) rfl rfl hO0.out hR1a.out (rowsV_one l) hE0.out.size (by omega) hl40.out.1 ?_; intro v1 w1 HO1 hg1 hat1; have HB1 := below_grown hE0.out hO0.out hg1 hE0.out.size; have HB1b := bel_trans HB1 (al1 (Below.refl w1.heap.size w1) (.cells #[.string ⟨#[115, 112, 97, 114, 101]⟩, .string ⟨#[]⟩, .int .i64 0, .string ⟨#[114, 111, 111, 109]⟩, .string ⟨#[]⟩, .int .i64 0] 61)); have HO1b := row_keep HO1 (al1 (Below.refl w1.heap.size w1) (.cells #[.string ⟨#[115, 112, 97, 114, 101]⟩, .string ⟨#[]⟩, .int .i64 0, .string ⟨#[114, 111, 111, 109]⟩, .string ⟨#[]⟩, .int .i64 0] 61)))
    | (at_builtin; refine app_rd W1.heap.size rfl _ _ 34 61 (.agg #[.string ⟨#[]⟩, .string ⟨#[]⟩, .int .i64 0]) 3 40 rfl Try.underlying34 infoRowZ rfl (by omega) v1 _ (0 + l.length) 2 ([] ++ rowsV l) (rowsV srR) rfl rfl HO1b (lit_row2 w1) (rowsV_one srR) HB1b.size (by omega) hl40.out.2 ?_; intro v2 w2 HO2 hg2 hat2))
  have HB2 := below_grown HB1b HO1b hg2 HB1b.size
  have HO2 : w2.ownsRow W1.heap.size 61 3 v2 (l ++ srR).length (rowsV (l ++ srR)) := by
    rw [rowsV_append, List.length_append]
    have := HO2
    rw [List.nil_append, Nat.zero_add] at this
    exact this
  have HRw : RdR w2 v2 (l ++ srR) := RdC.own HO2
  obtain ⟨pt, hsl, hRp⟩ := RdC.sl_h (P := Try.prog) Try.underlying34 infoRowZ HRw l.length (by rw [List.length_append]; omega)
  have hsl : ∀ W : World, Sem.run Try.prog (Instr.slice 34 v2 none (some (.int .i64 (l.length : Int))) none) W = .ok pt W := hsl
  have hRp : RdR w2 pt l := by
    have e : (rowsV (l ++ srR)).take (l.length * 3) = rowsV l := by
      rw [rowsV_append, ← rowsV_length, List.take_left]
    rw [e] at hRp
    exact hRp
  have hRp := hd_ hRp
  have HRw := hd_ HRw
  obtain ⟨q0b, q1b, hbRb⟩ := hQ.out w2 HB2
  obtain ⟨Ap, cp, hpe, _⟩ := hRp.out.form
  subst hpe
  have hO2 := hd_ HO2
  have hB2 := hd_ HB2
  have hC0 : (fun W : World => W.cell? ⟨w.heap.size, 0, none⟩ = some (.int .i64 seq) ∧ W.cell? ⟨w.heap.size, 1, none⟩ = some (.slice A0 l.length c0)) w2.drew := ⟨q0b, q1b⟩
  have hbRd := hd_ (hbRb.keep (Below.refl w2.heap.size w2).drew)
  have hOd := hd_ (row_keep HO2 (Below.refl w2.heap.size w2).drew)
  have hBd := hd_ HB2.drew
  clear hg1 hat1 HB1 HB1b HO1b hg2 hat2 HB2 HO2 HRw q0b q1b hbRb HO1 hE0 hR1a hO0 q1a q0 q1 hRp
  refine region_J [] (fun W : World => W.cell? ⟨w.heap.size, 0, none⟩ = some (.int .i64 seq) ∧ W.cell? ⟨w.heap.size, 1, none⟩ = some (.slice A0 l.length c0)) (by kernel_rfl) ?_
  generalize w2.drew = W2 at *
  refine take_J 0 _ _ (v := ?_) rfl (by kernel_rfl) (by kernel_rfl) (by kernel_rfl) (by kernel_rfl) (fun _ _ _ h => h) rfl hC0 ?_ ?_
  rotate_left
  · intro W hC; obtain ⟨cc0, cc1⟩ := hC; go_simp; try with_reducible rfl
  simp only [Act.put, List.setIfInBounds_toArray, List.set_cons_zero, List.set_cons_succ]
  refine take_J 1 _ _ (v := ?_) rfl (by kernel_rfl) (by kernel_rfl) (by kernel_rfl) (by kernel_rfl) (fun _ _ _ h => h) rfl hC0 ?_ ?_
  rotate_left
  · intro W hC; obtain ⟨cc0, cc1⟩ := hC; go_simp; try with_reducible rfl
  simp only [Act.put, List.setIfInBounds_toArray, List.set_cons_zero, List.set_cons_succ]
  refine take_J 2 _ _ (v := ?_) rfl (by kernel_rfl) (by kernel_rfl) (by kernel_rfl) (by kernel_rfl) (fun _ _ _ h => h) rfl hC0 ?_ ?_
  rotate_left
  · intro W hC; obtain ⟨cc0, cc1⟩ := hC; go_simp; try with_reducible rfl
  simp only [Act.put, List.setIfInBounds_toArray, List.set_cons_zero, List.set_cons_succ]
  refine take_J 3 _ _ (v := ?_) rfl (by kernel_rfl) (by kernel_rfl) (by kernel_rfl) (by kernel_rfl) (fun _ _ _ h => h) rfl hC0 ?_ ?_
  rotate_left
  · intro W hC; obtain ⟨cc0, cc1⟩ := hC; go_simp; try with_reducible rfl
  simp only [Act.put, List.setIfInBounds_toArray, List.set_cons_zero, List.set_cons_succ]
  refine take_J 4 _ _ (v := ?_) rfl (by kernel_rfl) (by kernel_rfl) (by kernel_rfl) (by kernel_rfl) (fun _ _ _ h => h) rfl hC0 ?_ ?_
  rotate_left
  · intro W hC; obtain ⟨cc0, cc1⟩ := hC; go_simp; try with_reducible rfl
  simp only [Act.put, List.setIfInBounds_toArray, List.set_cons_zero, List.set_cons_succ]
  refine take_J 5 _ _ (v := ?_) rfl (by kernel_rfl) (by kernel_rfl) (by kernel_rfl) (by kernel_rfl) (fun _ _ _ h => h) rfl hC0 ?_ ?_
  rotate_left
  · intro W hC; obtain ⟨cc0, cc1⟩ := hC; go_simp; try with_reducible rfl
  simp only [Act.put, List.setIfInBounds_toArray, List.set_cons_zero, List.set_cons_succ]
  refine take_J 6 _ _ (v := ?_) rfl (by kernel_rfl) (by kernel_rfl) (by kernel_rfl) (by kernel_rfl) (fun _ _ _ h => h) rfl hC0 ?_ ?_
  rotate_left
  · intro W hC; obtain ⟨cc0, cc1⟩ := hC; go_simp; try with_reducible rfl
  simp only [Act.put, List.setIfInBounds_toArray, List.set_cons_zero, List.set_cons_succ]
  refine take_J 7 _ _ (v := ?_) rfl (by kernel_rfl) (by kernel_rfl) (by kernel_rfl) (by kernel_rfl) (fun _ _ _ h => h) rfl hC0 ?_ ?_
  rotate_left
  · intro W hC; obtain ⟨cc0, cc1⟩ := hC; go_simp; try with_reducible rfl
  simp only [Act.put, List.setIfInBounds_toArray, List.set_cons_zero, List.set_cons_succ]
  refine take_J 8 _ _ (v := ?_) rfl (by kernel_rfl) (by kernel_rfl) (by kernel_rfl) (by kernel_rfl) (fun _ _ _ h => h) rfl hC0 ?_ ?_
  rotate_left
  · intro W hC; obtain ⟨cc0, cc1⟩ := hC; go_simp; try with_reducible rfl
  simp only [Act.put, List.setIfInBounds_toArray, List.set_cons_zero, List.set_cons_succ]
  refine ready_J 9 _ _ rfl (by kernel_rfl) rfl (fun K hK => ?_)
  go_simp
  refine hK _ _ (fun _ => hC0) ?_
  clear hK K
  refine ready_J 10 _ _ rfl (by kernel_rfl) rfl (fun K hK => ?_)
  refine wp_store_boxI 36 _ _ rfl (w.heap.size + 1) 36 _ (stC seq (.slice Ap l.length cp)) rfl rfl hbRd.out infoSt rfl (stC_one _ _ _ _) ?_
  intro w3 hb3 hg3
  have hC1 : (fun W : World => W.cell? ⟨w.heap.size, 0, none⟩ = some (.int .i64 seq) ∧ W.cell? ⟨w.heap.size, 1, none⟩ = some (.slice A0 l.length c0)) w3 := ⟨Chg.cell (Chg.of hg3) hC0.1 (fun e => by injection e with e; simp at e), Chg.cell (Chg.of hg3) hC0.2 (fun e => by injection e with e; simp at e)⟩
  refine hK _ _ (fun _ => hC1) ?_
  clear hK K
  simp only [Act.put]
  refine wpAnyJ_done (by kernel_rfl) ?_ _
  go_wp2
  refine bodyPost_ret (results_tmp_cell rfl _ _ _ rfl (run_load_box _ _ _ _ _ hb3 Try.underlying36 rfl infoSt)) rfl ?_
  have HO3 : w3.ownsRow W1.heap.size 61 3 v2 (l ++ srR).length (rowsV (l ++ srR)) := row_chg hOd.out (Chg.of hg3) (fun k hk e => by
    injection e with e
    subst e
    have := (hOd.out.lt _ hk).1
    have := hzz.out
    omega)
  have HR3 : RdR w3 v2 (l ++ srR) := RdC.own HO3
  obtain ⟨pt2, hsl2, hRp2⟩ := RdC.sl_h (P := Try.prog) Try.underlying34 infoRowZ HR3 l.length (by rw [List.length_append]; omega)
  have e : (rowsV (l ++ srR)).take (l.length * 3) = rowsV l := by rw [rowsV_append, ← rowsV_length, List.take_left]
  rw [e] at hRp2
  have hpp : Value.slice Ap l.length cp = pt2 := by
    have := (hsl w3).symm.trans (hsl2 w3)
    injection this
  rw [← hpp] at hRp2
  have hB3 : Below w.heap.size w w3 := below_row (hB01.out.trans (hBd.out.mono hB01.out.size)) hg3 (by omega) (Nat.le_trans hB01.out.size hBd.out.size)
  exact ⟨v2, _, rfl, HR3, hRp2, hB3⟩
set_option maxHeartbeats 2000000 in
theorem keptI_any (seq : Int) (v wh : Value) (l : List RowT) (w : World) (HR : RdR w v l) (HW : RdR w wh (l ++ srR)) (hl : l.length * 40 ≤ 140737488351232) :
    Calls Try.prog 26 #[wh, .agg (stC seq v)] w fun e w' => e = .returned (.bool true) ∧ Below w.heap.size w w' := by
  have hbS := hd_ (Box.new w (stC seq v) 36)
  have hB0 := hd_ (al1 (Below.refl w.heap.size w) (.cells (stC seq v) 36))
  have hL := hd_ (lendI_any seq v l _ (HR.keep hB0.out) hl)
  have hlb := hd_ (show (l ++ srR).length ≤ 9000000000000 by rw [List.length_append]; show l.length + 2 ≤ _; omega)
  have hWH := hd_ HW
  clear HR HW hl
  go_enter Try.func26, Try.ntmps26
  go_upto_region 2 with (first
    | (refine load_boxI ?hw 36 _ rfl w.heap.size 36 (stC seq v) _ rfl hbS.out Try.underlying36 rfl infoSt ?_; (case hw => first | rfl | simp [Region.wanted, yielded]))
    | (go_at_call 20; (with_reducible refine hL.out.mono ?_); rintro e w1 ⟨wh1, pt1, rfl, HRw, HRp, HB1⟩; obtain ⟨Ap, cp, rfl, _⟩ := HRp.form)
    | (refine store_box rfl 36 _ _ rfl _ _ _ (stC seq (.slice Ap l.length cp)) rfl rfl (Box.new _ _ _) infoSt rfl (stC_one _ _ _ _) ?_; intro w2 hb2 hg2))
  have HB2 := below_row (al1 (Below.refl w1.heap.size w1) _) hg2 (Nat.le_refl _) (size_al _ _)
  have hB02 := bel_trans hB0.out (bel_trans HB1 HB2)
  have hS := hd_ (Same07_any wh wh1 (l ++ srR) w2 (hWH.out.keep hB02) (HRw.keep HB2) hlb.out)
  have hB02 := hd_ hB02
  simp only [Act.put]
  clear HRw HRp HB1 HB2 hg2 hb2
  go_wp2_with (go_at_call 38; (with_reducible refine hS.out.mono ?_); rintro e w3 ⟨rfl, HB3⟩)
  go_ret
  exact ⟨rfl, bel_trans hB02.out HB3⟩
end Go.Proofs.Ytdmogbkfmeihfaa
