/- Lists of frames that are read; lists of one's own whose bodies lie elsewhere. -/
import Derived.Test.YtilmmohkdgmhnaaFrameCb
namespace Go.Proofs.Ytilmmohkdgmhnaa
open Go.RowKit
set_option maxRecDepth 100000
set_option linter.unusedVariables false
def FrC (w : World) (vs : List Value) (fs : List (Int × List Int)) : Prop :=
  vs.length = fs.length * 2 ∧ ∀ i, i < fs.length → vs[i * 2]? = some (.int .i64 (fs.getD i (0, [])).1) ∧ ∃ u, vs[i * 2 + 1]? = some u ∧ Rd w u (fs.getD i (0, [])).2
theorem FrC.nil (w : World) : FrC w [] [] := ⟨rfl, fun i hi => absurd hi (by simp)⟩
theorem FrC.append {w : World} {vs us : List Value} {fs gs : List (Int × List Int)} (h : FrC w vs fs) (k : FrC w us gs) : FrC w (vs ++ us) (fs ++ gs) := by
  obtain ⟨h1, h2⟩ := h
  obtain ⟨k1, k2⟩ := k
  refine ⟨by rw [List.length_append, List.length_append]; omega, fun i hi => ?_⟩
  rw [List.length_append] at hi
  by_cases hlt : i < fs.length
  · obtain ⟨a, u, b, c⟩ := h2 i hlt
    rw [getD_left hlt, List.getElem?_append_left (by omega), List.getElem?_append_left (by omega)]
    exact ⟨a, u, b, c⟩
  · obtain ⟨a, u, b, c⟩ := k2 (i - fs.length) (by omega)
    have e2 : (fs ++ gs).getD i (0, []) = gs.getD (i - fs.length) (0, []) := by rw [List.getD_eq_getElem?_getD, List.getD_eq_getElem?_getD, List.getElem?_append_right (by omega)]
    rw [e2, List.getElem?_append_right (by omega), List.getElem?_append_right (by omega), show i * 2 - vs.length = (i - fs.length) * 2 by omega, show i * 2 + 1 - vs.length = (i - fs.length) * 2 + 1 by omega]
    exact ⟨a, u, b, c⟩
theorem FrC.one {w : World} {vs : List Value} {fs : List (Int × List Int)} (h : FrC w vs fs) : ∀ u ∈ vs, u.oneCell' = true := by
  intro u hu
  obtain ⟨j, hj, rfl⟩ := List.mem_iff_getElem.1 hu
  obtain ⟨h1, h2⟩ := h
  obtain ⟨a, x, b, c⟩ := h2 (j / 2) (by omega)
  by_cases hm : j % 2 = 0
  · rw [show j / 2 * 2 = j by omega, List.getElem?_eq_getElem hj] at a
    injection a with a
    rw [a]; rfl
  · rw [show j / 2 * 2 + 1 = j by omega, List.getElem?_eq_getElem hj] at b
    injection b with b
    obtain ⟨A, cp, hv, _⟩ := c.form
    rw [b, hv]; rfl
theorem FrC.mono {w w1 : World} {vs : List Value} {fs : List (Int × List Int)} (h : FrC w vs fs) (hb : Below w.heap.size w w1) : FrC w1 vs fs :=
  ⟨h.1, fun i hi => by obtain ⟨a, u, b, c⟩ := h.2 i hi; exact ⟨a, u, b, c.keep hb⟩⟩
def RdF (w W : World) (lv : Value) (fs : List (Int × List Int)) : Prop := ∃ vs, FrC w vs fs ∧ RdC 2 W lv fs.length vs
def FrI (w W : World) (base : Nat) (lv : Value) (fs : List (Int × List Int)) : Prop := ∃ vs, FrC w vs fs ∧ W.ownsRow base 28 2 lv fs.length vs
theorem FrI.rdf {w W : World} {base : Nat} {lv : Value} {fs : List (Int × List Int)} (h : FrI w W base lv fs) : RdF w W lv fs := by
  obtain ⟨vs, h1, h2⟩ := h
  exact ⟨vs, h1, RdC.own h2⟩
theorem FrI.nil (w W : World) (base : Nat) : FrI w W base (.slice none 0 0) [] := ⟨[], FrC.nil w, World.ownsRow_nil W base _ 2⟩
theorem FrI.keep {w W W1 : World} {base : Nat} {lv : Value} {fs : List (Int × List Int)} (h : FrI w W base lv fs) (hb : Below W.heap.size W W1) : FrI w W1 base lv fs := by
  obtain ⟨vs, h1, h2⟩ := h
  exact ⟨vs, h1, row_keep h2 hb⟩
theorem FrI.grown {w W W1 : World} {base b2 size n : Nat} {e : TypeId} {lv v : Value} {xs : List Value} {fs : List (Int × List Int)} (h : FrI w W base lv fs) (ho : W.ownsRow b2 e size v n xs) (hg : W.grownBy W1 v.ownBlock) (hne : 28 ≠ e) : FrI w W1 base lv fs := by
  obtain ⟨vs, h1, h2⟩ := h
  exact ⟨vs, h1, h2.kept hg (own_types h2 ho hne)⟩
theorem FrI.base {w W : World} {base base' : Nat} {lv : Value} {fs : List (Int × List Int)} (h : FrI w W base lv fs) (hb : base' ≤ base) : FrI w W base' lv fs := by
  obtain ⟨vs, h1, h2⟩ := h
  exact ⟨vs, h1, row_base h2 hb⟩
theorem RdF.keep {w W W1 : World} {lv : Value} {fs : List (Int × List Int)} (h : RdF w W lv fs) (hb : Below W.heap.size W W1) : RdF w W1 lv fs := by
  obtain ⟨vs, h1, h2⟩ := h
  exact ⟨vs, h1, h2.keep hb⟩
theorem RdF.mono {w w1 W : World} {lv : Value} {fs : List (Int × List Int)} (h : RdF w W lv fs) (hb : Below w.heap.size w w1) : RdF w1 W lv fs := by
  obtain ⟨vs, h1, h2⟩ := h
  exact ⟨vs, h1.mono hb, h2⟩
theorem FrL.rdf {W : World} {base : Nat} {lv : Value} {fs : List (Int × List Int)} (h : FrL W base 28 5 lv fs) : RdF W W lv fs := by
  obtain ⟨us, h1, h2, h3⟩ := h
  refine ⟨frCells fs us, ⟨frCells_length fs us h1, fun i hi => ?_⟩, RdC.own h2⟩
  obtain ⟨g1, g2⟩ := frCells_get fs us i h1 hi
  exact ⟨g1, _, g2, (h3 i hi).rd⟩
/-- a frame of a list, by its place -/
theorem RdF.at {w W : World} {lv : Value} {fs : List (Int × List Int)} (h : RdF w W lv fs) (i : Nat) (hi : i < fs.length) :
    ∃ bl off A c, (∀ W', Sem.run Try.prog (Instr.indexAt 52 lv (.int .i64 (i : Int))) W' = .ok (.pointer (some ⟨bl, off, none⟩)) W') ∧ W.cell? ⟨bl, off, none⟩ = some (.int .i64 (fs.getD i (0, [])).1) ∧ W.cell? ⟨bl, off + 1, none⟩ = some (.slice A (fs.getD i (0, [])).2.length c) ∧ Rd w (.slice A (fs.getD i (0, [])).2.length c) (fs.getD i (0, [])).2 := by
  obtain ⟨vs, ⟨h1, h2⟩, h3⟩ := h
  obtain ⟨bl, off, k1, k2⟩ := h3.at (P := Try.prog) Try.underlying52 infoFr .i64 i hi (by omega)
  obtain ⟨g1, u, g2, hu⟩ := h2 i hi
  obtain ⟨A, c, hv, _⟩ := hu.form
  have c0 := k2 0 (by omega)
  have c1 := k2 1 (by omega)
  rw [Nat.add_zero, Nat.add_zero, g1] at c0
  rw [g2, hv] at c1
  rw [hv] at hu
  exact ⟨bl, off, A, c, k1, c0, c1, hu⟩
theorem RdF.size {w W : World} {lv : Value} {fs : List (Int × List Int)} (h : RdF w W lv fs) : fs.length ≤ 9223372036854775807 := by
  obtain ⟨vs, _, h2⟩ := h
  obtain ⟨_, _, cap, _, k1, k2, _⟩ := h2
  unfold maxLen at k2
  omega
theorem RdF.len {w W : World} {lv : Value} {fs : List (Int × List Int)} (h : RdF w W lv fs) : ∀ W', Sem.run Try.prog (Builtin.len_ #[52] 3 #[lv]) W' = Result.ok (.int .i64 fs.length) W' := by
  obtain ⟨vs, _, h2⟩ := h
  exact h2.len (P := Try.prog) 52 28 3 Try.underlying52
theorem rdf_of {w : World} {v : Value} {x : List (Int × List Int × Unit)} (h : RSl 2 32 RFrame w [v] x) : RdF w w v (x.map fun a => (a.1, a.2.1)) := by
  obtain ⟨v', vs, hv, h1, _, h3⟩ := h
  injection hv with hv
  subst hv
  have hl : vs.length = x.length * 2 := h1.1
  refine ⟨vs, ⟨by rw [List.length_map]; exact hl, fun i hi => ?_⟩, by rw [List.length_map]; exact h1⟩
  rw [List.length_map] at hi
  obtain ⟨a, ha, hln, hr⟩ := h3 i hi
  have e1 : (x.map fun a => (a.1, a.2.1)).getD i (0, []) = (a.1, a.2.1) := by rw [List.getD_eq_getElem?_getD, List.getElem?_map, ha]; rfl
  rw [e1]
  obtain ⟨c, hc⟩ : ∃ c, (vs.drop (i * 2)).take 2 = c := ⟨_, rfl⟩
  rw [hc] at hr hln
  have g : ∀ j, j < 2 → vs[i * 2 + j]? = c[j]? := fun j hj => by rw [← hc, List.getElem?_take_of_lt hj, List.getElem?_drop]
  match c, hln, hr, g with
  | [c0, c1], _, hr, g =>
    obtain ⟨⟨r1, _⟩, ⟨u, r2, r3, _⟩, _⟩ := hr
    simp only [List.drop_zero, List.take_succ_cons, List.take_zero, List.drop_succ_cons, List.cons.injEq, and_true] at r1 r2
    refine ⟨?_, u, ?_, r3⟩
    · have := g 0 (by omega); rw [Nat.add_zero] at this; rw [this, r1]; rfl
    · rw [g 1 (by omega), r2]; rfl
section
variable {ops : Array Oper} {rest : List Oper} {o : Oper} {a : Act} {Q : Exit → Act → World → Prop}
/-- a list of frames behind another one -/
theorem app_fri {w0 w W : World} (base : Nat) (hgd : o.guard = none) (s x : Operand)
    (ho : o.op = .call { callee := .builtin .append, args := #[s, x], argTypes := #[52, 52] })
    (v y : Value) (fs gs : List (Int × List Int)) (hs : a.eval s = v) (hx : a.eval x = y)
    (HF : FrI w W base v fs) (HG : RdF w W y gs) (HB : Below base w0 W) (hbase : base ≤ W.heap.size) (hl : (fs.length + gs.length) * 32 ≤ 140737488355328)
    (h : ∀ v1 w1, FrI w w1 base v1 (fs ++ gs) → Below base w0 w1 → W.grownBy w1 v.ownBlock → (∀ b cur ty, W.heap[b]? = some (.cells cur ty (0, 0)) → 28 ≠ ty → some b ≠ v.ownBlock) → wpList Try.prog ops Q rest (a.put o.dst v1) w1) :
    wpList Try.prog ops Q (o :: rest) a W := by
  obtain ⟨us, h1, h2⟩ := HF
  obtain ⟨vs, g1, g2⟩ := HG
  refine app_rd base hgd s x 52 28 (.agg #[.int .i64 0, .slice none 0 0]) 2 32 ho Try.underlying52 infoFr rfl (by omega) v y fs.length gs.length us vs hs hx h2 g2 g1.one hbase (by omega) hl ?_
  intro v1 w1 k1 k2 k3
  refine h v1 w1 ⟨us ++ vs, h1.append g1, by rw [List.length_append]; exact k1⟩ (HB.grown k2 hbase fun k hk => (h2.lt k hk).1) k2 (fun b cur ty hb hn => kind_ne h2 hb hn)
end
set_option maxHeartbeats 2000000 in
theorem alike_rd (lv lu : Value) (fs : List (Int × List Int)) (w : World) (H1 : RdF w w lv fs) (H2 : RdF w w lu fs) :
    Calls Try.prog 41 #[lv, lu] w fun e w' => e = .returned (.bool true) ∧ Below w.heap.size w w' := by
  have hsz := H1.size
  have hlen1 := H1.len
  have hlen2 := H2.len
  go_enter Try.func41, Try.ntmps41
  go_wp2
  go_loopw [5] (fun vi wr => ∃ k : Nat, k ≤ fs.length ∧ vi = .int .i64 k ∧ Below w.heap.size w wr) (fun i _ => fs.length - (intOf i).toNat)
  case atStart => exact ⟨0, Nat.zero_le _, rfl, Below.refl _ _⟩
  case round =>
    obtain ⟨k, hk, rfl, HB⟩ := hrel
    by_cases hlt : k < fs.length
    · obtain ⟨bl1, o1, A1, c1, i1, p1, q1, r1⟩ := ((H1.keep HB).mono HB).at k hlt
      obtain ⟨bl2, o2, A2, c2, i2, p2, q2, r2⟩ := ((H2.keep HB).mono HB).at k hlt
      generalize fs.getD k (0, []) = f at *
      have hlI : (k : Int) < (fs.length : Int) := by omega
      go_upto_region 4 with fail
      go_region_with (go_at_call 35; with_reducible refine (is_true _ _ _ _ _ _ _ _ _ (r1.keep (Below.refl _ _).drew) (r2.keep (Below.refl _ _).drew)).mono ?_; rintro e w1 ⟨rfl, HB1⟩)
      all_goals go_wp2
      all_goals go_roundw
      case rel => exact ⟨k + 1, by omega, by go_num, bel_trans HB (bel_trans (Below.refl _ _).drew HB1)⟩
      case measure => (simp [intOf]; try omega)
      case rel => exact ⟨k + 1, by omega, by go_num, bel_trans HB (bel_trans (Below.refl _ _).drew HB1)⟩
      case measure => (simp [intOf]; try omega)
    · obtain rfl : k = fs.length := by omega
      go_wp2
      go_ret
      exact ⟨rfl, HB⟩
end Go.Proofs.Ytilmmohkdgmhnaa
