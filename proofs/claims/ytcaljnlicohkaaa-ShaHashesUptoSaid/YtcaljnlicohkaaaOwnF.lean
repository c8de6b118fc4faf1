/- Rows of bytes of one's own, wherever they come from (a text made into bytes, a list written out): over any program. -/
import Derived.Test.YtcaljnlicohkaaaMem11
import Derived.ArgAppend
import Derived.Deep.Upon
namespace Go.Proofs.Ytcaljnlicohkaaa
open Go.RowKit
def OwnF (W : World) (base : Nat) (v : Value) (xs : List Int) : Prop :=
  IsBytes xs ∧ ∃ g cap, v = .slice (some ⟨g, 0, none⟩) xs.length cap ∧ base ≤ g ∧ g < W.heap.size ∧ xs.length ≤ cap ∧ cap ≤ maxLen ∧
    (∀ j, j < xs.length → W.cell? ⟨g, j, none⟩ = some (.int .u8 (xs.getD j 0))) ∧ (∀ j, j < cap → (W.cell? ⟨g, j, none⟩).isSome = true) ∧ (∀ j, j < cap → W.frozen? ⟨g, j, none⟩ = false)
theorem OwnF.rd {W : World} {base : Nat} {v : Value} {xs : List Int} (h : OwnF W base v xs) : Rd W v xs := by
  obtain ⟨hb, g, cap, rfl, h1, h2, h3, h4, h5, h6, h7⟩ := h
  refine ⟨hb, by rw [nums8_length, Nat.mul_one], _, _, rfl, h3, h4, (fun h => by cases h), fun j hj => ⟨g, 0, rfl, ?_⟩⟩
  rw [nums8_length] at hj
  rw [Nat.zero_add, h5 j hj, nums8_get xs j hj]
theorem OwnF.chg {S : Nat → Prop} {w w1 : World} {base : Nat} {v : Value} {xs : List Int} (h : OwnF w base v xs) (hc : Chg S w w1) (hn : ∀ k, v.ownBlock = some k → ¬ S k) : OwnF w1 base v xs := by
  obtain ⟨hb, g, cap, rfl, h1, h2, h3, h4, h5, h6, h7⟩ := h
  have hg := hc.block g h2 (hn g rfl)
  refine ⟨hb, g, cap, rfl, h1, Nat.lt_of_lt_of_le h2 hc.size, h3, h4, fun j hj => ?_, fun j hj => ?_, fun j hj => ?_⟩
  · rw [World.cell?_of_block (w := w) (a := ⟨g, j, none⟩) hg]; exact h5 j hj
  · rw [World.cell?_of_block (w := w) (a := ⟨g, j, none⟩) hg]; exact h6 j hj
  · rw [World.frozen?_of_block (w := w) (a := ⟨g, j, none⟩) hg]; exact h7 j hj
theorem OwnF.keep {w w1 : World} {base : Nat} {v : Value} {xs : List Int} (h : OwnF w base v xs) (hb : Below w.heap.size w w1) : OwnF w1 base v xs :=
  h.chg (Chg.below (S := fun _ => False) hb) (fun _ _ h => h)
theorem OwnF.low {w : World} {base b2 : Nat} {v : Value} {xs : List Int} (h : OwnF w base v xs) (hb : b2 ≤ base) : OwnF w b2 v xs := by
  obtain ⟨hb', g, cap, rfl, h1, h2⟩ := h
  exact ⟨hb', g, cap, rfl, Nat.le_trans hb h1, h2⟩
theorem OwnF.lt {W : World} {base : Nat} {v : Value} {xs : List Int} (h : OwnF W base v xs) (k : Nat) (hk : v.ownBlock = some k) : base ≤ k ∧ k < W.heap.size := by
  obtain ⟨hb', g, cap, rfl, h1, h2, _⟩ := h
  have : some g = some k := hk
  injection this with this
  subst this
  exact ⟨h1, h2⟩
theorem Own.toF {W : World} {base : Nat} {e : TypeId} {v : Value} {xs : List Int} (h : Own W base e v xs) (hv : v ≠ .slice none 0 0) : OwnF W base v xs := by
  obtain ⟨hb, hl, h2⟩ := h
  rcases h2 with ⟨h2, _⟩ | ⟨g, cap, cur, rfl, h1, hg, h3, h4, h5, h6⟩
  · exact absurd h2 hv
  · have hlt := (Array.getElem?_eq_some_iff.1 hg).1
    refine ⟨hb, g, cap, rfl, h1, hlt, h3, h4, fun j hj => ?_, fun j hj => ?_, fun j hj => frozen_of_row W g j cur e hg⟩
    · rw [cell_of_row W g j cur e _ hg, ← Array.getElem?_toList]
      have hj' : j < (nums8 xs).length := by rw [nums8_length]; exact hj
      have h7 : (nums8 xs)[j]? = cur.toList[j]? := by rw [← h6, List.getElem?_take, if_pos (by omega)]
      rw [← h7, nums8_get xs j hj]
    · rw [cell_of_row W g j cur e _ hg]
      have : j < cur.size := by omega
      rw [Array.getElem?_eq_getElem this]
      rfl
theorem chg_setCells (g : Nat) : ∀ (vs : List Value) (o : Nat) (W : World), Chg (fun k => k = g) W (W.setCells g o vs)
  | [], _, W => Chg.refl _ _
  | v :: vs, o, W => by
    have h1 : Chg (fun k => k = g) W (W.setCell ⟨g, o, none⟩ v) := ⟨rfl, rfl, rfl, by simp, fun k _ hk => heap_setCell_other W ⟨g, o, none⟩ k v (fun e => hk e)⟩
    exact h1.trans (chg_setCells g vs (o + 1) _) (fun b _ h => h)
section
variable {P : Program} {ops : Array Oper} {rest : List Oper} {o : Oper} {a : Act} {Q : Exit → Act → World → Prop}
theorem run_appF {W : World} (base : Nat) (t ty e : TypeId) (ht : P.underlying t = some (.slice e)) (hinfo : (P.info? e).map (fun i => (i.zero, i.size, i.bytes)) = some (some (.int .u8 0), 1, 1))
    {v y : Value} {xs ys : List Int} (HO : OwnF W base v xs) (HR : Rd W y ys) (hbase : base ≤ W.heap.size) (hl : xs.length + ys.length ≤ 140737488355328) :
    ∃ v1 w1, (Builtin.append_ #[t, t] ty #[v, y]).run P W = .ok v1 w1 ∧ OwnF w1 base v1 (xs ++ ys) ∧ Chg (fun k => v.ownBlock = some k) W w1 ∧ (v1.ownBlock = v.ownBlock ∨ ∀ k, v1.ownBlock = some k → W.heap.size ≤ k) := by
  obtain ⟨i0, hi, hz0, hz1, hz2⟩ := info_parts hinfo
  have HO' := HO
  obtain ⟨hb, g, cap, rfl, h1, h2, h3, h4, h5, h6, h7⟩ := HO
  obtain ⟨hby, hlen, A, capy, rfl, hc1, hc2, hc3, hc4⟩ := HR
  rw [nums8_length, Nat.mul_one] at hlen
  cases A with
  | none =>
    have hcap := hc3 rfl
    subst hcap
    obtain rfl : ys = [] := List.eq_nil_of_length_eq_zero (by omega)
    rw [List.append_nil]
    refine ⟨_, W, ?_, HO', Chg.refl _ _, .inl rfl⟩
    simp [Builtin.append_, run_underlying ht, sizeOf, typeInfo, hi, Builtin.lenOf, Builtin.firstCells, h3, storeCells]
  | some ad =>
    have hcells : ∀ j u, (nums8 ys)[j]? = some u → W.cell? (ad.add j) = some u := by
      intro j u hu
      have hj := (List.getElem?_eq_some_iff.1 hu).1
      obtain ⟨b, off, ha, hc⟩ := hc4 j hj
      injection ha with ha
      subst ha
      rw [Addr.add_lit, hc, hu]
    by_cases hroom : xs.length + ys.length ≤ cap
    · have hr := run_append_room_cells (P := P) W t ty e i0 ht hi g 0 xs.length cap ad ys.length capy (nums8 ys) (by rw [nums8_length, hz1, Nat.mul_one]) hcells (nums8_one ys) hroom
        (fun j hj => by rw [nums8_length] at hj; rw [hz1]; exact h6 _ (by omega)) (fun j hj => by rw [nums8_length] at hj; rw [hz1]; exact h7 _ (by omega))
      rw [hz1, Nat.zero_add, Nat.mul_one] at hr
      have hcg := chg_setCells g (nums8 ys) xs.length W
      refine ⟨_, _, hr, ⟨bytes_append hb hby, g, cap, by rw [List.length_append], h1, Nat.lt_of_lt_of_le h2 hcg.size, by rw [List.length_append]; exact hroom, h4, fun j hj => ?_, fun j hj => World.isSome_setCells g _ _ _ _ (h6 j hj), fun j hj => by rw [World.frozen?_setCells]; exact h7 j hj⟩, hcg.mono (fun b _ e => by subst e; rfl), .inl rfl⟩
      rw [List.length_append] at hj
      by_cases hjx : j < xs.length
      · rw [World.cell?_setCells_out g _ _ _ _ (fun _ _ => .inl hjx), h5 j hjx]
        rw [List.getD_eq_getElem?_getD, List.getD_eq_getElem?_getD, List.getElem?_append_left hjx]
      · obtain ⟨d, rfl⟩ : ∃ d, j = xs.length + d := ⟨j - xs.length, by omega⟩
        have hd : d < (nums8 ys).length := by rw [nums8_length]; omega
        rw [World.cell?_setCells_in g (nums8 ys) xs.length W (fun i hi => h6 _ (by rw [nums8_length] at hi; omega)) d hd]
        rw [List.getD_eq_getElem?_getD, List.getElem?_append_right (by omega), Nat.add_sub_cancel_left, ← List.getD_eq_getElem?_getD]
        have := nums8_get ys d (by rw [nums8_length] at hd; exact hd)
        rw [List.getElem?_eq_getElem hd] at this
        exact this
    · obtain ⟨v', w', hr, ho, hg⟩ := run_append_arg_grows (P := P) W t ty e i0 (.int .u8 0) 1 1 ht hi hz0 hz1 hz2 rfl (by omega) ⟨g, 0, none⟩ xs.length cap (nums8 xs) (by rw [nums8_length, Nat.mul_one])
        (fun j u hu => by
          have hj := (List.getElem?_eq_some_iff.1 hu).1
          rw [nums8_length] at hj
          rw [Addr.add_lit, Nat.zero_add, h5 j hj, ← hu, nums8_get xs j hj])
        ad ys.length capy (nums8 ys) (by rw [nums8_length, Nat.mul_one]) hcells (by omega) (by simp only [maxLen]; omega) (by omega)
      have hO : Own w' W.heap.size e v' (xs ++ ys) := ⟨bytes_append hb hby, by rw [nums8_append, List.length_append]; exact ho⟩
      have hv : v' ≠ .slice none 0 0 := fun e => by
        obtain ⟨A, c, hv, h8, _⟩ := hO.rd.form
        rw [e] at hv
        injection hv with _ e2 _
        rw [List.length_append] at e2
        omega
      have hF := (hO.toF hv)
      exact ⟨v', w', hr, hF.low hbase, (Chg.of hg).mono (fun b _ e => by cases e), .inr (fun k hk => (hF.lt k hk).1)⟩
/-- append onto such a row -/
theorem app_bytesF {w0 W : World} (base : Nat) (hgd : o.guard = none) (s x : Operand) (t e : TypeId)
    (ho : o.op = .call { callee := .builtin .append, args := #[s, x], argTypes := #[t, t] })
    (ht : P.underlying t = some (.slice e)) (hinfo : (P.info? e).map (fun i => (i.zero, i.size, i.bytes)) = some (some (.int .u8 0), 1, 1))
    (v y : Value) (xs ys : List Int) (hs : a.eval s = v) (hx : a.eval x = y)
    (HO : OwnF W base v xs) (HR : Rd W y ys) (HB : Below base w0 W) (hbase : base ≤ W.heap.size) (hl : xs.length + ys.length ≤ 140737488355328)
    (h : ∀ v1 w1, OwnF w1 base v1 (xs ++ ys) → Below base w0 w1 → Chg (fun k => v.ownBlock = some k) W w1 → wpList P ops Q rest (a.put o.dst v1) w1) :
    wpList P ops Q (o :: rest) a W := by
  obtain ⟨v1, w1, hr, h2, h3, h5⟩ := run_appF (P := P) base t o.type e ht hinfo HO HR hbase hl
  refine wpList_plain hgd fun K hK => ?_
  unfold Oper.wp execOp
  simp only [ho, resolve, invoke, builtin, Sem.run_bind, Sem.run_pure, Result.andThen_ok, List.map_toArray, List.map_cons, List.map_nil, hs, hx, hr]
  exact hK _ _ (h v1 w1 h2 (h3.then HB (fun b e => (HO.lt b e).1) hbase) h3)
end
end Go.Proofs.Ytcaljnlicohkaaa
