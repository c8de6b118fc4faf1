/- Lists of structs, joined. Over any program. -/
import Derived.Test.YtcaljnlicohkaaaMem7
namespace Go.Proofs.Ytcaljnlicohkaaa
open Go.RowKit
theorem row_base {W : World} {base base' : Nat} {e : TypeId} {size n : Nat} {v : Value} {xs : List Value} (h : W.ownsRow base e size v n xs) (hb : base' ≤ base) : W.ownsRow base' e size v n xs := by
  refine ⟨h.1, ?_⟩
  rcases h.2 with h1 | ⟨g, cap, cur, h1, h2, h3⟩
  · exact .inl h1
  · exact .inr ⟨g, cap, cur, h1, Nat.le_trans hb h2, h3⟩
theorem FrL.base {W : World} {base base' : Nat} {eF e8 : TypeId} {lv : Value} {fs : List (Int × List Int)} (h : FrL W base eF e8 lv fs) (hb : base' ≤ base) : FrL W base' eF e8 lv fs := by
  obtain ⟨us, h1, h2, h3⟩ := h
  refine ⟨us, h1, row_base h2 hb, fun i hi => ?_⟩
  have := h3 i hi
  exact ⟨this.1, row_base this.2 hb⟩
theorem RdB.base {W : World} {base base' : Nat} {ty : TypeId} {v : Value} {l : List Int} (h : RdB W base ty v l) (hb : base' ≤ base) : RdB W base' ty v l := by
  obtain ⟨h1, A, n, c, hv, h2⟩ := h
  exact ⟨h1, A, n, c, hv, fun a ha => ⟨Nat.le_trans hb (h2 a ha).1, (h2 a ha).2⟩⟩
/-- old rows and all that lies in them are kept while a row grows that is none of theirs -/
theorem FrL.kept {w w1 : World} {base g : Nat} {eF e8 : TypeId} {lv : Value} {fs : List (Int × List Int)} (h : FrL w base eF e8 lv fs) (hg : w.grownBy w1 (some g)) (hlt : g < base) : FrL w1 base eF e8 lv fs := by
  obtain ⟨us, h1, h2, h3⟩ := h
  have hn : ∀ {e : TypeId} {size n : Nat} {v : Value} {xs : List Value}, w.ownsRow base e size v n xs → v.ownBlock = none ∨ v.ownBlock ≠ some g := by
    intro e size n v xs ho
    refine .inr fun he => ?_
    have := (ho.lt g he).1
    omega
  exact ⟨us, h1, h2.kept hg (hn h2), fun i hi => (h3 i hi).kept hg (hn (h3 i hi).2)⟩
theorem frCells_append2 : ∀ (fs gs : List (Int × List Int)) (us vs : List Value), us.length = fs.length → frCells (fs ++ gs) (us ++ vs) = frCells fs us ++ frCells gs vs
  | [], _, [], _, _ => rfl
  | x :: fs, gs, y :: us, vs, h => by
    simp only [List.cons_append, frCells]
    rw [frCells_append2 fs gs us vs (by simpa using h)]
  | [], _, _ :: _, _, h => by simp at h
  | _ :: _, _, [], _, h => by simp at h
theorem frCells_one {W : World} {base : Nat} {e8 : TypeId} : ∀ (fs : List (Int × List Int)) (us : List Value), us.length = fs.length → (∀ i, i < fs.length → Own W base e8 (us.getD i undef) (fs.getD i (0, [])).2) → ∀ u ∈ frCells fs us, u.oneCell' = true
  | [], [], _, _ => fun u hu => absurd hu (by simp [frCells])
  | x :: fs, y :: us, h, hO => fun u hu => by
    simp only [frCells, List.mem_cons] at hu
    rcases hu with rfl | rfl | hu
    · rfl
    · have := hO 0 (by simp)
      obtain ⟨A, c, hv, _⟩ := this.rd.form
      simp only [List.getD_cons_zero] at hv
      rw [hv]
      rfl
    · exact frCells_one fs us (by simpa using h) (fun i hi => by simpa using hO (i + 1) (by simpa using hi)) u hu
  | [], _ :: _, h, _ => by simp at h
  | _ :: _, [], h, _ => by simp at h
section
variable {P : Program} {ops : Array Oper} {rest : List Oper} {o : Oper} {a : Act} {Q : Exit → Act → World → Prop}
/-- a list of such structs behind another one -/
theorem app_frames {w0 W : World} (base : Nat) (hgd : o.guard = none) (s x : Operand) (t e e8 : TypeId) (z : Value)
    (ho : o.op = .call { callee := .builtin .append, args := #[s, x], argTypes := #[t, t] })
    (ht : P.underlying t = some (.slice e)) (hinfo : (P.info? e).map (fun i => (i.zero, i.size, i.bytes)) = some (some z, 2, 32)) (hzs : z.cells.size = 2) (hne : e ≠ e8)
    (v y : Value) (fs gs : List (Int × List Int)) (hs : a.eval s = v) (hx : a.eval x = y)
    (HF : FrL W base e e8 v fs) (HG : FrL W base e e8 y gs) (HB : Below base w0 W) (hbase : base ≤ W.heap.size) (hl : (fs.length + gs.length) * 32 ≤ 140737488355328)
    (h : ∀ v1 w1, FrL w1 base e e8 v1 (fs ++ gs) → Below base w0 w1 → W.grownBy w1 v.ownBlock → (∀ b cur ty, W.heap[b]? = some (.cells cur ty (0, 0)) → e ≠ ty → some b ≠ v.ownBlock) → wpList P ops Q rest (a.put o.dst v1) w1) :
    wpList P ops Q (o :: rest) a W := by
  obtain ⟨us, h1, h2, h3⟩ := HF
  obtain ⟨vs, g1, g2, g3⟩ := HG
  refine app_rd base hgd s x t e z 2 32 ho ht hinfo hzs (by omega) v y fs.length gs.length (frCells fs us) (frCells gs vs) hs hx h2 (RdC.own g2) (frCells_one gs vs g1 g3) hbase (by omega) hl ?_
  intro v1 w1 k1 k2 k3
  have hnb : ∀ {v' : Value} {xs : List Int}, Own W base e8 v' xs → Own w1 base e8 v' xs := fun ho => ho.kept k2 (own_types ho.2 h2 (fun e => hne e.symm))
  refine h v1 w1 ⟨us ++ vs, by simp [h1, g1], ?_, fun i hi => ?_⟩ (HB.grown k2 hbase fun k hk => (h2.lt k hk).1) k2 (fun b cur ty hb hn => kind_ne h2 hb hn)
  · rw [frCells_append2 fs gs us vs h1, List.length_append]
    exact k1
  · rw [List.length_append] at hi
    by_cases hlt : i < fs.length
    · rw [getD_left (by omega), getD_left hlt]
      exact hnb (h3 i hlt)
    · have e1 : (us ++ vs).getD i undef = vs.getD (i - fs.length) undef := by
        rw [List.getD_eq_getElem?_getD, List.getD_eq_getElem?_getD, List.getElem?_append_right (by omega), h1]
      have e2 : (fs ++ gs).getD i (0, []) = gs.getD (i - fs.length) (0, []) := by
        rw [List.getD_eq_getElem?_getD, List.getD_eq_getElem?_getD, List.getElem?_append_right (by omega)]
      rw [e1, e2]
      exact hnb (g3 _ (by omega))
end
end Go.Proofs.Ytcaljnlicohkaaa
