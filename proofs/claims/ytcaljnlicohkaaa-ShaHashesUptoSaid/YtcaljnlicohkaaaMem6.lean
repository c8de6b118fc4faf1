/- append and make as steps of a statement that draws its order: over any program. -/
import Derived.Test.YtcaljnlicohkaaaMem5
import Derived.Deep.RegionLaw
import Derived.Deep.DeepAppendWide
namespace Go.Proofs.Ytcaljnlicohkaaa
open Go.RowKit
section
variable {P : Program} {ops : Array Oper} {o : Oper} {a : Act} {K : Act → World → Prop} {Q : Exit → Act → World → Prop} {E : Prop}
theorem step_app_bytes {w0 W : World} (base : Nat) (hgd : o.guard = none) (s x : Operand) (t e : TypeId)
    (ho : o.op = .call { callee := .builtin .append, args := #[s, x], argTypes := #[t, t] })
    (ht : P.underlying t = some (.slice e)) (hinfo : (P.info? e).map (fun i => (i.zero, i.size, i.bytes)) = some (some (.int .u8 0), 1, 1))
    (v y : Value) (xs ys : List Int) (hs : a.eval s = v) (hx : a.eval x = y)
    (HO : Own W base e v xs) (HR : Rd W y ys) (HB : Below base w0 W) (hbase : base ≤ W.heap.size) (hl : xs.length + ys.length ≤ 140737488355328)
    (h : ∀ v1 w1, Own w1 base e v1 (xs ++ ys) → Below base w0 w1 → W.grownBy w1 v.ownBlock → (v1.ownBlock = v.ownBlock ∨ v1.ownBlock = some W.heap.size) → K (a.put o.dst v1) w1) :
    if Region.wanted o (yielded ops a.tmps) = true then Oper.wp P o a W K Q else E := by
  have hw : Region.wanted o (yielded ops a.tmps) = true := by simp [Region.wanted, hgd]
  rw [if_pos hw]
  obtain ⟨v1, w1, hr, h2, h3, h5⟩ := run_app (P := P) base t o.type e (.int .u8 0) 1 1 ht hinfo rfl (by omega) HO.2 HR.2 (nums8_one ys) hbase (by omega) (by omega)
  unfold Oper.wp execOp
  simp only [ho, resolve, invoke, builtin, Sem.run_bind, Sem.run_pure, Result.andThen_ok, List.map_toArray, List.map_cons, List.map_nil, hs, hx, hr]
  refine h v1 w1 ⟨bytes_append HO.1 HR.1, ?_⟩ (below_grown HB HO.2 h3 hbase) h3 h5
  rw [List.length_append, nums8_append]
  exact h2
end
section
variable {P : Program} {ops : Array Oper} {rest : List Oper} {o : Oper} {a : Act} {Q : Exit → Act → World → Prop}
/-- a whole variable of several cells is read -/
theorem load_box {W : World} (hgd : o.guard = none) (ty : TypeId) (x : Operand) (ho : o.op = .load ty x) (g : Nat) (t : TypeId) (cs : Array Value) (d : TypeDesc)
    (hx : a.eval x = .pointer (some ⟨g, 0, none⟩)) (hb : Box W g t cs) (hu : P.underlying ty = some d) (hd : (match d with | .struct _ | .array _ _ => true | _ => false) = true) (hi : (P.info? ty).map (·.size) = some cs.size)
    (h : wpList P ops Q rest (a.put o.dst (.agg cs)) W) : wpList P ops Q (o :: rest) a W :=
  wpList_plain hgd fun K hK => wp_load_row ty x ho g hx t cs (0, 0) d hb hu hd hi (hK _ _ h)
end
section
variable {P : Program} {ops : Array Oper} {rest : List Oper} {o : Oper} {a : Act} {Q : Exit → Act → World → Prop}
/-- append of what is read onto a row of one's own, up to four fifths of the address space -/
theorem app_wide {w0 W : World} (base : Nat) (hgd : o.guard = none) (s x : Operand) (t e : TypeId)
    (ho : o.op = .call { callee := .builtin .append, args := #[s, x], argTypes := #[t, t] })
    (ht : P.underlying t = some (.slice e)) (hinfo : (P.info? e).map (fun i => (i.zero, i.size, i.bytes)) = some (some (.int .u8 0), 1, 1))
    (v y : Value) (xs ys : List Int) (hs : a.eval s = v) (hx : a.eval x = y)
    (HO : Own W base e v xs) (HR : Rd W y ys) (HB : Below base w0 W) (hbase : base ≤ W.heap.size) (hl : xs.length + ys.length ≤ 220000000000000)
    (h : ∀ v1 w1, Own w1 base e v1 (xs ++ ys) → Below base w0 w1 → W.grownBy w1 v.ownBlock → wpList P ops Q rest (a.put o.dst v1) w1) :
    wpList P ops Q (o :: rest) a W := by
  obtain ⟨i0, hi, hz0, hz1, hz2⟩ := info_parts hinfo
  have hy := HR.1
  obtain ⟨hlen, A, cap, rfl, hc1, hc2, hc3, hc4⟩ := HR.2
  cases A with
  | none =>
    have hcap := hc3 rfl
    subst hcap
    obtain rfl : ys = [] := List.eq_nil_of_length_eq_zero (by omega)
    refine wpList_plain hgd fun K hK => ?_
    unfold Oper.wp execOp
    simp only [ho, resolve, invoke, builtin, Sem.run_bind, Sem.run_pure, Result.andThen_ok, List.map_toArray, List.map_cons, List.map_nil, hs, hx, List.length_nil, run_append_owned_none (P := P) W base t o.type e i0 1 ht hi v xs.length (nums8 xs) HO.2]
    exact hK _ _ (h v W (by rw [List.append_nil]; exact HO) HB (World.grownBy.refl W _))
  | some ad =>
    have hcells : ∀ j u, (nums8 ys)[j]? = some u → W.cell? (ad.add j) = some u := by
      intro j u hu
      have hj := (List.getElem?_eq_some_iff.1 hu).1
      obtain ⟨b, off, ha, hc⟩ := hc4 j hj
      injection ha with ha
      subst ha
      rw [Addr.add_lit, hc, hu]
    obtain ⟨v1, w1, hr, h2, h3, _⟩ := run_append_own_wide (P := P) W base t o.type e i0 (.int .u8 0) 1 1 ht hi hz0 hz1 hz2 rfl (by omega) v xs.length (nums8 xs) HO.2 ad ys.length cap (nums8 ys) hlen hcells (nums8_one ys) (by simp only [maxLen]; omega) (by omega) hbase
    refine wpList_plain hgd fun K hK => ?_
    unfold Oper.wp execOp
    simp only [ho, resolve, invoke, builtin, Sem.run_bind, Sem.run_pure, Result.andThen_ok, List.map_toArray, List.map_cons, List.map_nil, hs, hx, hr]
    refine hK _ _ (h v1 w1 ⟨bytes_append HO.1 hy, ?_⟩ (below_grown HB HO.2 h3 hbase) h3)
    rw [List.length_append, nums8_append]
    exact h2
end
theorem Rd.sl_hk {P : Program} {t e : TypeId} (ht : P.underlying t = some (.slice e)) (hinfo : (P.info? e).map (fun i => (i.zero, i.size, i.bytes)) = some (some (.int .u8 0), 1, 1)) {w : World} {v : Value} {xs : List Int} (h : Rd w v xs) (ki : IntKind) (k : Nat) (hkn : k ≤ xs.length) :
    ∃ u, (∀ W, (Instr.slice t v none (some (.int ki k)) none).run P W = .ok u W) ∧ Rd w u (xs.take k) := by
  obtain ⟨A, cap, rfl, h1, h2, h3, h4⟩ := h.form
  have hel : P.elem t = e := by simp [Program.elem, ht]
  have hc := h.cut 0 k cap (Nat.zero_le _) hkn (by omega) (Nat.le_refl _)
  rw [List.drop_zero] at hc
  refine ⟨sliced A 0 k cap 1, fun W => ?_, hc⟩
  rw [run_slice_h (P := P) W t A xs.length cap (by rw [hel]; exact ht) ki k (by omega) (by omega), hel, run_size hinfo]
  simp
section
variable {P : Program} {ops : Array Oper} {rest : List Oper} {o : Oper} {a : Act} {Q : Exit → Act → World → Prop}
/-- the same, behind a guard that lets it -/
theorem load_boxg {W : World} (hw : Region.wanted o (yielded ops a.tmps) = true) (ty : TypeId) (x : Operand) (ho : o.op = .load ty x) (g : Nat) (t : TypeId) (cs : Array Value) (d : TypeDesc)
    (hx : a.eval x = .pointer (some ⟨g, 0, none⟩)) (hb : Box W g t cs) (hu : P.underlying ty = some d) (hd : (match d with | .struct _ | .array _ _ => true | _ => false) = true) (hi : (P.info? ty).map (·.size) = some cs.size)
    (h : wpList P ops Q rest (a.put o.dst (.agg cs)) W) : wpList P ops Q (o :: rest) a W :=
  wpList_step fun K hK => by
    rw [if_pos hw]
    exact wp_load_row ty x ho g hx t cs (0, 0) d hb hu hd hi (hK _ _ h)
end
end Go.Proofs.Ytcaljnlicohkaaa
