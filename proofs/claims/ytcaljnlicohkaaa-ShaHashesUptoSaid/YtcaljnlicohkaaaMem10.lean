/- A variable of several cells, inside a longer row: over any program. -/
import Derived.Test.YtcaljnlicohkaaaMem9
namespace Go.Proofs.Ytcaljnlicohkaaa
open Go.RowKit
section
variable {P : Program}
theorem run_load_at {W : World} (ty : TypeId) (b off : Nat) (cs : Array Value) (d : TypeDesc) (hc : ∀ j, j < cs.size → W.cell? ⟨b, off + j, none⟩ = cs[j]?)
    (hu : P.underlying ty = some d) (hd : (match d with | .struct _ | .array _ _ => true | _ => false) = true) (hi : (P.info? ty).map (·.size) = some cs.size) :
    (loadVar ty ⟨b, off, none⟩).run P W = .ok (.agg cs) W := by
  have hl : (loadCells ⟨b, off, none⟩ cs.toList.length).run P W = .ok cs.toList.toArray W :=
    run_loadCells_list (P := P) W ⟨b, off, none⟩ cs.toList (fun j v hv => by
      have hj : j < cs.size := by have := (List.getElem?_eq_some_iff.1 hv).1; rwa [Array.length_toList] at this
      rw [Addr.add_lit, hc j hj, ← Array.getElem?_toList]
      exact hv)
  cases hq : P.info? ty with
  | none => simp [hq] at hi
  | some i =>
    have hs : i.size = cs.size := by simpa [hq] using hi
    have hagg : (isAgg ty).run P W = .ok true W := by
      unfold isAgg
      rw [Sem.run_bind, run_underlying hu W]
      cases d <;> simp_all
    simp only [Array.length_toList, Array.toArray_toList] at hl
    simp [loadVar, Sem.run_bind, hagg, sizeOf, typeInfo, hq, hs, hl]
variable {ops : Array Oper} {rest : List Oper} {o : Oper} {a : Act} {Q : Exit → Act → World → Prop}
theorem load_at {W : World} (hgd : o.guard = none) (ty : TypeId) (x : Operand) (ho : o.op = .load ty x) (b off : Nat) (cs : Array Value) (d : TypeDesc)
    (hx : a.eval x = .pointer (some ⟨b, off, none⟩)) (hc : ∀ j, j < cs.size → W.cell? ⟨b, off + j, none⟩ = cs[j]?) (hu : P.underlying ty = some d) (hd : (match d with | .struct _ | .array _ _ => true | _ => false) = true) (hi : (P.info? ty).map (·.size) = some cs.size)
    (h : wpList P ops Q rest (a.put o.dst (.agg cs)) W) : wpList P ops Q (o :: rest) a W :=
  wpList_plain hgd fun K hK => by
    unfold Oper.wp execOp
    simp only [ho, hx, Instr.loadAt, Instr.sureAddr, Sem.run_bind, Sem.run_pure, Result.andThen_ok, run_load_at ty b off cs d hc hu hd hi]
    exact hK _ _ h
end
theorem Box.part {W : World} {g : Nat} {t : TypeId} {cs ds : Array Value} (h : Box W g t cs) (off : Nat) (hs : ∀ j, j < ds.size → cs[off + j]? = ds[j]?) : ∀ j, j < ds.size → W.cell? ⟨g, off + j, none⟩ = ds[j]? := fun j hj => by
  rw [cell_of_row W g (off + j) cs t _ h]
  exact hs j hj
/-- an element of what is read, whole -/
theorem RdC.whole {P : Program} {t e : TypeId} (ht : P.underlying t = some (.slice e)) {z : Value} {s b : Nat} (hinfo : (P.info? e).map (fun i => (i.zero, i.size, i.bytes)) = some (some z, s, b)) {w : World} {v : Value} {n : Nat} {vs : List Value} (h : RdC s w v n vs) (k : IntKind) (j : Nat) (hj : j < n) (hs : 0 < s)
    (cs : Array Value) (hcs : (vs.drop (j * s)).take s = cs.toList) (hsz : cs.size = s) :
    ∃ bl off, (∀ W, (Instr.indexAt t v (.int k (j : Int))).run P W = .ok (.pointer (some ⟨bl, off, none⟩)) W) ∧ ∀ i, i < cs.size → w.cell? ⟨bl, off + i, none⟩ = cs[i]? := by
  obtain ⟨bl, off, h1, h2⟩ := h.at ht hinfo k j hj hs
  refine ⟨bl, off, h1, fun i hi => ?_⟩
  rw [h2 i (by omega), ← Array.getElem?_toList, ← hcs, List.getElem?_take_of_lt (by omega), List.getElem?_drop]
theorem cells_keep {w w1 : World} {b off : Nat} {cs : Array Value} (h : ∀ j, j < cs.size → w.cell? ⟨b, off + j, none⟩ = cs[j]?) (hb : Below w.heap.size w w1) : ∀ j, j < cs.size → w1.cell? ⟨b, off + j, none⟩ = cs[j]? := fun j hj => by
  have := h j hj
  rw [Array.getElem?_eq_getElem hj] at this ⊢
  exact cell_keep hb this
end Go.Proofs.Ytcaljnlicohkaaa
