/- A statement that draws its order, with guarded operations, walked by hand: over any program. -/
import Derived.RegionCalls
import Derived.Deep.RegionWith
namespace Go.Proofs.Ytcaljnlicohkaaa
open Go
section
variable {P : Program} {l : List Oper} {md : Region.Mode} {Q : Exit → Act → World → Prop} {fuel : Nat} {listed : Array Bool} {a : Act} {w : World}
theorem drop_at {l : List Oper} {i : Nat} {o : Oper} {tl : List Oper} (ho : l.drop i = o :: tl) : l.toArray[i]? = some o := by
  have := congrArg (·[0]?) ho
  simpa [List.getElem?_drop] using this
theorem take_W (i : Nat) (o : Oper) (tl : List Oper) {v : Value} (ho : l.drop i = o :: tl) (hs : Region.noSelect l.toArray = true) (hf : Region.free md l.toArray listed i = true) (hr : (Region.ready md l.toArray listed).contains i = true)
    (hQ : ∀ c a w, Q (.panic c) (a.put o.dst v) w → Q (.panic c) a w) (hg : Region.wanted o (yielded l.toArray a.tmps) = true) (hy : ∀ w, (execOp a.eval o).run P w = .ok (.value v) w)
    (h : wpAny P md l.toArray Q fuel (listed.setIfInBounds i true) (a.put o.dst v) w) : wpAny P md l.toArray Q (fuel + 1) listed a w :=
  wpAny_take (oi := o) (drop_at ho) hs hf hr hQ (Or.inl ⟨hg, hy⟩) h
theorem skip_W (i : Nat) (o : Oper) (tl : List Oper) (ho : l.drop i = o :: tl) (hs : Region.noSelect l.toArray = true) (hf : Region.free md l.toArray listed i = true) (hr : (Region.ready md l.toArray listed).contains i = true)
    (hQ : ∀ c a w, Q (.panic c) (a.put o.dst undef) w → Q (.panic c) a w) (hg : Region.wanted o (yielded l.toArray a.tmps) = false)
    (h : wpAny P md l.toArray Q fuel (listed.setIfInBounds i true) (a.put o.dst undef) w) : wpAny P md l.toArray Q (fuel + 1) listed a w :=
  wpAny_take (oi := o) (drop_at ho) hs hf hr hQ (Or.inr ⟨hg, rfl⟩) h
theorem ready_W (i : Nat) (o : Oper) (tl : List Oper) (ho : l.drop i = o :: tl) (hr : Region.ready md l.toArray listed = [i]) (hg : Region.wanted o (yielded l.toArray a.tmps) = true)
    (h : ∀ K' : Act → World → Prop, (∀ a w, wpAny P md l.toArray Q fuel (listed.setIfInBounds i true) a w → K' a w) → Oper.wp P o a w K' Q) : wpAny P md l.toArray Q (fuel + 1) listed a w := by
  refine wpAny_ready hr (by simp) (AllReady.cons (o := o) (drop_at ho) (fun K hK => ?_) AllReady.nil)
  rw [if_pos hg]
  exact h K hK
theorem ready2_W (i j : Nat) (o oj : Oper) (tl tlj : List Oper) (ho : l.drop i = o :: tl) (hoj : l.drop j = oj :: tlj) (hr : Region.ready md l.toArray listed = [i, j]) (hg : Region.wanted o (yielded l.toArray a.tmps) = true) (hgj : Region.wanted oj (yielded l.toArray a.tmps) = true)
    (h : ∀ K' : Act → World → Prop, (∀ a w, wpAny P md l.toArray Q fuel (listed.setIfInBounds i true) a w → K' a w) → Oper.wp P o a w K' Q)
    (hj : ∀ K' : Act → World → Prop, (∀ a w, wpAny P md l.toArray Q fuel (listed.setIfInBounds j true) a w → K' a w) → Oper.wp P oj a w K' Q) : wpAny P md l.toArray Q (fuel + 1) listed a w := by
  refine wpAny_ready hr (by simp) (AllReady.cons (o := o) (drop_at ho) (fun K hK => ?_) (AllReady.cons (o := oj) (drop_at hoj) (fun K hK => ?_) AllReady.nil))
  · rw [if_pos hg]
    exact h K hK
  · rw [if_pos hgj]
    exact hj K hK
end
end Go.Proofs.Ytcaljnlicohkaaa
