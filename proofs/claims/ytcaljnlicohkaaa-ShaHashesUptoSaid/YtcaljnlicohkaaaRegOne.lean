/- A statement that draws its order, one operation that alone is ready: over any program. -/
import Derived.RegionCalls
import Derived.Deep.RegionWith
namespace Go.Proofs.Ytcaljnlicohkaaa
open Go
theorem one_ready {P : Program} {l : List Oper} {md : Region.Mode} {Q : Exit → Act → World → Prop} {fuel : Nat} {listed : Array Bool} {a : Act} {w : World} (i : Nat) (o : Oper) (tl : List Oper) (ho : l.drop i = o :: tl) (hr : Region.ready md l.toArray listed = [i]) (hg : o.guard = none)
    (h : ∀ K' : Act → World → Prop, (∀ a w, wpAny P md l.toArray Q fuel (listed.setIfInBounds i true) a w → K' a w) → Oper.wp P o a w K' Q) : wpAny P md l.toArray Q (fuel + 1) listed a w := by
  refine wpAny_ready hr (by simp) (AllReady.cons (o := o) ?_ (fun K hK => ?_) AllReady.nil)
  · have := congrArg (·[0]?) ho
    simpa [List.getElem?_drop] using this
  · rw [if_pos (by simp [Region.wanted, hg])]
    exact h K hK
theorem one_take {P : Program} {l : List Oper} {md : Region.Mode} {Q : Exit → Act → World → Prop} {fuel : Nat} {listed : Array Bool} {a : Act} {w : World} (i : Nat) (o : Oper) (tl : List Oper) {v : Value} (ho : l.drop i = o :: tl) (hs : Region.noSelect l.toArray = true) (hf : Region.free md l.toArray listed i = true) (hr : (Region.ready md l.toArray listed).contains i = true)
    (hQ : ∀ c a w, Q (.panic c) (a.put o.dst v) w → Q (.panic c) a w) (hg : o.guard = none) (hy : ∀ w, (execOp a.eval o).run P w = .ok (.value v) w)
    (h : wpAny P md l.toArray Q fuel (listed.setIfInBounds i true) (a.put o.dst v) w) : wpAny P md l.toArray Q (fuel + 1) listed a w := by
  refine wpAny_take (oi := o) ?_ hs hf hr hQ (Or.inl ⟨by simp [Region.wanted, hg], hy⟩) h
  have := congrArg (·[0]?) ho
  simpa [List.getElem?_drop] using this
end Go.Proofs.Ytcaljnlicohkaaa
