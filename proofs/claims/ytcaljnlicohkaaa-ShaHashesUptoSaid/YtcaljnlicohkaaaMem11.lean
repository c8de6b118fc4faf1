/- A store into part of a longer row: over any program. -/
import Derived.Test.YtcaljnlicohkaaaMem10
import Derived.Deep.MidRow
namespace Go.Proofs.Ytcaljnlicohkaaa
open Go.RowKit
def setL (cs : Array Value) (o : Nat) : List Value → Array Value
  | [] => cs
  | v :: vs => setL (cs.setIfInBounds o v) (o + 1) vs
theorem Box.puts {g : Nat} {t : TypeId} : ∀ (vs : List Value) (o : Nat) {W : World} {cs : Array Value}, Box W g t cs → Box (W.setCells g o vs) g t (setL cs o vs) ∧ Chg (fun k => k = g) W (W.setCells g o vs)
  | [], _, W, cs, h => ⟨h, Chg.refl _ _⟩
  | v :: vs, o, W, cs, h => by
    obtain ⟨h1, h2⟩ := h.put o v
    obtain ⟨h3, h4⟩ := Box.puts vs (o + 1) h1
    exact ⟨h3, (Chg.grown (S := fun k => k = g) h2 (fun b _ h => by injection h)).trans h4 (fun b _ h => h)⟩
theorem Box.there {W : World} {g : Nat} {t : TypeId} {cs : Array Value} (h : Box W g t cs) (o n : Nat) (hn : o + n ≤ cs.size) : W.there g o n := fun j hj => by
  constructor
  · rw [h.cell (o + j) (v := cs[o + j]'(by omega)) (Array.getElem?_eq_getElem (by omega))]; rfl
  · exact h.frozen (o + j)
end Go.Proofs.Ytcaljnlicohkaaa
