/- A list of slices written out: over any program. -/
import Derived.Test.YtcaljnlicohkaaaMem11
namespace Go.Proofs.Ytcaljnlicohkaaa
open Go.RowKit
theorem rdl_built {w : World} {t : TypeId} {vs : List Value} {cs : Array Value} {n : Nat} (xss : List (List Int)) (hc : cs = vs.toArray) (hn : xss.length = n) (hv : vs.length = n) (h1 : ∀ u ∈ vs, u.oneCell' = true) (hm : n ≤ maxLen) (h : ∀ j, j < xss.length → Rd w (vs.getD j undef) (xss.getD j [])) :
    RdL (w.alloc (.cells cs t)) (.slice (some ⟨w.heap.size, 0, none⟩) n n) xss := by
  subst hc
  subst hn
  have hb : Below w.heap.size w (w.alloc (.cells vs.toArray t)) := (Below.refl _ _).alloc (Nat.le_refl _) _
  refine ⟨vs, hv, ⟨by omega, _, _, rfl, Nat.le_refl _, hm, (fun h => by cases h), fun j hj => ⟨_, 0, rfl, ?_⟩⟩, h1, fun j hj => (h j hj).keep hb⟩
  rw [Nat.zero_add, World.cell?_alloc_new]
  simp
theorem rdl_one {w : World} {t : TypeId} {v : Value} {xs : List Int} (HR : Rd w v xs) : RdL (w.alloc (.cells #[v] t)) (.slice (some ⟨w.heap.size, 0, none⟩) 1 1) [xs] := by
  obtain ⟨A, c, rfl, _⟩ := HR.form
  exact rdl_built [xs] (vs := [_]) rfl rfl rfl (by intro u hu; simp at hu; subst hu; rfl) (by decide) (fun j hj => by
    have : j = 0 := by simp at hj; exact hj
    subst this
    exact HR)
theorem rdl_three {w : World} {t : TypeId} {v v2 v3 : Value} {xs xs2 xs3 : List Int} (HR : Rd w v xs) (HR2 : Rd w v2 xs2) (HR3 : Rd w v3 xs3) : RdL (w.alloc (.cells #[v, v2, v3] t)) (.slice (some ⟨w.heap.size, 0, none⟩) 3 3) [xs, xs2, xs3] := by
  obtain ⟨A, c, rfl, _⟩ := HR.form
  obtain ⟨A2, c2, rfl, _⟩ := HR2.form
  obtain ⟨A3, c3, rfl, _⟩ := HR3.form
  exact rdl_built [xs, xs2, xs3] (vs := [_, _, _]) rfl rfl rfl (by intro u hu; simp at hu; rcases hu with rfl | rfl | rfl <;> rfl) (by decide) (fun j hj => by
    have : j = 0 ∨ j = 1 ∨ j = 2 := by simp at hj; omega
    rcases this with rfl | rfl | rfl
    · exact HR
    · exact HR2
    · exact HR3)
end Go.Proofs.Ytcaljnlicohkaaa
