/- A statement that draws its order: what reads is taken first, also ahead of a last store that writes what was read: over any program. -/
import Derived.OrdersHeld
import Derived.StillTail
import Derived.Test.YtcaljnlicohkaaaRegOne
namespace Go.Proofs.Ytcaljnlicohkaaa
open Go
section
variable {P : Program} {ops : Array Oper} {Q : Exit → Act → World → Prop} {md : Region.Mode} {late : List Nat} {C : World → Prop}
def wpAnyJ (P : Program) (md : Region.Mode) (ops : Array Oper) (Q : Exit → Act → World → Prop) (late : List Nat) (C : World → Prop) : Nat → Array Bool → Act → World → Prop
  | 0, listed, a, w => Region.ready md ops listed = [] ∧ Q .normal a w
  | fuel + 1, listed, a, w =>
    (Region.ready md ops listed = [] → Q .normal a w) ∧
    ∀ i ∈ Region.ready md ops listed, wpOp P ops Q i (fun a' w' => (late.contains i = false → C w') ∧ wpAnyJ P md ops Q late C fuel (listed.setIfInBounds i true) a' w') a w
theorem wpAny_of_J : ∀ (fuel : Nat) (listed : Array Bool) (a : Act) (w : World), wpAnyJ P md ops Q late C fuel listed a w → wpAny P md ops Q fuel listed a w
  | 0, _, _, _, h => h
  | fuel + 1, _, _, _, h => ⟨h.1, fun i hi => wpOp_mono (fun a' w' h' => wpAny_of_J fuel _ a' w' h'.2) (h.2 i hi)⟩
theorem wpAnyJ_first {i : Nat} {oi : Oper} {v : Value} (hi : ops[i]? = some oi) (hsel : ∀ (j : Nat) (o : Oper) cs b, ops[j]? = some o → o.op ≠ .select cs b)
    (hQ : ∀ c a w, Q (.panic c) (a.put oi.dst v) w → Q (.panic c) a w) (hl : ∀ j, late.contains j = true → Region.waitsFor md ops j i = true) :
    ∀ (fuel : Nat) (listed : Array Bool) (a : Act) (w : World),
      (∀ j oj, ops[j]? = some oj → j ≠ i → listed.getD j true = false → (∀ e ∈ oj.after, Region.binds md e = true → e.on ≠ i) → oi.apart ops oj = true) →
      i ∈ Region.ready md ops listed → YieldsIf P ops C oi v a → C w →
      wpAnyJ P md ops Q late C fuel (listed.setIfInBounds i true) (a.put oi.dst v) w → wpAnyJ P md ops Q late C (fuel + 1) listed a w := by
  intro fuel
  induction fuel with
  | zero =>
    intro listed a w _ hr hy hS H
    refine ⟨fun h => (by rw [h] at hr; cases hr), fun j hj => ?_⟩
    by_cases hji : j = i
    · subst hji; exact hy.wpOp hi hS ⟨fun _ => hS, H⟩
    · have := ready_mono hj hji
      rw [H.1] at this
      cases this
  | succ fuel ih =>
    intro listed a w hfree hr hy hS H
    refine ⟨fun h => (by rw [h] at hr; cases hr), fun j hj => ?_⟩
    by_cases hji : j = i
    · subst hji; exact hy.wpOp hi hS ⟨fun _ => hS, H⟩
    · have h1 := H.2 j (ready_mono hj hji)
      obtain ⟨hjun, oj, hoj, hall⟩ := mem_ready.1 hj
      have hnot : ∀ e ∈ oj.after, Region.binds md e = true → e.on ≠ i := fun e he hb heq => by
        have h1 := hall e he hb
        have h0 := (mem_ready.1 hr).1
        rw [heq] at h1
        rcases Nat.lt_or_ge i listed.size with h' | h'
        · simp [h'] at h0 h1; rw [h0] at h1; cases h1
        · simp [Array.getElem?_eq_none h'] at h1
      have hjl : late.contains j = false := by
        cases hc : late.contains j with
        | false => rfl
        | true =>
          obtain ⟨o', ho', e, he, hb, hon⟩ := Region.waitsFor_spec (hl j hc)
          have : o' = oj := Option.some.inj (ho'.symm.trans hoj)
          subst this
          exact absurd hon (hnot e he hb)
      have h2 := wpOp_putIf hoj (hfree j oj hoj hji hjun hnot) (fun cs b => hsel i oi cs b hi) (fun cs b => hsel j oj cs b hoj) hQ hy h1
      have hfree' : ∀ k ok, ops[k]? = some ok → k ≠ i → (listed.setIfInBounds j true).getD k true = false →
          (∀ e ∈ ok.after, Region.binds md e = true → e.on ≠ i) → oi.apart ops ok = true := fun k ok hk hki hun hno => by
        refine hfree k ok hk hki ?_ hno
        by_cases hjk : j = k
        · subst hjk; exact hjun
        · rw [getD_set_ne true hjk] at hun; exact hun
      refine wpOp_mono (fun a' w' h3 => ⟨h3.2.1, ih (listed.setIfInBounds j true) a' w' hfree' (ready_mono hr (Ne.symm hji)) h3.1 (h3.2.1 hjl) ?_⟩) h2
      rw [Array.setIfInBounds_comm _ _ hji]
      exact h3.2.2
theorem wpAnyJ_done {listed : Array Bool} {a : Act} {w : World} (hr : Region.ready md ops listed = []) (h : Q .normal a w) :
    ∀ fuel, wpAnyJ P md ops Q late C fuel listed a w
  | 0 => ⟨hr, h⟩
  | _ + 1 => ⟨fun _ => h, by rw [hr]; simp⟩
end
section
variable {P : Program} {l : List Oper} {Q : Exit → Act → World → Prop} {md : Region.Mode} {C : World → Prop} {fuel : Nat} {listed : Array Bool} {a : Act} {w : World}
theorem region_J (late : List Nat) (C : World → Prop) {id : Nat} (hm : P.follows .mixedOrders = true) (h : wpAnyJ P .any l.toArray Q late C l.toArray.size (Array.replicate l.toArray.size false) a w.drew) : (Code.region id l.toArray true).wp P Q a w :=
  wp_region_any hm (wpAny_of_J _ _ _ _ h)
theorem take_J {late : List Nat} (i : Nat) (o : Oper) (tl : List Oper) {v : Value} (ho : l.drop i = o :: tl) (hs : Region.noSelect l.toArray = true) (hf : Region.free md l.toArray listed i = true) (hr : (Region.ready md l.toArray listed).contains i = true) (hl : (late.all fun j => Region.waitsFor md l.toArray j i) = true)
    (hQ : ∀ c a w, Q (.panic c) (a.put o.dst v) w → Q (.panic c) a w) (hg : o.guard = none) (hC : C w) (hy : ∀ w, C w → (execOp a.eval o).run P w = .ok (.value v) w)
    (h : wpAnyJ P md l.toArray Q late C fuel (listed.setIfInBounds i true) (a.put o.dst v) w) : wpAnyJ P md l.toArray Q late C (fuel + 1) listed a w := by
  have hi : l.toArray[i]? = some o := by
    have := congrArg (·[0]?) ho
    simpa [List.getElem?_drop] using this
  exact wpAnyJ_first hi (Region.noSelect_spec hs) hQ (fun j hj => List.all_eq_true.1 hl j (by simpa using hj)) fuel listed a w (Region.free_spec hi hf) (by simpa using hr) (Or.inl ⟨by simp [Region.wanted, hg], hy⟩) hC h
theorem ready_J {late : List Nat} (i : Nat) (o : Oper) (tl : List Oper) (ho : l.drop i = o :: tl) (hr : Region.ready md l.toArray listed = [i]) (hg : o.guard = none)
    (h : ∀ K' : Act → World → Prop, (∀ a w, (late.contains i = false → C w) → wpAnyJ P md l.toArray Q late C fuel (listed.setIfInBounds i true) a w → K' a w) → Oper.wp P o a w K' Q) : wpAnyJ P md l.toArray Q late C (fuel + 1) listed a w := by
  have hi : l.toArray[i]? = some o := by
    have := congrArg (·[0]?) ho
    simpa [List.getElem?_drop] using this
  refine ⟨fun h0 => (by rw [hr] at h0; cases h0), fun j hj => ?_⟩
  rw [hr, List.mem_singleton] at hj
  subst hj
  refine wpOp_step hi (fun K' hK => ?_)
  rw [if_pos (by simp [Region.wanted, hg])]
  exact h K' (fun a w h1 h2 => hK a w ⟨h1, h2⟩)
theorem take_JW {late : List Nat} (i : Nat) (o : Oper) (tl : List Oper) {v : Value} (ho : l.drop i = o :: tl) (hs : Region.noSelect l.toArray = true) (hf : Region.free md l.toArray listed i = true) (hr : (Region.ready md l.toArray listed).contains i = true) (hl : (late.all fun j => Region.waitsFor md l.toArray j i) = true)
    (hQ : ∀ c a w, Q (.panic c) (a.put o.dst v) w → Q (.panic c) a w) (hg : Region.wanted o (yielded l.toArray a.tmps) = true) (hC : C w) (hy : ∀ w, C w → (execOp a.eval o).run P w = .ok (.value v) w)
    (h : wpAnyJ P md l.toArray Q late C fuel (listed.setIfInBounds i true) (a.put o.dst v) w) : wpAnyJ P md l.toArray Q late C (fuel + 1) listed a w := by
  have hi : l.toArray[i]? = some o := by
    have := congrArg (·[0]?) ho
    simpa [List.getElem?_drop] using this
  exact wpAnyJ_first hi (Region.noSelect_spec hs) hQ (fun j hj => List.all_eq_true.1 hl j (by simpa using hj)) fuel listed a w (Region.free_spec hi hf) (by simpa using hr) (Or.inl ⟨hg, hy⟩) hC h
theorem ready_JW {late : List Nat} (i : Nat) (o : Oper) (tl : List Oper) (ho : l.drop i = o :: tl) (hr : Region.ready md l.toArray listed = [i]) (hg : Region.wanted o (yielded l.toArray a.tmps) = true)
    (h : ∀ K' : Act → World → Prop, (∀ a w, (late.contains i = false → C w) → wpAnyJ P md l.toArray Q late C fuel (listed.setIfInBounds i true) a w → K' a w) → Oper.wp P o a w K' Q) : wpAnyJ P md l.toArray Q late C (fuel + 1) listed a w := by
  have hi : l.toArray[i]? = some o := by
    have := congrArg (·[0]?) ho
    simpa [List.getElem?_drop] using this
  refine ⟨fun h0 => (by rw [hr] at h0; cases h0), fun j hj => ?_⟩
  rw [hr, List.mem_singleton] at hj
  subst hj
  refine wpOp_step hi (fun K' hK => ?_)
  rw [if_pos hg]
  exact h K' (fun a w h1 h2 => hK a w ⟨h1, h2⟩)
end
end Go.Proofs.Ytcaljnlicohkaaa
