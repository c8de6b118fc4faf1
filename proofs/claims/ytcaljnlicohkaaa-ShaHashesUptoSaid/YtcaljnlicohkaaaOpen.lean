/- What came in, opened: over any program. -/
import Derived.Test.YtcaljnlicohkaaaMem
import Derived.ProofKit
import Derived.OpenShut
import Derived.ShutString
import Derived.ChangeOld
import Derived.SizedLaws
import Derived.ChangeSlices
import Derived.Deep.Slices
namespace Go.Proofs.Ytcaljnlicohkaaa
open Go.RowKit Go.ChangeShapes Go.WideShapes Go.ChangeAt
section
variable {H : Type} {enc : TypeId × Value → H} {P : Program} {w : World} {base : Nat} {spare : Nat → Bool} {held : Bool}
def Small (P : Program) (t : TypeId) (d : DataW H) : Prop := ∀ n ∈ d.weights P t, n ≤ 140737488351232
theorem small_of {ts : List TypeId} {ds : List (DataW H)} (h : (DataW.weightsEach P ts ds).all (· ≤ reachBytes) = true) {j : Nat} {t : TypeId} {d : DataW H} (ht : ts[j]? = some t) (hd : ds[j]? = some d) : Small P t d := by
  intro n hn
  have := List.all_eq_true.1 h n (DataW.weights_mem_each ht hd n hn)
  have e : reachBytes = 140737488351232 := by decide
  rw [e] at this
  simpa using this
theorem weightsAll_mem {e : TypeId} : ∀ {ds : List (DataW H)} {i : Nat} {d : DataW H}, ds[i]? = some d → ∀ n ∈ d.weights P e, n ∈ DataW.weightsAll P e ds
  | d0 :: ds, 0, d, hd, n, hn => by
    simp only [List.getElem?_cons_zero, Option.some.injEq] at hd
    subst hd
    simp only [DataW.weightsAll, List.mem_append]
    exact Or.inl hn
  | d0 :: ds, i + 1, d, hd, n, hn => by
    simp only [List.getElem?_cons_succ] at hd
    simp only [DataW.weightsAll, List.mem_append]
    exact Or.inr (weightsAll_mem hd n hn)
  | [], _, _, hd, _, _ => by simp at hd
/-- A slice of whole numbers, one cell each. -/
theorem open_nums {t e : TypeId} {k : IntKind} {fuel : Nat} {cs : List Value} {x : DataW H × List MemPlace} {B : Nat} (ht : P.underlying t = some (.slice e)) (he : P.underlying e = some (.int k)) (hc : P.cellsOf e = 1) (hB : P.bytesOf e = B)
    (h : DataW.trod enc P w base spare held fuel t cs = some x) (hz : Small P t x.1) :
    ∃ v zs, cs = [v] ∧ RdC 1 w v zs.length (zs.map (Value.int k)) ∧ (∀ n ∈ zs, (Lit.int k n).wf = true) ∧ zs.length * B ≤ 140737488351232 ∧ (x.1 = .nil ∧ zs = [] ∨ ∃ sp, x.1 = .slice (lits k zs) sp) := by
  rcases open_ints ht he hc h with ⟨rfl, rfl⟩ | ⟨a, len, cap, zs, rfl, _, hl, hm, hzl, rfl, hcell, hwf⟩
  · exact ⟨_, [], rfl, RdC.own (World.ownsRow_nil w 0 e 1), (by simp), by simp, .inl ⟨rfl, rfl⟩⟩
  · have hlen : len ≤ zs.length := by rw [hzl]; split <;> omega
    have ht2 : (zs.take len).length = len := by rw [List.length_take]; omega
    refine ⟨_, zs.take len, rfl, ⟨by simp, some a, cap, by rw [ht2], by rw [ht2]; exact hl, hm, (fun h => by cases h), ?_⟩, fun n hn => hwf n (List.mem_of_mem_take hn), ?_, .inr ⟨_, rfl⟩⟩
    · intro j hj
      rw [List.length_map, ht2] at hj
      have h1 := hcell j (by omega)
      have hspot : (a.add j).spot = none := World.cell?_spot h1
      have h0 := hcell 0 (by omega)
      have hs0 : a.spot = none := by simpa [Addr.add] using World.cell?_spot h0
      obtain ⟨b, off, spot⟩ := a
      have : spot = none := hs0
      subst this
      refine ⟨b, off, rfl, ?_⟩
      rw [Addr.add_lit] at h1
      rw [h1, List.getElem?_map, List.getElem?_take_of_lt hj, List.getElem?_eq_getElem (by omega), List.getD_eq_getElem?_getD, List.getElem?_eq_getElem (by omega)]
      rfl
    · have := hz ((lits (H := H) k (zs.take len)).length * P.bytesOf e + (lits (H := H) k (zs.drop len)).length * P.bytesOf e) (by simp [DataW.weights, ht, Nat.add_mul])
      rw [hB] at this
      simp only [lits, List.length_map] at this
      omega
theorem wf_u32 {n : Int} (h : (Lit.int .u32 n).wf = true) : 0 ≤ n ∧ n < 4294967296 := by have := bounds_u32 h; omega
theorem wf_i64 {n : Int} (h : (Lit.int .i64 n).wf = true) : -9223372036854775808 ≤ n ∧ n ≤ 9223372036854775807 := by have := bounds_i64 h; omega
theorem wf_u64 {n : Int} (h : (Lit.int .u64 n).wf = true) : ∃ m : Nat, n = (m : Int) ∧ m < 2 ^ 64 := by
  have := bounds_u64 h
  exact ⟨n.toNat, by omega, by omega⟩
theorem wf_u8 {n : Int} (h : (Lit.int .u8 n).wf = true) : 0 ≤ n ∧ n < 256 := by
  have := bounds_u8 h
  omega
theorem open_bytes {t e : TypeId} {fuel : Nat} {cs : List Value} {x : DataW H × List MemPlace} (ht : P.underlying t = some (.slice e)) (he : P.underlying e = some (.int .u8)) (hc : P.cellsOf e = 1) (hB : P.bytesOf e = 1)
    (h : DataW.trod enc P w base spare held fuel t cs = some x) (hz : Small P t x.1) :
    ∃ v xs, cs = [v] ∧ Rd w v xs ∧ xs.length ≤ 140737488351232 ∧ (x.1 = .nil ∧ xs = [] ∨ ∃ sp, x.1 = .slice (lits .u8 xs) sp) := by
  obtain ⟨v, zs, h1, h2, h3, h4, h5⟩ := open_nums ht he hc hB h hz
  exact ⟨v, zs, h1, ⟨fun n hn => wf_u8 (h3 n hn), h2⟩, by omega, h5⟩
/-- A list of slices of bytes. -/
theorem open_lists {t e e8 : TypeId} {fuel : Nat} {cs : List Value} {x : DataW H × List MemPlace} (ht : P.underlying t = some (.slice e)) (hc : P.cellsOf e = 1) (hB : P.bytesOf e = 24) (he : P.underlying e = some (.slice e8)) (h8 : P.underlying e8 = some (.int .u8)) (hc8 : P.cellsOf e8 = 1) (hB8 : P.bytesOf e8 = 1)
    (h : DataW.trod enc P w base spare held fuel t cs = some x) (hz : Small P t x.1) :
    ∃ v xss, cs = [v] ∧ RdL w v xss ∧ xss.length * 24 ≤ 140737488351232 ∧ (∀ xs ∈ xss, xs.length ≤ 140737488351232) ∧
      (x.1 = .nil ∧ xss = [] ∨ ∃ es sp, x.1 = .slice es sp ∧ es.length = xss.length ∧ ∀ j, j < xss.length → (es[j]? = some .nil ∧ xss.getD j [] = [] ∨ ∃ s, es[j]? = some (.slice (lits .u8 (xss.getD j [])) s))) := by
  rcases Go.Deep.open_slice1 ht hc h with ⟨rfl, rfl⟩ | ⟨a, len, cap, m, n, V, D, Pl, rfl, _, hl, hm, hmm, rfl, hx⟩
  · refine ⟨_, [], rfl, ⟨[], rfl, RdC.own (World.ownsRow_nil w 0 e 1), (by simp), fun j hj => absurd hj (by simp)⟩, by simp, (by simp), .inl ⟨rfl, rfl⟩⟩
  · have hlm : len ≤ m := by rw [hmm]; split <;> omega
    have hw : ∀ i, i < len → Small P e (D i) := by
      intro i hi q hq
      refine hz q ?_
      simp only [DataW.weights, ht, List.mem_cons, List.mem_append]
      refine .inr (.inl (weightsAll_mem (i := i) (d := D i) ?_ q hq))
      rw [List.getElem?_map, List.getElem?_range hi]; rfl
    have hel : ∀ i, i < len → ∃ xs, Rd w (V i) xs ∧ xs.length ≤ 140737488351232 ∧ (D i = .nil ∧ xs = [] ∨ ∃ s, D i = .slice (lits .u8 xs) s) := by
      intro i hi
      obtain ⟨_, h2⟩ := hx i (by omega)
      obtain ⟨v, xs, e1, e2, e3, e4⟩ := open_bytes he h8 hc8 hB8 h2 (hw i hi)
      injection e1 with e1
      subst e1
      exact ⟨xs, e2, e3, e4⟩
    obtain ⟨X, hX⟩ := Go.Deep.choose_lt (α := List Int) (p := fun i xs => Rd w (V i) xs ∧ xs.length ≤ 140737488351232 ∧ (D i = .nil ∧ xs = [] ∨ ∃ s, D i = .slice (lits .u8 xs) s)) hel
    have hlenX : ((List.range len).map X).length = len := by rw [List.length_map, List.length_range]
    have hgetX : ∀ j, j < len → ((List.range len).map X).getD j [] = X j := fun j hj => by
      rw [List.getD_eq_getElem?_getD, List.getElem?_map, List.getElem?_range hj]; rfl
    refine ⟨_, (List.range len).map X, rfl, ⟨(List.range len).map V, by simp, ⟨by simp, some a, cap, by rw [hlenX], by rw [hlenX]; exact hl, hm, (fun h => by cases h), ?_⟩, ?_, ?_⟩, ?_, ?_, .inr ⟨_, _, rfl, by simp, ?_⟩⟩
    · intro j hj
      rw [List.length_map, List.length_range] at hj
      have h1 := (hx j (by omega)).1
      have h0 := (hx 0 (by omega)).1
      have hs0 : a.spot = none := by simpa [Addr.add] using World.cell?_spot h0
      obtain ⟨b, off, spot⟩ := a
      have : spot = none := hs0
      subst this
      refine ⟨b, off, rfl, ?_⟩
      rw [Addr.add_lit] at h1
      rw [h1, List.getElem?_map, List.getElem?_range hj]
      rfl
    · intro u hu
      obtain ⟨i, hi, rfl⟩ := List.mem_map.1 hu
      obtain ⟨A, c, hv, _⟩ := (hX i (List.mem_range.1 hi)).1.form
      rw [hv]
      rfl
    · intro j hj
      rw [hlenX] at hj
      rw [hgetX j hj]
      have : ((List.range len).map V).getD j undef = V j := by rw [List.getD_eq_getElem?_getD, List.getElem?_map, List.getElem?_range hj]; rfl
      rw [this]
      exact (hX j hj).1
    · have := hz ((len + (m - len)) * P.bytesOf e) (by simp [DataW.weights, ht])
      rw [hB] at this
      rw [hlenX]
      omega
    · intro xs hxs
      obtain ⟨i, hi, rfl⟩ := List.mem_map.1 hxs
      exact (hX i (List.mem_range.1 hi)).2.1
    · intro j hj
      rw [hlenX] at hj
      rw [hgetX j hj]
      rcases (hX j hj).2.2 with ⟨h1, h2⟩ | ⟨s, h1⟩
      · exact .inl ⟨by rw [List.getElem?_map, List.getElem?_range hj]; simp [h1], h2⟩
      · exact .inr ⟨s, by rw [List.getElem?_map, List.getElem?_range hj]; simp [h1]⟩
theorem opened_nums {t e : TypeId} {k : IntKind} {v : Value} {d : DataW H} {ps : List MemPlace} {B : Nat} (ht : P.underlying t = some (.slice e)) (he : P.underlying e = some (.int k)) (hc : P.cellsOf e = 1) (hB : P.bytesOf e = B)
    (hv : ∃ a n c, v = .slice a n c) (h : DataW.Trod enc P w base spare held t v d ps) (hz : Small P t d) :
    ∃ zs, RdC 1 w v zs.length (zs.map (Value.int k)) ∧ (∀ n ∈ zs, (Lit.int k n).wf = true) ∧ zs.length * B ≤ 140737488351232 ∧ (d = .nil ∧ zs = [] ∨ ∃ sp, d = .slice (lits k zs) sp) := by
  obtain ⟨a, n, c, rfl⟩ := hv
  obtain ⟨fuel, hf⟩ := h
  obtain ⟨v', zs, h1, h2, h3, h4, h5⟩ := open_nums ht he hc hB hf hz
  have e : (Value.slice a n c) = v' := by simpa [Value.cells] using h1
  subst e
  exact ⟨zs, h2, h3, h4, h5⟩
theorem opened_bytes {t e : TypeId} {v : Value} {d : DataW H} {ps : List MemPlace} (ht : P.underlying t = some (.slice e)) (he : P.underlying e = some (.int .u8)) (hc : P.cellsOf e = 1) (hB : P.bytesOf e = 1)
    (hv : ∃ a n c, v = .slice a n c) (h : DataW.Trod enc P w base spare held t v d ps) (hz : Small P t d) :
    ∃ xs, Rd w v xs ∧ xs.length ≤ 140737488351232 ∧ (d = .nil ∧ xs = [] ∨ ∃ sp, d = .slice (lits .u8 xs) sp) := by
  obtain ⟨a, n, c, rfl⟩ := hv
  obtain ⟨fuel, hf⟩ := h
  obtain ⟨v', xs, h1, h2, h3, h4⟩ := open_bytes ht he hc hB hf hz
  have e : (Value.slice a n c) = v' := by simpa [Value.cells] using h1
  subst e
  exact ⟨xs, h2, h3, h4⟩
theorem opened_lists {t e e8 : TypeId} {v : Value} {d : DataW H} {ps : List MemPlace} (ht : P.underlying t = some (.slice e)) (hc : P.cellsOf e = 1) (hB : P.bytesOf e = 24) (he : P.underlying e = some (.slice e8)) (h8 : P.underlying e8 = some (.int .u8)) (hc8 : P.cellsOf e8 = 1) (hB8 : P.bytesOf e8 = 1)
    (hv : ∃ a n c, v = .slice a n c) (h : DataW.Trod enc P w base spare held t v d ps) (hz : Small P t d) :
    ∃ xss, RdL w v xss ∧ xss.length * 24 ≤ 140737488351232 ∧ (∀ xs ∈ xss, xs.length ≤ 140737488351232) ∧
      (d = .nil ∧ xss = [] ∨ ∃ es sp, d = .slice es sp ∧ es.length = xss.length ∧ ∀ j, j < xss.length → (es[j]? = some .nil ∧ xss.getD j [] = [] ∨ ∃ s, es[j]? = some (.slice (lits .u8 (xss.getD j [])) s))) := by
  obtain ⟨a, n, c, rfl⟩ := hv
  obtain ⟨fuel, hf⟩ := h
  obtain ⟨v', xss, h1, h2, h3, h4, h5⟩ := open_lists ht hc hB he h8 hc8 hB8 hf hz
  have e : (Value.slice a n c) = v' := by simpa [Value.cells] using h1
  subst e
  exact ⟨xss, h2, h3, h4, h5⟩
end
end Go.Proofs.Ytcaljnlicohkaaa
