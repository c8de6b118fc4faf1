/- Making and growing, as arms of the walk: over any program. -/
import Derived.Test.YtcaljnlicohkaaaMem
namespace Go.Proofs.Ytcaljnlicohkaaa
open Go.RowKit
section
variable {P : Program} {ops : Array Oper} {rest : List Oper} {o : Oper} {a : Act} {Q : Exit → Act → World → Prop}
/-- make([]byte, 0, n) -/
theorem make0_bytes {w0 W : World} (base : Nat) (hg : o.guard = none) (l c : Operand) (t e : TypeId) (hop : o.op = Op.makeSlice t l c)
    (ht : P.underlying t = some (.slice e)) (hinfo : (P.info? e).map (fun i => (i.zero, i.size, i.bytes)) = some (some (.int .u8 0), 1, 1)) (kl kc : IntKind) (C : Int) (n : Nat)
    (hl : a.eval l = .int kl 0) (hc : a.eval c = .int kc C) (hC : C = (n : Int)) (hn : n ≤ 281474976710656) (HB : Below base w0 W) (hbase : base ≤ W.heap.size)
    (h : ∀ v1 w1, Own w1 base e v1 [] → Below base w0 w1 → W.grownBy w1 none → v1.ownBlock = some W.heap.size → wpList P ops Q rest (a.put o.dst v1) w1) :
    wpList P ops Q (o :: rest) a W := by
  obtain ⟨i0, hi, hz0, hz1, hz2⟩ := info_parts hinfo
  refine wpList_make_own W hg l c t hop base e i0 (.int .u8 0) 1 ht hi hz0 hz1 kl kc C n hl hc hC (by rw [hz2]; omega) (by unfold maxLen; omega) hbase ?_
  intro w1 h1 h2
  exact h _ w1 ⟨fun b hb => absurd hb (by simp), h1⟩ (HB.grown h2 hbase fun k hk => by cases hk) h2 rfl
/-- make([]byte, n) -/
theorem make_bytes {w0 W : World} (base : Nat) (hg : o.guard = none) (l c : Operand) (t e : TypeId) (hop : o.op = Op.makeSlice t l c)
    (ht : P.underlying t = some (.slice e)) (hinfo : (P.info? e).map (fun i => (i.zero, i.size, i.bytes)) = some (some (.int .u8 0), 1, 1)) (kl kc : IntKind) (L C : Int) (n : Nat)
    (hl : a.eval l = .int kl L) (hc : a.eval c = .int kc C) (hL : L = (n : Int)) (hC : C = (n : Int)) (hn : n ≤ 281474976710656) (HB : Below base w0 W) (hbase : base ≤ W.heap.size)
    (h : ∀ v1 w1, Own w1 base e v1 (List.replicate n 0) → Below base w0 w1 → W.grownBy w1 none → v1.ownBlock = some W.heap.size → wpList P ops Q rest (a.put o.dst v1) w1) :
    wpList P ops Q (o :: rest) a W := by
  obtain ⟨i0, hi, hz0, hz1, hz2⟩ := info_parts hinfo
  refine wpList_make_full W hg l c t hop base e i0 (.int .u8 0) 1 ht hi hz0 hz1 kl kc L C n hl hc hL hC (by rw [hz2]; omega) (by unfold maxLen; omega) hbase ?_
  intro w1 h1 h2
  refine h _ w1 ⟨fun b hb => by rw [List.eq_of_mem_replicate hb]; omega, ?_⟩ (HB.grown h2 hbase fun k hk => by cases hk) h2 rfl
  rw [List.length_replicate]
  have e1 : nums8 (List.replicate n 0) = (madeCells (Value.int .u8 0).cells (n * 1)).toList := by
    rw [Nat.mul_one]
    show _ = (madeCells #[Value.int .u8 0] n).toList
    rw [toList_madeCells_one]
    unfold nums8
    rw [List.map_replicate]
  rw [e1]
  exact h1
/-- append of the bytes of a box of the call's own -/
theorem app_box {w0 W : World} (base : Nat) (hgd : o.guard = none) (s x : Operand) (t e : TypeId)
    (ho : o.op = .call { callee := .builtin .append, args := #[s, x], argTypes := #[t, t] })
    (ht : P.underlying t = some (.slice e)) (hinfo : (P.info? e).map (fun i => (i.zero, i.size, i.bytes)) = some (some (.int .u8 0), 1, 1))
    (v : Value) (xs ys : List Int) (hs : a.eval s = v) (g n c : Nat) (hx : a.eval x = .slice (some ⟨g, 0, none⟩) n c) (hn : ys.length = n) (hnc : n ≤ c) (hc : c ≤ 281474976710656)
    (hy : IsBytes ys) (hcell : ∀ j, j < n → W.cell? ⟨g, j, none⟩ = some (.int .u8 (ys.getD j 0)))
    (HO : Own W base e v xs) (HB : Below base w0 W) (hbase : base ≤ W.heap.size) (hl : xs.length + ys.length ≤ 140737488355328)
    (h : ∀ v1 w1, Own w1 base e v1 (xs ++ ys) → Below base w0 w1 → W.grownBy w1 v.ownBlock → (v1.ownBlock = v.ownBlock ∨ v1.ownBlock = some W.heap.size) → wpList P ops Q rest (a.put o.dst v1) w1) :
    wpList P ops Q (o :: rest) a W := by
  subst hn
  refine app_bytes base hgd s x t e ho ht hinfo v _ xs ys hs hx HO ⟨hy, by rw [nums8_length, Nat.mul_one], _, _, rfl, hnc, by unfold maxLen; omega, (fun h => by cases h), fun j hj => ⟨g, 0, rfl, ?_⟩⟩ HB hbase hl h
  rw [nums8_length] at hj
  rw [Nat.zero_add, hcell j hj, nums8_get ys j hj]
end
theorem box_one (W : World) (v : Value) (t : TypeId) : RdC 1 (W.alloc (.cells #[v] t)) (.slice (some ⟨W.heap.size, 0, none⟩) 1 1) 1 [v] :=
  ⟨rfl, _, _, rfl, Nat.le_refl _, by decide, (fun h => by cases h), fun j hj => ⟨_, 0, rfl, by rw [Nat.zero_add, World.cell?_alloc_new]; simp⟩⟩
theorem row_grown0 {w w1 : World} {base size n : Nat} {e : TypeId} {v : Value} {xs : List Value} (h : w.ownsRow base e size v n xs) (hg : w.grownBy w1 none) : w1.ownsRow base e size v n xs :=
  h.kept hg (by cases v.ownBlock <;> simp)
theorem own_grown0 {w w1 : World} {base : Nat} {e : TypeId} {v : Value} {xs : List Int} (h : Own w base e v xs) (hg : w.grownBy w1 none) : Own w1 base e v xs := ⟨h.1, row_grown0 h.2 hg⟩
theorem own_past {W w2 : World} {b base k : Nat} {e8 eS : TypeId} {u vo : Value} {xs : List Int} {vs : List Value} {s : Nat} (h : Own W b e8 u xs) (HO : W.ownsRow base eS s vo k vs) (hg : W.grownBy w2 vo.ownBlock) (hne : e8 ≠ eS) : Own w2 b e8 u xs := h.kept hg (own_types h.2 HO hne)
theorem one_snoc {vs : List Value} (h : ∀ u ∈ vs, u.oneCell' = true) (A : Option Addr) (n c : Nat) : ∀ u ∈ vs ++ [Value.slice A n c], u.oneCell' = true := by
  intro u hu
  rcases List.mem_append.1 hu with h1 | h1
  · exact h u h1
  · simp only [List.mem_cons, List.not_mem_nil, or_false] at h1; subst h1; rfl
theorem getD_left {α : Type} {l m : List α} {d : α} {j : Nat} (h : j < l.length) : (l ++ m).getD j d = l.getD j d := by
  rw [List.getD_eq_getElem?_getD, List.getD_eq_getElem?_getD, List.getElem?_append_left h]
theorem getD_mid {α : Type} {l : List α} {x d : α} {j : Nat} (h : j = l.length) : (l ++ [x]).getD j d = x := by
  subst h
  rw [List.getD_eq_getElem?_getD, List.getElem?_append_right (Nat.le_refl _), Nat.sub_self]; rfl
theorem one_slice (A : Option Addr) (n c : Nat) : ∀ u ∈ [Value.slice A n c], u.oneCell' = true := by
  intro u hu; simp only [List.mem_cons, List.not_mem_nil, or_false] at hu; subst hu; rfl
theorem al1 {w w1 : World} (h : Below w.heap.size w w1) (o : Obj) : Below w.heap.size w (w1.alloc o) := h.alloc h.size o
theorem size_al (w : World) (o : Obj) : w.heap.size ≤ (w.alloc o).heap.size := by simp
/-- a new row of bytes is answered -/
def RetOwn (e8 : TypeId) (w : World) (xs : List Int) (e : Ending) (w' : World) : Prop := ∃ v, e = .returned v ∧ Own w' w.heap.size e8 v xs ∧ Below w.heap.size w w'
/-- a list of slices is answered, each in memory of its own -/
def RetLists (w : World) (xss : List (List Int)) (e : Ending) (w' : World) : Prop := ∃ v, e = .returned v ∧ RdL w' v xss ∧ Below w.heap.size w w'
end Go.Proofs.Ytcaljnlicohkaaa
