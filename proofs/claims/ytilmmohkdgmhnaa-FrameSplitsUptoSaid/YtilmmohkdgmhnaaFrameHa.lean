/- Lists of frames whose bodies lie apart; a splitter whose bytes lie above a bound. -/
import Derived.Test.YtilmmohkdgmhnaaFrameS
import Derived.Test.YtilmmohkdgmhnaaMem8
namespace Go.Proofs.Ytilmmohkdgmhnaa
open Go.RowKit
set_option maxRecDepth 100000
set_option linter.unusedVariables false
/-- values in rows of their own, no two in one row -/
def Apart (us : List Value) : Prop := ∀ i j, i < us.length → j < us.length → i ≠ j → ∀ b, (us.getD i undef).ownBlock = some b → (us.getD j undef).ownBlock ≠ some b
theorem Apart.nil : Apart [] := fun i j hi => absurd hi (by simp)
theorem Apart.app {us vs : List Value} (h : Apart us) (k : Apart vs) (hx : ∀ i j, i < us.length → j < vs.length → ∀ b, (us.getD i undef).ownBlock = some b → (vs.getD j undef).ownBlock ≠ some b) : Apart (us ++ vs) := by
  have e1 : ∀ i, i < us.length → (us ++ vs).getD i undef = us.getD i undef := fun i hi => by rw [List.getD_eq_getElem?_getD, List.getElem?_append_left hi, List.getD_eq_getElem?_getD]
  have e2 : ∀ i, ¬ i < us.length → (us ++ vs).getD i undef = vs.getD (i - us.length) undef := fun i hi => by rw [List.getD_eq_getElem?_getD, List.getElem?_append_right (by omega), List.getD_eq_getElem?_getD]
  intro i j hi hj hij b hb
  rw [List.length_append] at hi hj
  by_cases h1 : i < us.length
  · rw [e1 i h1] at hb
    by_cases h2 : j < us.length
    · rw [e1 j h2]; exact h i j h1 h2 hij b hb
    · rw [e2 j h2]; exact hx i _ h1 (by omega) b hb
  · rw [e2 i h1] at hb
    by_cases h2 : j < us.length
    · rw [e1 j h2]; exact fun h3 => hx j _ h2 (by omega) b h3 hb
    · rw [e2 j h2]; exact k _ _ (by omega) (by omega) (by omega) b hb
def FrA (W : World) (base : Nat) (eF e8 : TypeId) (lv : Value) (fs : List (Int × List Int)) : Prop :=
  ∃ us : List Value, us.length = fs.length ∧ W.ownsRow base eF 2 lv fs.length (frCells fs us) ∧ (∀ i, i < fs.length → Own W base e8 (us.getD i undef) (fs.getD i (0, [])).2) ∧ Apart us
theorem FrA.l {W : World} {base : Nat} {eF e8 : TypeId} {lv : Value} {fs : List (Int × List Int)} (h : FrA W base eF e8 lv fs) : FrL W base eF e8 lv fs := by
  obtain ⟨us, h1, h2, h3, _⟩ := h
  exact ⟨us, h1, h2, h3⟩
theorem FrA.nil (W : World) (base : Nat) (eF e8 : TypeId) : FrA W base eF e8 (.slice none 0 0) [] := ⟨[], rfl, World.ownsRow_nil W base eF 2, fun i hi => absurd hi (by simp), Apart.nil⟩
theorem FrA.keep {w w1 : World} {base : Nat} {eF e8 : TypeId} {lv : Value} {fs : List (Int × List Int)} (h : FrA w base eF e8 lv fs) (hb : Below w.heap.size w w1) : FrA w1 base eF e8 lv fs := by
  obtain ⟨us, h1, h2, h3, h4⟩ := h
  exact ⟨us, h1, row_keep h2 hb, fun i hi => (h3 i hi).keep hb, h4⟩
theorem FrA.boxed {w w1 : World} {base g : Nat} {eF e8 t : TypeId} {lv : Value} {fs : List (Int × List Int)} {cs : Array Value} (h : FrA w base eF e8 lv fs) (hb : Box w g t cs) (hg : w.grownBy w1 (some g)) (hF : eF ≠ t) (h8 : e8 ≠ t) : FrA w1 base eF e8 lv fs := by
  obtain ⟨us, h1, h2, h3, h4⟩ := h
  exact ⟨us, h1, h2.kept hg (own_ne h2 hb hF), fun i hi => (h3 i hi).kept hg (own_ne (h3 i hi).2 hb h8), h4⟩
theorem FrA.len {W : World} {base : Nat} {eF e8 : TypeId} {lv : Value} {fs : List (Int × List Int)} (h : FrA W base eF e8 lv fs) : ∃ A c, lv = .slice A fs.length c := h.l.len
theorem FrA.base {W : World} {base base' : Nat} {eF e8 : TypeId} {lv : Value} {fs : List (Int × List Int)} (h : FrA W base eF e8 lv fs) (hb : base' ≤ base) : FrA W base' eF e8 lv fs := by
  obtain ⟨us, h1, h2, h3, h4⟩ := h
  refine ⟨us, h1, row_base h2 hb, fun i hi => ?_, h4⟩
  have := h3 i hi
  exact ⟨this.1, row_base this.2 hb⟩
/-- a list and bytes beside it, all in rows of their own -/
def FrA1 (W : World) (base : Nat) (eF e8 : TypeId) (lv : Value) (fs : List (Int × List Int)) (u : Value) (xs : List Int) : Prop :=
  ∃ us : List Value, us.length = fs.length ∧ W.ownsRow base eF 2 lv fs.length (frCells fs us) ∧ (∀ i, i < fs.length → Own W base e8 (us.getD i undef) (fs.getD i (0, [])).2) ∧ Apart (us ++ [u]) ∧ Own W base e8 u xs
theorem FrA.fresh {w1 w2 : World} {base : Nat} {eF e8 : TypeId} {lv u : Value} {fs : List (Int × List Int)} {xs : List Int} (h : FrA w1 base eF e8 lv fs) (hb : Below w1.heap.size w1 w2) (hO : Own w2 w1.heap.size e8 u xs) (hbs : base ≤ w1.heap.size) : FrA1 w2 base eF e8 lv fs u xs := by
  obtain ⟨us, h1, h2, h3, h4⟩ := h
  refine ⟨us, h1, row_keep h2 hb, fun i hi => (h3 i hi).keep hb, h4.app (fun i j hi hj hij => ?_) (fun i j hi hj b h5 h6 => ?_), own_base hO hbs⟩
  · simp only [List.length_singleton] at hi hj; omega
  · simp only [List.length_singleton] at hj
    obtain rfl : j = 0 := by omega
    have := (h3 i (by omega)).2.lt b h5
    have := hO.2.lt b h6
    omega
theorem FrA1.keep {w w1 : World} {base : Nat} {eF e8 : TypeId} {lv u : Value} {fs : List (Int × List Int)} {xs : List Int} (h : FrA1 w base eF e8 lv fs u xs) (hb : Below w.heap.size w w1) : FrA1 w1 base eF e8 lv fs u xs := by
  obtain ⟨us, h1, h2, h3, h4, h5⟩ := h
  exact ⟨us, h1, row_keep h2 hb, fun i hi => (h3 i hi).keep hb, h4, h5.keep hb⟩
theorem FrA1.row {w : World} {base : Nat} {eF e8 : TypeId} {lv u : Value} {fs : List (Int × List Int)} {xs : List Int} (h : FrA1 w base eF e8 lv fs u xs) : ∃ xs, w.ownsRow base eF 2 lv fs.length xs := by
  obtain ⟨us, h1, h2, _⟩ := h
  exact ⟨_, h2⟩
/-- two lists, all bodies apart -/
def FrA2 (W : World) (base : Nat) (eF e8 : TypeId) (lv : Value) (fs : List (Int × List Int)) (lu : Value) (gs : List (Int × List Int)) : Prop :=
  ∃ us vs : List Value, us.length = fs.length ∧ vs.length = gs.length ∧ W.ownsRow base eF 2 lv fs.length (frCells fs us) ∧ W.ownsRow base eF 2 lu gs.length (frCells gs vs) ∧ (∀ i, i < fs.length → Own W base e8 (us.getD i undef) (fs.getD i (0, [])).2) ∧ (∀ i, i < gs.length → Own W base e8 (vs.getD i undef) (gs.getD i (0, [])).2) ∧ Apart (us ++ vs)
theorem FrA.pair {w1 w2 : World} {base g : Nat} {eF e8 t : TypeId} {lv lu : Value} {fs gs : List (Int × List Int)} {cs : Array Value} (h : FrA w1 base eF e8 lv fs) (hb : Box w1 g t cs) (hg : w1.grownBy w2 (some g)) (hF : eF ≠ t) (h8 : e8 ≠ t) (k : FrA w2 w1.heap.size eF e8 lu gs) (hbs : base ≤ w1.heap.size) : FrA2 w2 base eF e8 lv fs lu gs := by
  have hlt : ∀ us : List Value, us.length = fs.length → (∀ i, i < fs.length → Own w1 base e8 (us.getD i undef) (fs.getD i (0, [])).2) → ∀ i, i < us.length → ∀ b, (us.getD i undef).ownBlock = some b → b < w1.heap.size := fun us e hx i hi b hb => ((hx i (by omega)).2.lt b hb).2
  obtain ⟨us, h1, h2, h3, h4⟩ := h
  obtain ⟨vs, k1, k2, k3, k4⟩ := k
  refine ⟨us, vs, h1, k1, h2.kept hg (own_ne h2 hb hF), row_base k2 hbs, fun i hi => (h3 i hi).kept hg (own_ne (h3 i hi).2 hb h8), fun i hi => own_base (k3 i hi) hbs, h4.app k4 fun i j hi hj b h5 h6 => ?_⟩
  have := hlt us h1 h3 i hi b h5
  have := ((k3 j (by omega)).2.lt b h6).1
  omega
section
variable {P : Program} {ops : Array Oper} {rest : List Oper} {o : Oper} {a : Act} {Q : Exit → Act → World → Prop}
theorem app_frameA {w0 W : World} (base : Nat) (hgd : o.guard = none) (s x : Operand) (t e e8 : TypeId) (z : Value)
    (ho : o.op = .call { callee := .builtin .append, args := #[s, x], argTypes := #[t, t] })
    (ht : P.underlying t = some (.slice e)) (hinfo : (P.info? e).map (fun i => (i.zero, i.size, i.bytes)) = some (some z, 2, 32)) (hzs : z.cells.size = 2) (hne : e ≠ e8)
    (v y u : Value) (fs : List (Int × List Int)) (f : Int × List Int) (hs : a.eval s = v) (hx : a.eval x = y)
    (HF : FrA1 W base e e8 v fs u f.2) (HR : RdC 2 W y 1 [.int .i64 f.1, u]) (hu1 : u.oneCell' = true) (HB : Below base w0 W) (hbase : base ≤ W.heap.size) (hl : (fs.length + 1) * 32 ≤ 140737488355328)
    (h : ∀ v1 w1, FrA w1 base e e8 v1 (fs ++ [f]) → Below base w0 w1 → W.grownBy w1 v.ownBlock → (∀ b cur ty, W.heap[b]? = some (.cells cur ty (0, 0)) → e ≠ ty → some b ≠ v.ownBlock) → wpList P ops Q rest (a.put o.dst v1) w1) :
    wpList P ops Q (o :: rest) a W := by
  obtain ⟨us, h1, h2, h3, h4, HU⟩ := HF
  refine app_rd base hgd s x t e z 2 32 ho ht hinfo hzs (by omega) v y fs.length 1 (frCells fs us) [.int .i64 f.1, u] hs hx h2 HR (fun w hw => ?_) hbase (by omega) hl ?_
  · simp only [List.mem_cons, List.not_mem_nil, or_false] at hw
    rcases hw with rfl | rfl
    · rfl
    · exact hu1
  intro v1 w1 k1 k2 k3
  refine h v1 w1 ⟨us ++ [u], by simp [h1], ?_, fun i hi => ?_, h4⟩ (HB.grown k2 hbase fun k hk => (h2.lt k hk).1) k2 (fun b cur ty hb hn => kind_ne h2 hb hn)
  · rw [frCells_append fs us f u h1, List.length_append]
    exact k1
  · have hnb : ∀ {v' : Value} {xs : List Int}, Own W base e8 v' xs → Own w1 base e8 v' xs := fun ho => ho.kept k2 (own_types ho.2 h2 (fun e => hne e.symm))
    rw [List.length_append, List.length_singleton] at hi
    by_cases hlt : i < fs.length
    · rw [getD_left (by omega), getD_left hlt]
      exact hnb (h3 i hlt)
    · obtain rfl : i = fs.length := by omega
      rw [getD_mid h1.symm, getD_mid rfl]
      exact hnb HU
theorem app_framesA {w0 W : World} (base : Nat) (hgd : o.guard = none) (s x : Operand) (t e e8 : TypeId) (z : Value)
    (ho : o.op = .call { callee := .builtin .append, args := #[s, x], argTypes := #[t, t] })
    (ht : P.underlying t = some (.slice e)) (hinfo : (P.info? e).map (fun i => (i.zero, i.size, i.bytes)) = some (some z, 2, 32)) (hzs : z.cells.size = 2) (hne : e ≠ e8)
    (v y : Value) (fs gs : List (Int × List Int)) (hs : a.eval s = v) (hx : a.eval x = y)
    (HF : FrA2 W base e e8 v fs y gs) (HB : Below base w0 W) (hbase : base ≤ W.heap.size) (hl : (fs.length + gs.length) * 32 ≤ 140737488355328)
    (h : ∀ v1 w1, FrA w1 base e e8 v1 (fs ++ gs) → Below base w0 w1 → W.grownBy w1 v.ownBlock → (∀ b cur ty, W.heap[b]? = some (.cells cur ty (0, 0)) → e ≠ ty → some b ≠ v.ownBlock) → wpList P ops Q rest (a.put o.dst v1) w1) :
    wpList P ops Q (o :: rest) a W := by
  obtain ⟨us, vs, h1, g1, h2, g2, h3, g3, h4⟩ := HF
  refine app_rd base hgd s x t e z 2 32 ho ht hinfo hzs (by omega) v y fs.length gs.length (frCells fs us) (frCells gs vs) hs hx h2 (RdC.own g2) (frCells_one gs vs g1 g3) hbase (by omega) hl ?_
  intro v1 w1 k1 k2 k3
  have hnb : ∀ {v' : Value} {xs : List Int}, Own W base e8 v' xs → Own w1 base e8 v' xs := fun ho => ho.kept k2 (own_types ho.2 h2 (fun e => hne e.symm))
  refine h v1 w1 ⟨us ++ vs, by simp [h1, g1], ?_, fun i hi => ?_, h4⟩ (HB.grown k2 hbase fun k hk => (h2.lt k hk).1) k2 (fun b cur ty hb hn => kind_ne h2 hb hn)
  · rw [frCells_append2 fs gs us vs h1, List.length_append]
    exact k1
  · rw [List.length_append] at hi
    by_cases hlt : i < fs.length
    · rw [getD_left (by omega), getD_left hlt]
      exact hnb (h3 i hlt)
    · have e1 : (us ++ vs).getD i undef = vs.getD (i - fs.length) undef := by
        rw [List.getD_eq_getElem?_getD, List.getD_eq_getElem?_getD, List.getElem?_append_right (by omega), h1]
      have e2 : (fs ++ gs).getD i (0, []) = gs.getD (i - fs.length) (0, []) := by
        rw [List.getD_eq_getElem?_getD, List.getD_eq_getElem?_getD, List.getElem?_append_right (by omega)]
      rw [e1, e2]
      exact hnb (g3 _ (by omega))
end
/-- a splitter that was made, its bytes above B -/
def SplB (B : Nat) (W : World) (g : Nat) (m : Int) (l : List Int) (j lo : Nat) : Prop :=
  ∃ v, Box W g 74 #[.bool true, .int .i64 m, v, .int .i64 (j : Int), .int .i64 (lo : Int)] ∧ RdB W B 5 v l
theorem SplB.keep {B : Nat} {w w1 : World} {g : Nat} {m : Int} {l : List Int} {j lo : Nat} (h : SplB B w g m l j lo) (hb : Below w.heap.size w w1) : SplB B w1 g m l j lo := by
  obtain ⟨v, h1, h2⟩ := h
  exact ⟨v, h1.keep hb, h2.keep hb⟩
theorem SplB.low {B : Nat} {w : World} {g : Nat} {m : Int} {l : List Int} {j lo : Nat} (h : SplB B w g m l j lo) : Spl w g m l j lo := by
  obtain ⟨v, h1, h2⟩ := h
  exact ⟨v, h1, h2.base (Nat.zero_le _)⟩
theorem SplB.base {B B' : Nat} {w : World} {g : Nat} {m : Int} {l : List Int} {j lo : Nat} (h : SplB B w g m l j lo) (hb : B' ≤ B) : SplB B' w g m l j lo := by
  obtain ⟨v, h1, h2⟩ := h
  exact ⟨v, h1, h2.base hb⟩
/-- an old row grows -/
theorem SplB.old {B : Nat} {w w1 : World} {g : Nat} {m : Int} {l : List Int} {j lo : Nat} {k : Option Nat} (h : SplB B w g m l j lo) (hg : w.grownBy w1 k) (h1 : some g ≠ k) (h2 : ∀ b, k = some b → b < B) : SplB B w1 g m l j lo := by
  obtain ⟨v, k1, k2⟩ := h
  obtain ⟨hr, A, n, c, hv, ha⟩ := k2
  subst hv
  refine ⟨_, k1.grown hg h1, ⟨hr.1, hr.2.1, ?_⟩, A, n, c, rfl, fun a e => ?_⟩
  · obtain ⟨A', c', hv', q1, q2, q3, q4⟩ := hr.2.2
    refine ⟨A', c', hv', q1, q2, q3, fun i hi => ?_⟩
    obtain ⟨b, off, e1, e2⟩ := q4 i hi
    refine ⟨b, off, e1, ?_⟩
    injection hv' with e3
    subst e3
    rw [List.getElem?_eq_getElem hi] at e2 ⊢
    exact cell_grown hg e2 (fun e4 => by
      have h5 := h2 _ e4.symm
      have h6 := (ha _ e1).1
      have h7 : b ≤ b := Nat.le_refl _
      exact absurd (show b < B from h5) (by have : B ≤ b := h6; omega))
  · obtain ⟨e1, cur, e2⟩ := ha a e
    exact ⟨e1, cur, (hg.block a.block (Array.getElem?_eq_some_iff.1 e2).1 (fun e4 => by have := h2 _ e4.symm; omega)).trans e2⟩
end Go.Proofs.Ytilmmohkdgmhnaa
