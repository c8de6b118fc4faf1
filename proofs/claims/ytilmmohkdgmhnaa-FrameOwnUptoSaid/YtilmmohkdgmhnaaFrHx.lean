/- A splitter once more, its bytes above a bound, its bodies apart: merged out of FrameHa, FrameHb. -/
import Derived.Test.YtilmmohkdgmhnaaFrameS
import Derived.Test.YtilmmohkdgmhnaaMem8
import Derived.Test.YtilmmohkdgmhnaaFrameV
namespace Go.Proofs.Ytilmmohkdgmhnaa
open Go.RowKit
set_option maxRecDepth 100000
set_option linter.unusedVariables false
/-- values in rows of their own, no two in one row -/
def Apart (us : List Value) : Prop := ∀ i j, i < us.length → j < us.length → i ≠ j → ∀ b, (us.getD i undef).ownBlock = some b → (us.getD j undef).ownBlock ≠ some b
theorem Apart.nil : Apart [] := fun i j hi => absurd hi (by simp)
theorem Apart.app {us vs : List Value} (h : Apart us) (k : Apart vs) (hx : ∀ i j, i < us.length → j < vs.length → ∀ b, (us.getD i undef).ownBlock = some b → (vs.getD j undef).ownBlock ≠ some b) : Apart (us ++ vs) := by
  have e1 : ∀ i, i < us.length → (us ++ vs).getD i undef = us.getD i undef := fun i hi => by rw [List.getD_eq_getElem?_getD, List.getElem?_append_left hi, List.getD_eq_getElem?_getD]
  have e2 : ∀ i, ¬ i < us.length → (us ++ vs).getD i undef = vs.getD (i - us.length) undef := fun i hi => by rw [List.getD_eq_getElem?_getD, List.getElem?_append_right (by omega), List.getD_eq_getElem?_getD]
  intro i j hi hj hij b hb
  rw [List.length_append] at hi hj
  by_cases h1 : i < us.length
  · rw [e1 i h1] at hb
    by_cases h2 : j < us.length
    · rw [e1 j h2]; exact h i j h1 h2 hij b hb
    · rw [e2 j h2]; exact hx i _ h1 (by omega) b hb
  · rw [e2 i h1] at hb
    by_cases h2 : j < us.length
    · rw [e1 j h2]; exact fun h3 => hx j _ h2 (by omega) b h3 hb
    · rw [e2 j h2]; exact k _ _ (by omega) (by omega) (by omega) b hb
def FrA (W : World) (base : Nat) (eF e8 : TypeId) (lv : Value) (fs : List (Int × List Int)) : Prop :=
  ∃ us : List Value, us.length = fs.length ∧ W.ownsRow base eF 2 lv fs.length (frCells fs us) ∧ (∀ i, i < fs.length → Own W base e8 (us.getD i undef) (fs.getD i (0, [])).2) ∧ Apart us
theorem FrA.l {W : World} {base : Nat} {eF e8 : TypeId} {lv : Value} {fs : List (Int × List Int)} (h : FrA W base eF e8 lv fs) : FrL W base eF e8 lv fs := by
  obtain ⟨us, h1, h2, h3, _⟩ := h
  exact ⟨us, h1, h2, h3⟩
theorem FrA.nil (W : World) (base : Nat) (eF e8 : TypeId) : FrA W base eF e8 (.slice none 0 0) [] := ⟨[], rfl, World.ownsRow_nil W base eF 2, fun i hi => absurd hi (by simp), Apart.nil⟩
theorem FrA.keep {w w1 : World} {base : Nat} {eF e8 : TypeId} {lv : Value} {fs : List (Int × List Int)} (h : FrA w base eF e8 lv fs) (hb : Below w.heap.size w w1) : FrA w1 base eF e8 lv fs := by
  obtain ⟨us, h1, h2, h3, h4⟩ := h
  exact ⟨us, h1, row_keep h2 hb, fun i hi => (h3 i hi).keep hb, h4⟩
theorem FrA.boxed {w w1 : World} {base g : Nat} {eF e8 t : TypeId} {lv : Value} {fs : List (Int × List Int)} {cs : Array Value} (h : FrA w base eF e8 lv fs) (hb : Box w g t cs) (hg : w.grownBy w1 (some g)) (hF : eF ≠ t) (h8 : e8 ≠ t) : FrA w1 base eF e8 lv fs := by
  obtain ⟨us, h1, h2, h3, h4⟩ := h
  exact ⟨us, h1, h2.kept hg (own_ne h2 hb hF), fun i hi => (h3 i hi).kept hg (own_ne (h3 i hi).2 hb h8), h4⟩
theorem FrA.len {W : World} {base : Nat} {eF e8 : TypeId} {lv : Value} {fs : List (Int × List Int)} (h : FrA W base eF e8 lv fs) : ∃ A c, lv = .slice A fs.length c := h.l.len
theorem FrA.base {W : World} {base base' : Nat} {eF e8 : TypeId} {lv : Value} {fs : List (Int × List Int)} (h : FrA W base eF e8 lv fs) (hb : base' ≤ base) : FrA W base' eF e8 lv fs := by
  obtain ⟨us, h1, h2, h3, h4⟩ := h
  refine ⟨us, h1, row_base h2 hb, fun i hi => ?_, h4⟩
  have := h3 i hi
  exact ⟨this.1, row_base this.2 hb⟩
/-- a list and bytes beside it, all in rows of their own -/
def FrA1 (W : World) (base : Nat) (eF e8 : TypeId) (lv : Value) (fs : List (Int × List Int)) (u : Value) (xs : List Int) : Prop :=
  ∃ us : List Value, us.length = fs.length ∧ W.ownsRow base eF 2 lv fs.length (frCells fs us) ∧ (∀ i, i < fs.length → Own W base e8 (us.getD i undef) (fs.getD i (0, [])).2) ∧ Apart (us ++ [u]) ∧ Own W base e8 u xs
theorem FrA.fresh {w1 w2 : World} {base : Nat} {eF e8 : TypeId} {lv u : Value} {fs : List (Int × List Int)} {xs : List Int} (h : FrA w1 base eF e8 lv fs) (hb : Below w1.heap.size w1 w2) (hO : Own w2 w1.heap.size e8 u xs) (hbs : base ≤ w1.heap.size) : FrA1 w2 base eF e8 lv fs u xs := by
  obtain ⟨us, h1, h2, h3, h4⟩ := h
  refine ⟨us, h1, row_keep h2 hb, fun i hi => (h3 i hi).keep hb, h4.app (fun i j hi hj hij => ?_) (fun i j hi hj b h5 h6 => ?_), own_base hO hbs⟩
  · simp only [List.length_singleton] at hi hj; omega
  · simp only [List.length_singleton] at hj
    obtain rfl : j = 0 := by omega
    have := (h3 i (by omega)).2.lt b h5
    have := hO.2.lt b h6
    omega
theorem FrA1.keep {w w1 : World} {base : Nat} {eF e8 : TypeId} {lv u : Value} {fs : List (Int × List Int)} {xs : List Int} (h : FrA1 w base eF e8 lv fs u xs) (hb : Below w.heap.size w w1) : FrA1 w1 base eF e8 lv fs u xs := by
  obtain ⟨us, h1, h2, h3, h4, h5⟩ := h
  exact ⟨us, h1, row_keep h2 hb, fun i hi => (h3 i hi).keep hb, h4, h5.keep hb⟩
theorem FrA1.row {w : World} {base : Nat} {eF e8 : TypeId} {lv u : Value} {fs : List (Int × List Int)} {xs : List Int} (h : FrA1 w base eF e8 lv fs u xs) : ∃ xs, w.ownsRow base eF 2 lv fs.length xs := by
  obtain ⟨us, h1, h2, _⟩ := h
  exact ⟨_, h2⟩
/-- two lists, all bodies apart -/
def FrA2 (W : World) (base : Nat) (eF e8 : TypeId) (lv : Value) (fs : List (Int × List Int)) (lu : Value) (gs : List (Int × List Int)) : Prop :=
  ∃ us vs : List Value, us.length = fs.length ∧ vs.length = gs.length ∧ W.ownsRow base eF 2 lv fs.length (frCells fs us) ∧ W.ownsRow base eF 2 lu gs.length (frCells gs vs) ∧ (∀ i, i < fs.length → Own W base e8 (us.getD i undef) (fs.getD i (0, [])).2) ∧ (∀ i, i < gs.length → Own W base e8 (vs.getD i undef) (gs.getD i (0, [])).2) ∧ Apart (us ++ vs)
theorem FrA.pair {w1 w2 : World} {base g : Nat} {eF e8 t : TypeId} {lv lu : Value} {fs gs : List (Int × List Int)} {cs : Array Value} (h : FrA w1 base eF e8 lv fs) (hb : Box w1 g t cs) (hg : w1.grownBy w2 (some g)) (hF : eF ≠ t) (h8 : e8 ≠ t) (k : FrA w2 w1.heap.size eF e8 lu gs) (hbs : base ≤ w1.heap.size) : FrA2 w2 base eF e8 lv fs lu gs := by
  have hlt : ∀ us : List Value, us.length = fs.length → (∀ i, i < fs.length → Own w1 base e8 (us.getD i undef) (fs.getD i (0, [])).2) → ∀ i, i < us.length → ∀ b, (us.getD i undef).ownBlock = some b → b < w1.heap.size := fun us e hx i hi b hb => ((hx i (by omega)).2.lt b hb).2
  obtain ⟨us, h1, h2, h3, h4⟩ := h
  obtain ⟨vs, k1, k2, k3, k4⟩ := k
  refine ⟨us, vs, h1, k1, h2.kept hg (own_ne h2 hb hF), row_base k2 hbs, fun i hi => (h3 i hi).kept hg (own_ne (h3 i hi).2 hb h8), fun i hi => own_base (k3 i hi) hbs, h4.app k4 fun i j hi hj b h5 h6 => ?_⟩
  have := hlt us h1 h3 i hi b h5
  have := ((k3 j (by omega)).2.lt b h6).1
  omega
section
variable {P : Program} {ops : Array Oper} {rest : List Oper} {o : Oper} {a : Act} {Q : Exit → Act → World → Prop}
theorem app_frameA {w0 W : World} (base : Nat) (hgd : o.guard = none) (s x : Operand) (t e e8 : TypeId) (z : Value)
    (ho : o.op = .call { callee := .builtin .append, args := #[s, x], argTypes := #[t, t] })
    (ht : P.underlying t = some (.slice e)) (hinfo : (P.info? e).map (fun i => (i.zero, i.size, i.bytes)) = some (some z, 2, 32)) (hzs : z.cells.size = 2) (hne : e ≠ e8)
    (v y u : Value) (fs : List (Int × List Int)) (f : Int × List Int) (hs : a.eval s = v) (hx : a.eval x = y)
    (HF : FrA1 W base e e8 v fs u f.2) (HR : RdC 2 W y 1 [.int .i64 f.1, u]) (hu1 : u.oneCell' = true) (HB : Below base w0 W) (hbase : base ≤ W.heap.size) (hl : (fs.length + 1) * 32 ≤ 140737488355328)
    (h : ∀ v1 w1, FrA w1 base e e8 v1 (fs ++ [f]) → Below base w0 w1 → W.grownBy w1 v.ownBlock → (∀ b cur ty, W.heap[b]? = some (.cells cur ty (0, 0)) → e ≠ ty → some b ≠ v.ownBlock) → wpList P ops Q rest (a.put o.dst v1) w1) :
    wpList P ops Q (o :: rest) a W := by
  obtain ⟨us, h1, h2, h3, h4, HU⟩ := HF
  refine app_rd base hgd s x t e z 2 32 ho ht hinfo hzs (by omega) v y fs.length 1 (frCells fs us) [.int .i64 f.1, u] hs hx h2 HR (fun w hw => ?_) hbase (by omega) hl ?_
  · simp only [List.mem_cons, List.not_mem_nil, or_false] at hw
    rcases hw with rfl | rfl
    · rfl
    · exact hu1
  intro v1 w1 k1 k2 k3
  refine h v1 w1 ⟨us ++ [u], by simp [h1], ?_, fun i hi => ?_, h4⟩ (HB.grown k2 hbase fun k hk => (h2.lt k hk).1) k2 (fun b cur ty hb hn => kind_ne h2 hb hn)
  · rw [frCells_append fs us f u h1, List.length_append]
    exact k1
  · have hnb : ∀ {v' : Value} {xs : List Int}, Own W base e8 v' xs → Own w1 base e8 v' xs := fun ho => ho.kept k2 (own_types ho.2 h2 (fun e => hne e.symm))
    rw [List.length_append, List.length_singleton] at hi
    by_cases hlt : i < fs.length
    · rw [getD_left (by omega), getD_left hlt]
      exact hnb (h3 i hlt)
    · obtain rfl : i = fs.length := by omega
      rw [getD_mid h1.symm, getD_mid rfl]
      exact hnb HU
theorem app_framesA {w0 W : World} (base : Nat) (hgd : o.guard = none) (s x : Operand) (t e e8 : TypeId) (z : Value)
    (ho : o.op = .call { callee := .builtin .append, args := #[s, x], argTypes := #[t, t] })
    (ht : P.underlying t = some (.slice e)) (hinfo : (P.info? e).map (fun i => (i.zero, i.size, i.bytes)) = some (some z, 2, 32)) (hzs : z.cells.size = 2) (hne : e ≠ e8)
    (v y : Value) (fs gs : List (Int × List Int)) (hs : a.eval s = v) (hx : a.eval x = y)
    (HF : FrA2 W base e e8 v fs y gs) (HB : Below base w0 W) (hbase : base ≤ W.heap.size) (hl : (fs.length + gs.length) * 32 ≤ 140737488355328)
    (h : ∀ v1 w1, FrA w1 base e e8 v1 (fs ++ gs) → Below base w0 w1 → W.grownBy w1 v.ownBlock → (∀ b cur ty, W.heap[b]? = some (.cells cur ty (0, 0)) → e ≠ ty → some b ≠ v.ownBlock) → wpList P ops Q rest (a.put o.dst v1) w1) :
    wpList P ops Q (o :: rest) a W := by
  obtain ⟨us, vs, h1, g1, h2, g2, h3, g3, h4⟩ := HF
  refine app_rd base hgd s x t e z 2 32 ho ht hinfo hzs (by omega) v y fs.length gs.length (frCells fs us) (frCells gs vs) hs hx h2 (RdC.own g2) (frCells_one gs vs g1 g3) hbase (by omega) hl ?_
  intro v1 w1 k1 k2 k3
  have hnb : ∀ {v' : Value} {xs : List Int}, Own W base e8 v' xs → Own w1 base e8 v' xs := fun ho => ho.kept k2 (own_types ho.2 h2 (fun e => hne e.symm))
  refine h v1 w1 ⟨us ++ vs, by simp [h1, g1], ?_, fun i hi => ?_, h4⟩ (HB.grown k2 hbase fun k hk => (h2.lt k hk).1) k2 (fun b cur ty hb hn => kind_ne h2 hb hn)
  · rw [frCells_append2 fs gs us vs h1, List.length_append]
    exact k1
  · rw [List.length_append] at hi
    by_cases hlt : i < fs.length
    · rw [getD_left (by omega), getD_left hlt]
      exact hnb (h3 i hlt)
    · have e1 : (us ++ vs).getD i undef = vs.getD (i - fs.length) undef := by
        rw [List.getD_eq_getElem?_getD, List.getD_eq_getElem?_getD, List.getElem?_append_right (by omega), h1]
      have e2 : (fs ++ gs).getD i (0, []) = gs.getD (i - fs.length) (0, []) := by
        rw [List.getD_eq_getElem?_getD, List.getD_eq_getElem?_getD, List.getElem?_append_right (by omega)]
      rw [e1, e2]
      exact hnb (g3 _ (by omega))
end
/-- a splitter that was made, its bytes above B -/
def SplB (B : Nat) (W : World) (g : Nat) (m : Int) (l : List Int) (j lo : Nat) : Prop :=
  ∃ v, Box W g 74 #[.bool true, .int .i64 m, v, .int .i64 (j : Int), .int .i64 (lo : Int)] ∧ RdB W B 5 v l
theorem SplB.keep {B : Nat} {w w1 : World} {g : Nat} {m : Int} {l : List Int} {j lo : Nat} (h : SplB B w g m l j lo) (hb : Below w.heap.size w w1) : SplB B w1 g m l j lo := by
  obtain ⟨v, h1, h2⟩ := h
  exact ⟨v, h1.keep hb, h2.keep hb⟩
theorem SplB.low {B : Nat} {w : World} {g : Nat} {m : Int} {l : List Int} {j lo : Nat} (h : SplB B w g m l j lo) : Spl w g m l j lo := by
  obtain ⟨v, h1, h2⟩ := h
  exact ⟨v, h1, h2.base (Nat.zero_le _)⟩
theorem SplB.base {B B' : Nat} {w : World} {g : Nat} {m : Int} {l : List Int} {j lo : Nat} (h : SplB B w g m l j lo) (hb : B' ≤ B) : SplB B' w g m l j lo := by
  obtain ⟨v, h1, h2⟩ := h
  exact ⟨v, h1, h2.base hb⟩
/-- an old row grows -/
theorem SplB.old {B : Nat} {w w1 : World} {g : Nat} {m : Int} {l : List Int} {j lo : Nat} {k : Option Nat} (h : SplB B w g m l j lo) (hg : w.grownBy w1 k) (h1 : some g ≠ k) (h2 : ∀ b, k = some b → b < B) : SplB B w1 g m l j lo := by
  obtain ⟨v, k1, k2⟩ := h
  obtain ⟨hr, A, n, c, hv, ha⟩ := k2
  subst hv
  refine ⟨_, k1.grown hg h1, ⟨hr.1, hr.2.1, ?_⟩, A, n, c, rfl, fun a e => ?_⟩
  · obtain ⟨A', c', hv', q1, q2, q3, q4⟩ := hr.2.2
    refine ⟨A', c', hv', q1, q2, q3, fun i hi => ?_⟩
    obtain ⟨b, off, e1, e2⟩ := q4 i hi
    refine ⟨b, off, e1, ?_⟩
    injection hv' with e3
    subst e3
    rw [List.getElem?_eq_getElem hi] at e2 ⊢
    exact cell_grown hg e2 (fun e4 => by
      have h5 := h2 _ e4.symm
      have h6 := (ha _ e1).1
      have h7 : b ≤ b := Nat.le_refl _
      exact absurd (show b < B from h5) (by have : B ≤ b := h6; omega))
  · obtain ⟨e1, cur, e2⟩ := ha a e
    exact ⟨e1, cur, (hg.block a.block (Array.getElem?_eq_some_iff.1 e2).1 (fun e4 => by have := h2 _ e4.symm; omega)).trans e2⟩
theorem skip_anyB (B : Nat) (g : Nat) (m : Int) (l : List Int) (j lo : Nat) (lv : Value) (fs : List (Int × List Int)) (w0 w : World) (HS : SplB B w g m l j lo) (HF : FrA w w0.heap.size 28 5 lv fs) (hl : 1 ≤ l.length) (hj : j < 4611686018427387904) (HB : w0.grownBy w (some g)) :
    Calls Try.prog 70 #[.pointer (some ⟨g, 0, none⟩), lv] w fun e w' => e = .returned lv ∧ SplB B w' g m (l.drop 1) (j + 1) lo ∧ FrA w' w0.heap.size 28 5 lv fs ∧ w0.grownBy w' (some g) ∧ Kp w w' := by
  obtain ⟨v, hbx, HR⟩ := HS
  obtain ⟨u, hs, hR2⟩ := HR.sl_l Try.underlying24 info8 1 hl
  have hs : ∀ (W : World), Sem.run Try.prog (Instr.slice 24 v (some (Value.int IntKind.i64 1)) none none) W = Result.ok u W := hs
  have q2 := hbx.cell 2 rfl
  have q3 := hbx.cell 3 rfl
  have z2 := hbx.frozen 2
  have z3 := hbx.frozen 3
  obtain ⟨A, c, rfl⟩ := hR2.len
  generalize l.drop 1 = l1 at *
  obtain ⟨b1, g1⟩ := hbx.put 3 (.int .i64 ((j : Int) + 1))
  obtain ⟨b2, g2⟩ := b1.put 2 (.slice A l1.length c)
  have HF1 := (HF.boxed hbx g1 (by decide) (by decide)).boxed b1 g2 (by decide) (by decide)
  have HR1 := (hR2.grown g1 (box_kind hbx (by decide))).grown g2 (box_kind b1 (by decide))
  have HB1 := (HB.trans g1).trans g2
  have HK := hd_ ((Kp.box g1 hbx).trans (Kp.box g2 b1))
  have hq := b1.cell 2 rfl
  have HX : Hid (Box _ g 74 #[.bool true, .int .i64 m, .slice A l1.length c, .int .i64 ((j + 1 : Nat) : Int), .int .i64 (lo : Int)]) := hd_ b2
  have HHR := hd_ HR1
  have HHF := hd_ HF1
  have HHB := hd_ HB1
  clear HF HF1 HR1 HB1 HR hR2 hbx b1 b2 g1 g2 HB
  go_enter Try.func70, Try.ntmps70
  go_wp2
  go_ret
  exact ⟨rfl, ⟨_, HX.out, HHR.out⟩, HHF.out, HHB.out, HK.out⟩
theorem lose_anyB (B : Nat) (g : Nat) (m : Int) (l : List Int) (j lo : Nat) (lv : Value) (fs : List (Int × List Int)) (w0 w : World) (HS : SplB B w g m l j lo) (HF : FrA w w0.heap.size 28 5 lv fs) (hl : 1 ≤ l.length) (hj : j < 4611686018427387904) (hlo : lo < 4611686018427387904) (HB : w0.grownBy w (some g)) :
    Calls Try.prog 71 #[.pointer (some ⟨g, 0, none⟩), lv] w fun e w' => e = .returned lv ∧ SplB B w' g m (l.drop 1) (j + 1) (lo + 1) ∧ FrA w' w0.heap.size 28 5 lv fs ∧ w0.grownBy w' (some g) ∧ Kp w w' := by
  obtain ⟨v, hbx, HR⟩ := HS
  have q4 := hbx.cell 4 rfl
  have z4 := hbx.frozen 4
  obtain ⟨b1, g1⟩ := hbx.put 4 (.int .i64 ((lo : Int) + 1))
  have b1 : Box _ g 74 #[.bool true, .int .i64 m, v, .int .i64 (j : Int), .int .i64 ((lo + 1 : Nat) : Int)] := b1
  have HF1 := HF.boxed hbx g1 (by decide) (by decide)
  have HR1 := HR.grown g1 (box_kind hbx (by decide))
  have HB1 := HB.trans g1
  have HK := hd_ (Kp.box g1 hbx)
  have HS1 : SplB B _ g m l j (lo + 1) := ⟨v, b1, HR1⟩
  clear HF HR hbx b1 g1 HB HR1
  go_enter Try.func71, Try.ntmps71
  go_wp2_with (go_at_call 70; refine (skip_anyB B g m l j (lo + 1) lv fs w0 _ HS1 HF1 hl hj HB1).mono ?_; rintro e w2 ⟨rfl, HS2, HF2, HB2, HK2⟩)
  go_ret
  exact ⟨rfl, HS2, HF2, HB2, HK.out.trans HK2⟩
set_option maxHeartbeats 1000000 in
theorem find_anyB (B : Nat) (g : Nat) (m : Int) (l : List Int) (j lo N : Nat) (lv : Value) (fs : List (Int × List Int)) (w0 w : World) (HS : SplB B w g m l j lo) (HF : FrA w w0.heap.size 28 5 lv fs) (hN : lenN l = (N : Int)) (hN1 : N ≤ 1048576) (hl : N + 14 ≤ l.length) (hfs : (fs.length + 1) * 32 ≤ 140737488355328) (HB : w0.grownBy w (some g)) :
    Calls Try.prog 72 #[.pointer (some ⟨g, 0, none⟩), lv] w fun e w' => ∃ lv1, e = .returned lv1 ∧ SplB B w' g m (l.drop (N + 14)) j lo ∧ FrA w' w0.heap.size 28 5 lv1 (fs ++ [(l.getD 2 0, (l.drop 10).take N)]) ∧ w0.grownBy w' (some g) ∧ Kp w w' := by
  obtain ⟨v, hbx, HR⟩ := HS
  have q2 := hbx.cell 2 rfl
  obtain ⟨u1, hs1, hR1⟩ := HR.1.sl_m Try.underlying24 info8 (N + 14) hl
  have hs1 : ∀ (W : World), Sem.run Try.prog (Instr.slice 24 v none (some (Value.int IntKind.i64 ((N : Int) + 14))) (some (Value.int IntKind.i64 ((N : Int) + 14)))) W = Result.ok u1 W := hs1
  have hTl : (l.take (N + 14)).length = N + 14 := by rw [List.length_take]; omega
  have HTL := hd_ hTl
  have hl6 : Hid (6 ≤ l.length) := hd_ (by omega)
  clear hTl
  obtain ⟨T, hT⟩ : ∃ T, (l.drop 10).take N = T := ⟨_, rfl⟩
  obtain ⟨K, hK⟩ : ∃ K, l.getD 2 0 = K := ⟨_, rfl⟩
  obtain ⟨l3, hl3⟩ : ∃ l3, l.drop (N + 14) = l3 := ⟨_, rfl⟩
  rw [hT, hK, hl3]
  have HT := hd_ hT
  have HK := hd_ hK
  have HL3 := hd_ hl3
  clear hT hK hl3
  go_enter Try.func72, Try.ntmps72
  go_upto_region 2 with (go_at_call 50; refine (frame_length_bel _ _ _ HR.1 hl6.out).mono ?_; rintro e w1 ⟨rfl, HB1⟩; rw [hN]; have q21 := cell_keep HB1 q2)
  go_wp2_with fail
  refine (frame_cut_any _ _ N _ (hR1.keep HB1) HTL.out hN1).mono ?_
  rintro e w2 ⟨v2, rfl, HO2, HB2⟩
  rw [take_getD2, HK.out]
  rw [take_drop_body, HT.out] at HO2
  have hb2 := (hbx.keep HB1).keep HB2
  have HR2 := (HR.keep HB1).keep HB2
  have hw2 := (bel_trans HB1 HB2)
  have HBB := grown_bel HB hw2
  obtain ⟨A2, c2, rfl, _⟩ := own_slice HO2
  have HFF := (HF.keep HB1).fresh HB2 HO2 (Nat.le_trans HB.size HB1.size)
  obtain ⟨u2, hs2, hR3⟩ := HR2.sl_l Try.underlying24 info8 (N + 14) hl
  have hs2 : ∀ (W : World), Sem.run Try.prog (Instr.slice 24 v (some (Value.int IntKind.i64 ((N : Int) + 14))) none none) W = Result.ok u2 W := hs2
  rw [HL3.out] at hR3
  obtain ⟨A3, c3, rfl⟩ := hR3.len
  have hal := al1 (Below.refl w2.heap.size w2) (.cells #[.int .i64 K, .slice A2 T.length c2] 28)
  have hpair := box_pair w2 (.int .i64 K) (.slice A2 T.length c2) 28
  have hb3 := hb2.keep hal
  have hR3' := hR3.keep hal
  have HF3 := HFF.keep hal
  have HB3 := grown_bel HBB hal
  have HK3 := (Kp.below hw2).trans (Kp.below hal)
  clear HF HR hbx HFF hR3 hb2 HO2 HBB HR2 hR1 HTL HB hw2
  go_upto_region 3 with (at_builtin; (refine app_frameA (w0 := w2.alloc (.cells #[.int .i64 K, .slice A2 T.length c2] 28)) w0.heap.size rfl _ _ 52 28 5 (.agg #[.int .i64 0, .slice none 0 0]) rfl Try.underlying52 infoFr rfl (by decide) lv _ (.slice A2 T.length c2) fs (K, T) rfl rfl HF3 hpair rfl (Below.refl _ _) HB3.size hfs ?_); intro v4 w4 HF4 HB4 hg4 hk4)
  have hb4 := hb3.grown hg4 (hk4 g _ _ hb3 (by decide))
  have HR4 := hR3'.grown hg4 (fun b cur hc => hk4 b cur _ hc (by decide))
  have hB4 : w0.grownBy w4 (some g) := by
    obtain ⟨us, h2⟩ := HF3.row
    exact grown_own HB3 h2 hg4
  have HK4 : Kp _ w4 := HK3.trans fun b t cs hb _ hn => hb.grown hg4 (hk4 b _ _ hb (fun e => hn e.symm))
  have p2 := hb4.cell 2 rfl
  have z2 := hb4.frozen 2
  obtain ⟨b5, g5⟩ := hb4.put 2 (.slice A3 l3.length c3)
  have HX : Hid (Box _ g 74 #[.bool true, .int .i64 m, .slice A3 l3.length c3, .int .i64 (j : Int), .int .i64 (lo : Int)]) := hd_ b5
  have HF5 := hd_ (HF4.boxed hb4 g5 (by decide) (by decide))
  have HR5 := hd_ (HR4.grown g5 (box_kind hb4 (by decide)))
  have HB5 := hd_ (hB4.trans g5)
  have HK5 := hd_ (HK4.trans (Kp.box g5 hb4))
  clear hb4 b5 HF4 HR4 HB4 g5 hk4 hg4 HF3 HB3 hR3' hb3 hB4 HK3 HK4
  go_wp2
  go_ret
  exact ⟨_, rfl, ⟨_, HX.out, HR5.out⟩, HF5.out, HB5.out, HK5.out⟩
def SplRetB (B : Nat) (w : World) (g : Nat) (m : Int) (R : List (Int × List Int) × List Int × Nat × Nat) (e : Ending) (w' : World) : Prop :=
  ∃ lv, e = .returned lv ∧ SplB B w' g m R.2.1 R.2.2.1 R.2.2.2 ∧ FrA w' w.heap.size 28 5 lv R.1 ∧ w.grownBy w' (some g)
set_option maxHeartbeats 2000000 in
theorem run_anyB (B : Nat) (g : Nat) (m : Int) (en : Bool) (l : List Int) (j lo : Nat) (w : World) (HS : SplB B w g m l j lo) (hm : m ≤ 1048576) (hl : l.length ≤ 35184372088832) (hj : j + l.length < 4611686018427387904) (hlo : lo + l.length < 4611686018427387904) :
    Calls Try.prog 58 #[.pointer (some ⟨g, 0, none⟩), .bool en] w (SplRetB B w g m (scanA m en l.length l [] j lo)) := by
  obtain ⟨R, hR⟩ : ∃ R, scanA m en l.length l [] j lo = R := ⟨_, rfl⟩
  rw [hR]
  have HR := hd_ hR
  clear hR
  go_enter Try.func58, Try.ntmps58
  go_wp2_with fail
  refine (steps_any _).mono ?_
  rintro e w1 ⟨rfl, HB1⟩
  have hB1a := al1 (Below.refl w1.heap.size w1) (.cells #[.nilFunc, .nilFunc, .nilFunc, .nilFunc] 100)
  have hbn := Box.new w1 #[.nilFunc, .nilFunc, .nilFunc, .nilFunc] 100
  have HS1 := (HS.keep HB1).keep hB1a
  have HBB : w.grownBy (w1.alloc (.cells #[.nilFunc, .nilFunc, .nilFunc, .nilFunc] 100)) (some g) := grown_below (bel_trans HB1 hB1a) _
  go_wp2_with (refine store_box rfl 100 _ _ rfl w1.heap.size 100 _ fnV rfl rfl hbn infoFn rfl fnV_one ?_; intro w2 hb2 hg2)
  have HS2 : SplB B w2 g m l j lo := by
    obtain ⟨v, k1, k2⟩ := HS1
    exact ⟨v, k1.grown hg2 (box_kind hbn (by decide) g _ k1), k2.grown hg2 (box_kind hbn (by decide))⟩
  have HB2 := grown_new HBB hg2 HB1.size
  have HF2 : FrA w2 w.heap.size 28 5 (.slice none 0 0) [] := FrA.nil _ _ _ _
  clear HS HS1 HBB hbn hB1a hg2 HB1
  generalize w1.heap.size = gd at *
  have hRR : Hid (scanA m en l.length l [] j lo = R) := HR
  clear HR
  go_frame
  go_loopw [5] (fun vl wr => ∃ (n : Nat) (l' : List Int) (fs : List (Int × List Int)) (j' lo' : Nat), SplB B wr g m l' j' lo' ∧ FrA wr w.heap.size 28 5 vl fs ∧ w.grownBy wr (some g) ∧ Box wr gd 100 fnV ∧ Hid (l'.length ≤ n ∧ scanA m en n l' fs j' lo' = R ∧ fs.length * 14 + l'.length ≤ 35184372088832 ∧ j' + l'.length < 4611686018427387904 ∧ lo' + l'.length < 4611686018427387904)) (fun _ wr => restLen wr g)
  case atStart => exact ⟨l.length, l, [], j, lo, HS2, HF2, HB2, hb2, hd_ ⟨Nat.le_refl _, hRR.out, by rw [List.length_nil]; omega, hj, hlo⟩⟩
  case round =>
    clear HS2 HF2 HB2 hb2 hRR hj hlo hl
    obtain ⟨n, l', fs, j', lo', HS, HF, HB, hb, HI⟩ := hrel
    obtain ⟨v, hbx, hRB⟩ := id HS
    have q2 : wr.cell? ⟨g, 2, none⟩ = some v := hbx.cell 2 rfl
    have hlen := hRB.1.2.len (P := Try.prog) 24 5 3 Try.underlying24
    clear hbx hRB
    by_cases h0 : l'.length = 0
    · have hRe : R = (fs, l', j', lo') := by
        have := HI.out.2.1
        rw [← this]
        cases n with
        | zero => rfl
        | succ n => rw [scanA, if_pos h0]
      have h0I : ¬ (0 : Int) < (l'.length : Int) := by omega
      have HRe := hd_ hRe
      clear hRe h0
      go_wp2
      go_ret
      rw [HRe.out]
      exact ⟨_, rfl, HS, HF, HB⟩
    · have hpos : (0 : Int) < (l'.length : Int) := by omega
      obtain ⟨n, rfl⟩ : ∃ n', n = n' + 1 := ⟨n - 1, by have := HI.out.1; omega⟩
      obtain ⟨i1, i2, i3, i4, i5⟩ := HI.out
      rw [scanA, if_neg h0] at i2
      have hl1 : Hid (1 ≤ l'.length) := hd_ (by omega)
      have hj1 : Hid (j' < 4611686018427387904) := hd_ (by omega)
      have hlo1 : Hid (lo' < 4611686018427387904) := hd_ (by omega)
      have hc4 := lookN_lt m l'
      have hc3 := fun h : lookN m l' = 3 => lookN_3 h
      obtain ⟨c, hc⟩ : ∃ c, lookN m l' = c := ⟨_, rfl⟩
      have hLA := look_any g m l' j' lo' wr HS.low
      rw [hc] at i2 hc4 hLA hc3
      have hdrop : (l'.drop 1).length + 1 = l'.length := by rw [List.length_drop]; omega
      have hSK : c ≠ 3 → c ≠ 2 → ¬ (c = 1 ∧ en = false) → ((l'.drop 1).length ≤ n ∧ scanA m en n (l'.drop 1) fs (j' + 1) lo' = R ∧ fs.length * 14 + (l'.drop 1).length ≤ 35184372088832 ∧ j' + 1 + (l'.drop 1).length < 4611686018427387904 ∧ lo' + (l'.drop 1).length < 4611686018427387904) := by
        intro a1 a2 a3
        rw [if_neg a1, if_neg a2, if_neg a3] at i2
        exact ⟨by omega, i2, by omega, by omega, by omega⟩
      have HSK := hSK
      have hLO : c = 2 → ((l'.drop 1).length ≤ n ∧ scanA m en n (l'.drop 1) fs (j' + 1) (lo' + 1) = R ∧ fs.length * 14 + (l'.drop 1).length ≤ 35184372088832 ∧ j' + 1 + (l'.drop 1).length < 4611686018427387904 ∧ lo' + 1 + (l'.drop 1).length < 4611686018427387904) := by
        intro a1
        rw [if_neg (by omega), if_pos a1] at i2
        exact ⟨by omega, i2, by omega, by omega, by omega⟩
      have hST : c = 1 ∧ en = false → R = (fs, l', j', lo') := by
        intro a1
        rw [if_neg (by omega), if_neg (by omega), if_pos a1] at i2
        exact i2.symm
      have hFI : c = 3 → scanA m en n (l'.drop ((lenN l').toNat + 14)) (fs ++ [(l'.getD 2 0, (l'.drop 10).take (lenN l').toNat)]) j' lo' = R := by
        intro a1
        rw [if_pos a1] at i2
        exact i2
      have HFI := hd_ (And.intro hFI (And.intro i1 (And.intro i3 (And.intro i4 i5))))
      have HLO := hd_ hLO
      have HST := hd_ hST
      have HC3 := hd_ hc3
      clear hc i1 i2 i3 i4 i5 hdrop hLO hST hFI hc3 hSK h0 HI
      go_upto_region 5 with (go_at_call 65; refine hLA.mono ?_; rintro e w3 ⟨rfl, HB3⟩)
      have HS3 := HS.keep HB3
      have HF3 := HF.keep HB3
      have HG3 := grown_bel HB HB3
      have hb3 := hb.keep HB3
      obtain ⟨f0, f1, f2, f3⟩ := fn_cell hb3
      clear hLA HF HB hb
      have hcc : c = 0 ∨ c = 1 ∨ c = 2 ∨ c = 3 := by omega
      rcases hcc with rfl | rfl | rfl | rfl
      · go_wp2_with (go_at_call 70; refine (skip_anyB B g m l' j' lo' u5 fs w _ HS3 HF3 hl1.out hj1.out HG3).mono ?_; rintro e w4 ⟨rfl, HS4, HF4, HG4, HK4⟩)
        go_roundw
        case rel => exact ⟨n, l'.drop 1, fs, j' + 1, lo', HS4, HF4, HG4, HK4 gd _ _ hb3 (by decide) (by decide), hd_ (HSK (by decide) (by decide) (by omega))⟩
        case measure => exact by have h1 := HS4.low.restLen; have h2 := HS.low.restLen; have h3 := hl1.out; rw [List.length_drop] at h1; show restLen w4 g < restLen wr g; omega
      · cases en
        · have hRe := HST.out ⟨rfl, rfl⟩
          have HRe := hd_ hRe
          clear hRe
          go_wp2
          go_ret
          rw [HRe.out]
          exact ⟨_, rfl, HS3, HF3, HG3⟩
        · go_wp2_with (go_at_call 70; refine (skip_anyB B g m l' j' lo' u5 fs w _ HS3 HF3 hl1.out hj1.out HG3).mono ?_; rintro e w4 ⟨rfl, HS4, HF4, HG4, HK4⟩)
          go_roundw
          case rel => exact ⟨n, l'.drop 1, fs, j' + 1, lo', HS4, HF4, HG4, HK4 gd _ _ hb3 (by decide) (by decide), hd_ (HSK (by decide) (by decide) (by simp))⟩
          case measure => exact by have h1 := HS4.low.restLen; have h2 := HS.low.restLen; have h3 := hl1.out; rw [List.length_drop] at h1; show restLen w4 g < restLen wr g; omega
      · go_wp2_with (go_at_call 71; refine (lose_anyB B g m l' j' lo' u5 fs w _ HS3 HF3 hl1.out hj1.out hlo1.out HG3).mono ?_; rintro e w4 ⟨rfl, HS4, HF4, HG4, HK4⟩)
        go_roundw
        case rel => exact ⟨n, l'.drop 1, fs, j' + 1, lo' + 1, HS4, HF4, HG4, HK4 gd _ _ hb3 (by decide) (by decide), hd_ (HLO.out (by decide))⟩
        case measure => exact by have h1 := HS4.low.restLen; have h2 := HS.low.restLen; have h3 := hl1.out; rw [List.length_drop] at h1; show restLen w4 g < restLen wr g; omega
      · obtain ⟨e1, e2, e3, e4, e5, e6⟩ := HC3.out rfl
        obtain ⟨N, hN, hN24⟩ : ∃ N : Nat, lenN l' = (N : Int) ∧ N < 16777216 := by
          obtain ⟨v', _, hr⟩ := HS3
          exact lenN_range hr.1.1
        obtain ⟨a1, a2, a3, a4, a5⟩ := HFI.out
        rw [hN] at e4 e5 a1
        rw [show ((N : Int)).toNat = N from rfl] at a1
        have hN1 : Hid (N ≤ 1048576) := hd_ (by omega)
        have hl14 : N + 14 ≤ l'.length := by omega
        have hfs : Hid ((fs.length + 1) * 32 ≤ 140737488355328) := hd_ (by omega)
        have hd14 : (l'.drop (N + 14)).length + (N + 14) = l'.length := by rw [List.length_drop]; omega
        have hrel : Hid ((l'.drop (N + 14)).length ≤ n ∧ scanA m en n (l'.drop (N + 14)) (fs ++ [(l'.getD 2 0, (l'.drop 10).take N)]) j' lo' = R ∧ (fs ++ [(l'.getD 2 0, (l'.drop 10).take N)]).length * 14 + (l'.drop (N + 14)).length ≤ 35184372088832 ∧ j' + (l'.drop (N + 14)).length < 4611686018427387904 ∧ lo' + (l'.drop (N + 14)).length < 4611686018427387904) :=
          hd_ ⟨by omega, a1 rfl, by rw [List.length_append, List.length_singleton]; omega, by omega, by omega⟩
        have hmeas : Hid ((l'.drop (N + 14)).length < l'.length) := hd_ (by omega)
        have HL14 := hd_ hl14
        clear e1 e2 e3 e4 e5 e6 a1 a2 a3 a4 a5 hd14 hl14
        go_wp2_with (go_at_call 72; refine (find_anyB B g m l' j' lo' N u5 fs w _ HS3 HF3 hN hN1.out HL14.out hfs.out HG3).mono ?_; rintro e w4 ⟨lv4, rfl, HS4, HF4, HG4, HK4⟩)
        go_roundw
        case rel => exact ⟨n, l'.drop (N + 14), _, j', lo', HS4, HF4, HG4, HK4 gd _ _ hb3 (by decide) (by decide), hrel⟩
        case measure => exact by have h1 := HS4.low.restLen; have h2 := HS.low.restLen; have h3 := hmeas.out; show restLen w4 g < restLen wr g; omega
set_option maxHeartbeats 2000000 in
theorem Feed_anyB (B : Nat) (g : Nat) (m : Int) (l b : List Int) (j lo : Nat) (v : Value) (w : World) (HS : SplB B w g m l j lo) (HV : Rd w v b) (hm : m ≤ 1048576) (hl : l.length + b.length ≤ 35184372088832) (hj : j + (l.length + b.length) < 4611686018427387904) (hlo : lo + (l.length + b.length) < 4611686018427387904) :
    Calls Try.prog 29 #[.pointer (some ⟨g, 0, none⟩), v] w (SplRetB w.heap.size w g m (scanA m false (l ++ b).length (l ++ b) [] j lo)) := by
  obtain ⟨R, hR⟩ : ∃ R, scanA m false (l ++ b).length (l ++ b) [] j lo = R := ⟨_, rfl⟩
  rw [hR]
  have HR := hd_ hR
  clear hR
  have hab : (l ++ b).length = l.length + b.length := List.length_append
  obtain ⟨u, hbx, hRB⟩ := HS
  have q0 : w.cell? ⟨g, 0, none⟩ = some (.bool true) := hbx.cell 0 rfl
  have q2 : w.cell? ⟨g, 2, none⟩ = some u := hbx.cell 2 rfl
  have hlen1 := hRB.1.2.len (P := Try.prog) 24 5 3 Try.underlying24
  have hlen2 := HV.2.len (P := Try.prog) 24 5 3 Try.underlying24
  have HAB := hd_ hab
  clear hab
  go_enter Try.func29, Try.ntmps29
  go_upto_region 4 with (at_make; refine make_bytes (w0 := w) w.heap.size rfl _ _ 24 5 rfl Try.underlying24 info8 _ _ _ _ (l.length + b.length) rfl rfl (by omega) (by omega) (by omega) (Below.refl _ _) (Nat.le_refl _) ?_; intro v1 w1 HO1 HB1 hg1 hat1)
  obtain ⟨gb, cap, rfl, hgb⟩ := HO1.block hat1
  rw [List.length_replicate] at HO1 ⊢
  obtain ⟨_, _, hcv, hcap, hx9⟩ := HO1.rd.form
  clear hx9
  rw [List.length_replicate] at hcv hcap
  injection hcv with e1 e2 e3
  subst e1
  subst e3
  clear e2
  have hbx1 := hbx.keep HB1
  have q21 := cell_keep HB1 q2
  have hRB1 := hRB.1.keep HB1
  have HV1 := HV.keep HB1
  obtain ⟨D, c2, hsl, hD⟩ : ∃ D c2, (∀ W, Sem.run Try.prog (Instr.slice 24 (.slice (some ⟨gb, 0, none⟩) (l.length + b.length) cap) (some (Value.int .i64 (l.length : Int))) none none) W = .ok (.slice D b.length c2) W) ∧ (0 < b.length → D = some ⟨gb, l.length, none⟩) := by
    have hel : Try.prog.elem 24 = 5 := by simp [Program.elem, Try.underlying24]
    refine ⟨if cap = l.length then some ⟨gb, 0, none⟩ else (some (⟨gb, 0, none⟩ : Addr)).map (·.add (l.length * 1)), cap - l.length, fun W => ?_, fun h => ?_⟩
    · rw [run_slice_l (P := Try.prog) W 24 (some ⟨gb, 0, none⟩) (l.length + b.length) cap (by rw [hel]; exact Try.underlying24) .i64 l.length (by omega) (by omega), hel, run_size info8]
      simp only [Result.andThen_ok, Int.toNat_natCast, sliced, Nat.add_sub_cancel_left]
    · rw [if_neg (by omega), Option.map_some, Addr.add_lit, Nat.mul_one, Nat.zero_add]
  have hcp1 : Hid ((List.replicate (l.length + b.length) (0 : Int)).take 0 ++ (l ++ (List.replicate (l.length + b.length) (0 : Int)).drop (0 + l.length)) = l ++ List.replicate b.length 0) := hd_ (by
    rw [List.take_zero, List.nil_append, List.drop_replicate]
    congr 2
    omega)
  have hcp2 : Hid ((l ++ List.replicate b.length (0 : Int)).take l.length ++ (b ++ (l ++ List.replicate b.length (0 : Int)).drop (l.length + b.length)) = l ++ b) := hd_ (by
    rw [List.take_left, List.drop_eq_nil_of_le (by rw [List.length_append, List.length_replicate]; exact Nat.le_refl _), List.append_nil])
  have hlr : (l ++ List.replicate b.length (0 : Int)).length = l.length + b.length := by rw [List.length_append, List.length_replicate]
  have HLR := hd_ hlr
  clear hlr
  obtain ⟨V, hV⟩ : ∃ V, V = Value.slice (some ⟨gb, 0, none⟩) (l.length + b.length) cap := ⟨_, rfl⟩
  rw [← hV] at hsl ⊢
  have HVV := hd_ hV
  clear hV hcap hat1
  go_upto_region 5 with (first
    | (refine copy_own (w0 := w) w.heap.size rfl _ _ 24 5 rfl Try.underlying24 info8 gb cap 0 (l.length + b.length) (List.replicate (l.length + b.length) 0) l List.length_replicate _ (l.length + b.length) cap u HVV.out (fun _ => rfl) (Nat.le_add_right _ _) rfl HO1 hRB1 (by rw [Nat.zero_add]; exact Nat.le_add_right _ _) HB1 HB1.size ?_; intro w2 HO2 HB2 hg2; rw [hcp1.out] at HO2; have HV2 := HV.keep HB2)
    | (refine copy_own (w0 := w) w.heap.size rfl _ _ 24 5 rfl Try.underlying24 info8 gb cap l.length (l.length + b.length) (l ++ List.replicate b.length 0) b HLR.out D b.length c2 v rfl hD (Nat.le_refl _) rfl HO2 HV2 (Nat.le_refl _) HB2 HB2.size ?_; intro w3 HO3 HB3 hg3; rw [hcp2.out] at HO3))
  rw [HVV.out]
  have hbx3 := hbx.keep HB3
  have z3 := hbx3.frozen 2
  have q3 := hbx3.cell 2 rfl
  obtain ⟨b4, g4⟩ := hbx3.put 2 (.slice (some ⟨gb, 0, none⟩) (l.length + b.length) cap)
  have HS4 : SplB w.heap.size _ g m (l ++ b) j lo := ⟨_, b4, ((RdB.own HO3).grown g4 (box_kind hbx3 (by decide)))⟩
  have HG4 : w.grownBy _ (some g) := (grown_below HB3 _).trans g4
  have hRun := run_anyB w.heap.size g m false (l ++ b) j lo _ HS4 hm (by rw [HAB.out]; exact hl) (by rw [HAB.out]; exact hj) (by rw [HAB.out]; exact hlo)
  rw [HR.out] at hRun
  clear HO1 HO3 hbx hbx1 hRB hRB1 b4 HS4 HV HV1 hsl hD g4 hbx3
  go_wp2_with fail
  refine hRun.mono ?_
  rintro e w5 ⟨lv, rfl, HS5, HF5, HG5⟩
  go_wp2
  go_ret
  exact ⟨_, rfl, HS5, HF5.base HG4.size, HG4.trans HG5⟩
set_option maxHeartbeats 1000000 in
theorem End_anyB (B : Nat) (g : Nat) (m : Int) (l : List Int) (j lo : Nat) (w : World) (HS : SplB B w g m l j lo) (hm : m ≤ 1048576) (hl : l.length ≤ 35184372088832) (hj : j + l.length < 4611686018427387904) (hlo : lo + l.length < 4611686018427387904) :
    Calls Try.prog 30 #[.pointer (some ⟨g, 0, none⟩)] w (SplRetB B w g m ((scanA m true l.length l [] j lo).1, [], (scanA m true l.length l [] j lo).2.2)) := by
  have hRun := run_anyB B g m true l j lo w HS hm hl hj hlo
  generalize scanA m true l.length l [] j lo = R at *
  obtain ⟨u, hbx, hRB⟩ := HS
  have q0 : w.cell? ⟨g, 0, none⟩ = some (.bool true) := hbx.cell 0 rfl
  go_enter Try.func30, Try.ntmps30
  go_wp2_with fail
  refine hRun.mono ?_
  rintro e w1 ⟨lv, rfl, HS1, HF1, HG1⟩
  obtain ⟨u1, hb1, hR1⟩ := HS1
  have z1 := hb1.frozen 2
  have q1 := hb1.cell 2 rfl
  obtain ⟨b2, g2⟩ := hb1.put 2 (.slice none 0 0)
  have HS2 : Hid (SplB B _ g m [] R.2.2.1 R.2.2.2) := hd_ ⟨_, b2, (RdB.own (own_nil8 _ B _))⟩
  have HF2 := hd_ (HF1.boxed hb1 g2 (by decide) (by decide))
  have HG2 := hd_ (HG1.trans g2)
  clear HF1 HG1 b2 g2 hb1 hR1 hbx hRB
  go_wp2
  go_ret
  exact ⟨_, rfl, HS2.out, HF2.out, HG2.out⟩
def AllRetB (w : World) (m : Int) (R : List (Int × List Int) × List Int × Nat × Nat) (e : Ending) (w' : World) : Prop :=
  ∃ lv g, e = .returned (.tuple #[lv, .pointer (some ⟨g, 0, none⟩), .bool true]) ∧ w.heap.size ≤ g ∧ SplB w.heap.size w' g m R.2.1 R.2.2.1 R.2.2.2 ∧ FrA w' w.heap.size 28 5 lv R.1 ∧ Below w.heap.size w w'
set_option maxHeartbeats 2000000 in
theorem all_anyB (m : Int) (v : Value) (ps : List (List Int)) (w : World) (HR : RdL w v ps) (h0 : 0 ≤ m) (h1 : m ≤ 1048576) (hl : ps.flatten.length ≤ 35184372088832) :
    Calls Try.prog 40 #[.int .i64 m, v] w (AllRetB w m (feedA m ps ([], [], 0, 0))) := by
  obtain ⟨R, hR⟩ : ∃ R, feedA m ps ([], [], 0, 0) = R := ⟨_, rfl⟩
  rw [hR]
  have HRR := hd_ hR
  clear hR
  obtain ⟨A, cap, rfl, hn, hmx, _, hc⟩ := HR.form
  clear HR
  unfold maxLen at hmx
  have hc := hd_ hc
  go_enter Try.func40, Try.ntmps40
  go_wp2_with (go_at_call 28; refine (New_ok m h0 h1 _).mono ?_; rintro e w1 ⟨rfl, HX1, HB1⟩)
  have HS1 : SplB w.heap.size w1 w.heap.size m [] 0 0 := ⟨_, HX1, RdB.own (own_nil8 _ _ _)⟩
  clear HX1
  go_loopw [9, 10] (fun vl vi wr => ∃ (k : Nat) (fs : List (Int × List Int)) (l : List Int) (j lo : Nat), k ≤ ps.length ∧ vi = .int .i64 k ∧ SplB w.heap.size wr w.heap.size m l j lo ∧ FrA wr w.heap.size 28 5 vl fs ∧ Below w.heap.size w wr ∧ Hid (feedA m (ps.drop k) (fs, l, j, lo) = R ∧ fs.length * 14 + l.length + (ps.drop k).flatten.length ≤ 35184372088832 ∧ j + l.length + (ps.drop k).flatten.length ≤ 35184372088832 ∧ lo + l.length + (ps.drop k).flatten.length ≤ 35184372088832)) (fun _ i _ => ps.length - (intOf i).toNat)
  case atStart => exact ⟨0, [], [], 0, 0, Nat.zero_le _, rfl, HS1, FrA.nil _ _ _ _, HB1, hd_ ⟨HRR.out, by simpa using hl, by simpa using hl, by simpa using hl⟩⟩
  case round =>
    clear HS1 HB1 HRR hl
    obtain ⟨k, fs, l, j, lo, hk, rfl, HS, HF, HB, HI⟩ := hrel
    by_cases hlt : k < ps.length
    · obtain ⟨b, off, u, rfl, hcell0, hu0⟩ := hc.out k hlt
      have hcell := cell_keep HB hcell0
      have hu := hu0.keep HB
      obtain ⟨i1, i2, i3, i4⟩ := HI.out
      rw [drop_head [] ps hlt] at i1 i2 i3 i4
      rw [List.flatten_cons, List.length_append] at i2 i3 i4
      clear hcell0 hu0 hc HI
      generalize ps.getD k [] = p at *
      have hbl : IsBytes l := by obtain ⟨v', _, hr⟩ := HS; exact hr.1.1
      have hbb := scanA_bounds m false (l ++ p).length (l ++ p) [] j lo (bytes_append hbl hu.1)
      rw [List.length_append, List.length_nil] at hbb
      rw [feedA] at i1
      simp only at i1
      have hF := Feed_anyB w.heap.size w.heap.size m l p j lo u wr HS hu h1 (by omega) (by omega) (by omega)
      rw [List.length_append] at hF i1
      generalize scanA m false (l.length + p.length) (l ++ p) [] j lo = S at *
      have HI2 : Hid (feedA m (ps.drop (k + 1)) (fs ++ S.1, S.2) = R ∧ (fs ++ S.1).length * 14 + S.2.1.length + (ps.drop (k + 1)).flatten.length ≤ 35184372088832 ∧ S.2.2.1 + S.2.1.length + (ps.drop (k + 1)).flatten.length ≤ 35184372088832 ∧ S.2.2.2 + S.2.1.length + (ps.drop (k + 1)).flatten.length ≤ 35184372088832) :=
        hd_ ⟨i1, by rw [List.length_append]; omega, by omega, by omega⟩
      have hl32 : Hid ((fs.length + S.1.length) * 32 ≤ 140737488355328) := hd_ (by omega)
      clear i1 i2 i3 i4 hbb
      go_wp2_with fail
      refine hF.mono ?_
      rintro e w5 ⟨lv, rfl, HS5, HF5, HG5⟩
      have HFk : FrA2 w5 w.heap.size 28 5 u9 fs lv S.1 := by
        obtain ⟨v', hbx, _⟩ := HS
        exact HF.pair hbx HG5 (by decide) (by decide) HF5 HB.size
      have HB5 : Below w.heap.size w w5 := below_row HB HG5 (Nat.le_refl _) HB.size
      clear HF HF5 HG5 HS hu hF
      go_wp2_with (at_builtin; (refine app_framesA (w0 := w) w.heap.size rfl _ _ 52 28 5 (.agg #[.int .i64 0, .slice none 0 0]) rfl Try.underlying52 infoFr rfl (by decide) u9 lv fs S.1 rfl rfl HFk HB5 HB5.size hl32.out ?_); intro v6 w6 HF6 HB6 hg6 hk6)
      have HS6 : SplB w.heap.size w6 w.heap.size m S.2.1 S.2.2.1 S.2.2.2 := by
        obtain ⟨v', b5, r5⟩ := HS5
        exact ⟨v', b5.grown hg6 (hk6 _ _ _ b5 (by decide)), (r5.base HB.size).grown hg6 (fun b cur hc => hk6 b cur _ hc (by decide))⟩
      go_roundw
      case rel => exact ⟨k + 1, fs ++ S.1, S.2.1, S.2.2.1, S.2.2.2, by omega, by go_num, HS6, HF6, HB6, HI2⟩
      case measure => (simp [intOf]; try omega)
    · obtain rfl : k = ps.length := by omega
      have hRe : Hid (R = (fs, l, j, lo)) := hd_ (by
        have := HI.out.1
        rw [List.drop_length] at this
        exact this.symm)
      clear HI hc
      go_wp2
      go_ret3
      rw [hRe.out]
      exact ⟨_, _, rfl, Nat.le_refl _, HS, HF, HB⟩
end Go.Proofs.Ytilmmohkdgmhnaa
