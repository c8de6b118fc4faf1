/- A variable of several cells, whole: over any program. -/
import Derived.Test.YtcaljnlicohkaaaMem4
import Derived.Laws.Tables
import Derived.Laws.Rows
namespace Go.Proofs.Ytcaljnlicohkaaa
open Go.RowKit
/-- the row g holds the cells cs -/
def Box (W : World) (g : Nat) (t : TypeId) (cs : Array Value) : Prop := W.heap[g]? = some (.cells cs t (0, 0))
section
variable {w w1 W : World} {g : Nat} {t : TypeId} {cs : Array Value}
theorem Box.new (W : World) (cs : Array Value) (t : TypeId) : Box (W.alloc (.cells cs t)) W.heap.size t cs := by
  show (W.heap.push _)[W.heap.size]? = _
  simp
theorem Box.lt (h : Box W g t cs) : g < W.heap.size := (Array.getElem?_eq_some_iff.1 h).1
theorem Box.cell (h : Box W g t cs) (j : Nat) {v : Value} (hv : cs[j]? = some v) : W.cell? ⟨g, j, none⟩ = some v := by
  rw [cell_of_row W g j cs t _ h]; exact hv
theorem Box.frozen (h : Box W g t cs) (j : Nat) : W.frozen? ⟨g, j, none⟩ = false := frozen_of_row W g j cs t h
theorem Box.keep (h : Box w g t cs) (hb : Below w.heap.size w w1) : Box w1 g t cs := (hb.block g h.lt).trans h
theorem Box.grown {row : Option Nat} (h : Box w g t cs) (hg : w.grownBy w1 row) (hne : some g ≠ row) : Box w1 g t cs := (hg.block g h.lt hne).trans h
theorem Box.put (h : Box W g t cs) (j : Nat) (v : Value) : Box (W.setCell ⟨g, j, none⟩ v) g t (cs.setIfInBounds j v) ∧ W.grownBy (W.setCell ⟨g, j, none⟩ v) (some g) :=
  ⟨heap_setCell_same W g j cs t v h, rfl, rfl, rfl, by simp, fun k _ hk => heap_setCell_other W ⟨g, j, none⟩ k v (fun e => hk (by simp [e]))⟩
theorem below_row {B : Nat} {w0 w w1 : World} {g : Nat} (h : Below B w0 w) (hg : w.grownBy w1 (some g)) (hBg : B ≤ g) (hB : B ≤ w.heap.size) : Below B w0 w1 :=
  h.grown hg hB fun k hk => by injection hk with hk; omega
end
section
variable {P : Program} {ops : Array Oper} {rest : List Oper} {o : Oper} {a : Act} {Q : Exit → Act → World → Prop}
/-- a whole struct is stored -/
theorem store_box {W : World} (hgd : o.guard = none) (ty : TypeId) (x y : Operand) (ho : o.op = .store ty x y) (g : Nat) (t : TypeId) (old cells : Array Value)
    (hx : a.eval x = .pointer (some ⟨g, 0, none⟩)) (hy : a.eval y = .agg cells) (hb : Box W g t old) (hi : (P.info? ty).map (·.size) = some cells.size) (hold : old.size = cells.size) (h1 : cells.all (·.oneCell') = true)
    (h : ∀ w1, Box w1 g t cells → W.grownBy w1 (some g) → wpList P ops Q rest (a.put o.dst undef) w1) : wpList P ops Q (o :: rest) a W :=
  wpList_plain hgd fun K hK => wp_store_row ty x y ho g cells hx hy t old hb hi hold h1
    (hK _ _ (h _ (setRow_heap W g old cells t (0, 0) hb) ⟨rfl, rfl, rfl, by simp [World.setRow], fun k _ hk => setRow_other W g k cells (fun e => hk (by simp [e]))⟩))
/-- a whole struct is read -/
theorem run_load_box {W : World} (ty g : Nat) (t : TypeId) (cs : Array Value) (d : TypeDesc) (hb : Box W g t cs)
    (hu : P.underlying ty = some d) (hd : (match d with | .struct _ | .array _ _ => true | _ => false) = true) (hi : (P.info? ty).map (·.size) = some cs.size) :
    (loadVar ty ⟨g, 0, none⟩).run P W = .ok (.agg cs) W := run_loadVar_row W g t ty cs (0, 0) d hb hu hd hi
end
theorem results_cell1 {fn : Func} {p : Tmp} {ty : TypeId} (h : fn.results = #[.cell p ty]) (tmps : Array Value) (P : Program) (w : World) {v : Value} {g : Nat} (hp : tmps.getD p undef = .pointer (some ⟨g, 0, none⟩))
    (hl : (loadVar ty ⟨g, 0, none⟩).run P w = .ok v w) : (results fn tmps).run P w = .ok v w := by
  have hp2 : tmps[p]?.getD undef = .pointer (some ⟨g, 0, none⟩) := by rw [← hp]; simp
  simp only [results, h]
  simp [Sem.run_bind, Result.andThen, hp2, asAddr, hl]
theorem results_cell2 {fn : Func} {p u : Tmp} {ty : TypeId} (h : fn.results = #[.cell p ty, .tmp u]) (tmps : Array Value) (P : Program) (w : World) {v : Value} {g : Nat} (hp : tmps.getD p undef = .pointer (some ⟨g, 0, none⟩))
    (hl : (loadVar ty ⟨g, 0, none⟩).run P w = .ok v w) : (results fn tmps).run P w = .ok (.tuple #[v, tmps.getD u undef]) w := by
  have hp2 : tmps[p]?.getD undef = .pointer (some ⟨g, 0, none⟩) := by rw [← hp]; simp
  simp only [results, h]
  simp [Sem.run_bind, Result.andThen, hp2, asAddr, hl]
theorem results_cell3 {fn : Func} {p u u2 : Tmp} {ty : TypeId} (h : fn.results = #[.cell p ty, .tmp u, .tmp u2]) (tmps : Array Value) (P : Program) (w : World) {v : Value} {g : Nat} (hp : tmps.getD p undef = .pointer (some ⟨g, 0, none⟩))
    (hl : (loadVar ty ⟨g, 0, none⟩).run P w = .ok v w) : (results fn tmps).run P w = .ok (.tuple #[v, tmps.getD u undef, tmps.getD u2 undef]) w := by
  have hp2 : tmps[p]?.getD undef = .pointer (some ⟨g, 0, none⟩) := by rw [← hp]; simp
  simp only [results, h]
  simp [Sem.run_bind, Result.andThen, hp2, asAddr, hl]
theorem Own.block {W : World} {base : Nat} {e : TypeId} {v : Value} {xs : List Int} {g : Nat} (h : Own W base e v xs) (hg : v.ownBlock = some g) : ∃ g cap, v = .slice (some ⟨g, 0, none⟩) xs.length cap ∧ base ≤ g := by
  rcases h.2.2 with ⟨rfl, h0⟩ | ⟨g', cap, cur, rfl, hb, _⟩
  · exact absurd hg (by simp [Value.ownBlock])
  · exact ⟨g', cap, rfl, hb⟩
section
variable {P : Program} {ops : Array Oper} {rest : List Oper} {o : Oper} {a : Act} {Q : Exit → Act → World → Prop}
theorem copy_own {w0 W : World} (base : Nat) (hgd : o.guard = none) (d s : Operand) (t e : TypeId)
    (ho : o.op = .call { callee := .builtin .copy, args := #[d, s], argTypes := #[t, t] })
    (ht : P.underlying t = some (.slice e)) (hinfo : (P.info? e).map (fun i => (i.zero, i.size, i.bytes)) = some (some (.int .u8 0), 1, 1))
    (g cap off n : Nat) (xs ys : List Int) (hn : xs.length = n) (dp : Option Addr) (dLen dCap : Nat) (y : Value) (hd : a.eval d = .slice dp dLen dCap) (hdp : 0 < ys.length → dp = some ⟨g, off, none⟩) (hdl : ys.length ≤ dLen) (hs : a.eval s = y)
    (HO : Own W base e (.slice (some ⟨g, 0, none⟩) n cap) xs) (HR : Rd W y ys) (hl : off + ys.length ≤ n) (HB : Below base w0 W) (hB : base ≤ W.heap.size)
    (h : ∀ w1, Own w1 base e (.slice (some ⟨g, 0, none⟩) n cap) (xs.take off ++ (ys ++ xs.drop (off + ys.length))) → Below base w0 w1 → W.grownBy w1 (some g) → wpList P ops Q rest (a.put o.dst (.int .i64 (ys.length : Int))) w1) :
    wpList P ops Q (o :: rest) a W := by
  subst hn
  exact copy_at base hgd d s t e ho ht hinfo g cap off xs ys dp dLen dCap y hd hdp hdl hs HO HR hl HB hB h
end
end Go.Proofs.Ytcaljnlicohkaaa
