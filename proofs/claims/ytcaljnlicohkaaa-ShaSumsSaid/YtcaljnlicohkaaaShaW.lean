/- The document's hasher: New, Write. -/
import Derived.Test.YtcaljnlicohkaaaShaU
import Derived.Test.YtcaljnlicohkaaaShaJ
import Derived.Test.YtcaljnlicohkaaaRegJ
namespace Go.Proofs.Ytcaljnlicohkaaa
open Go.RowKit
set_option maxRecDepth 100000
set_option linter.unusedVariables false
set_option linter.unusedSimpArgs false
section
variable {P : Program} {o : Oper} {a : Act} {K : Act → World → Prop} {Q : Exit → Act → World → Prop}
theorem wp_app_bytes {w0 W : World} (base : Nat) (hgd : o.guard = none) (s x : Operand) (t e : TypeId)
    (ho : o.op = .call { callee := .builtin .append, args := #[s, x], argTypes := #[t, t] })
    (ht : P.underlying t = some (.slice e)) (hinfo : (P.info? e).map (fun i => (i.zero, i.size, i.bytes)) = some (some (.int .u8 0), 1, 1))
    (v y : Value) (xs ys : List Int) (hs : a.eval s = v) (hx : a.eval x = y)
    (HO : Own W base e v xs) (HR : Rd W y ys) (HB : Below base w0 W) (hbase : base ≤ W.heap.size) (hl : xs.length + ys.length ≤ 140737488355328)
    (h : ∀ v1 w1, Own w1 base e v1 (xs ++ ys) → Below base w0 w1 → W.grownBy w1 v.ownBlock → (v1.ownBlock = v.ownBlock ∨ v1.ownBlock = some W.heap.size) → K (a.put o.dst v1) w1) :
    Oper.wp P o a W K Q := by
  have h' := step_app_bytes (P := P) (ops := #[]) (E := False) (Q := Q) (K := K) base hgd s x t e ho ht hinfo v y xs ys hs hx HO HR HB hbase hl h
  rw [if_pos (by simp [Region.wanted, hgd])] at h'
  exact h'
end
theorem exec_load_mid {P : Program} {o : Oper} {a : Act} {w : World} (ty : TypeId) (x : Operand) (ho : o.op = .load ty x) (b off : Nat) (hx : a.eval x = .pointer (some ⟨b, off, none⟩)) (cs : List Value) (d : TypeDesc) (hc : w.rangeAt b off cs)
    (hu : P.underlying ty = some d) (hd : d.isRow = true) (hi : (P.info? ty).map (·.size) = some cs.length) : (execOp a.eval o).run P w = .ok (.value (.agg cs.toArray)) w := by
  unfold execOp
  simp only [ho, hx, Instr.loadAt, Instr.sureAddr, Sem.run_bind, Sem.run_pure, Result.andThen_ok, run_loadVar_mid w b off ty cs d hc hu hd hi]
/-- the document's hasher's cells -/
def hrC (s : List W32) (n : Int) (v : Value) : Array Value := wA s ++ #[.int .i64 n, v]
theorem hrC_size {s : List W32} (h : s.length = 8) (n : Int) (v : Value) : (hrC s n v).size = 10 := by unfold hrC; rw [Array.size_append, wA_size, h]; rfl
theorem hr8 {s : List W32} (h : s.length = 8) {v : Value} {n : Int} : (hrC s n v)[8]? = some (.int .i64 n) := by
  obtain ⟨a, b, c, d, e, f, g, i, rfl⟩ := eight h
  rfl
theorem hr9 {s : List W32} (h : s.length = 8) {v : Value} {n : Int} : (hrC s n v)[9]? = some v := by
  obtain ⟨a, b, c, d, e, f, g, i, rfl⟩ := eight h
  rfl
theorem hr8s {s : List W32} (h : s.length = 8) {v : Value} {n m : Int} : (hrC s n v).setIfInBounds 8 (.int .i64 m) = hrC s m v := by
  obtain ⟨a, b, c, d, e, f, g, i, rfl⟩ := eight h
  rfl
theorem hr9s {s : List W32} (h : s.length = 8) {v u : Value} {n : Int} : (hrC s n v).setIfInBounds 9 u = hrC s n u := by
  obtain ⟨a, b, c, d, e, f, g, i, rfl⟩ := eight h
  rfl
theorem setL8r {s s2 : List W32} (h : s.length = 8) (h2 : s2.length = 8) {v : Value} {n : Int} : setL (hrC s n v) 0 (wA s2).toList = hrC s2 n v := by
  obtain ⟨a, b, c, d, e, f, g, i, rfl⟩ := eight h
  obtain ⟨a2, b2, c2, d2, e2, f2, g2, i2, rfl⟩ := eight h2
  simp [hrC, wA, setL]
def Hr (W : World) (g : Nat) (s : List W32) (v : Value) (rest : List Int) (n : Nat) : Prop :=
  Box W g 64 (hrC s (IntKind.i64.wrap (n : Int)) v) ∧ Own W 0 5 v rest ∧ s.length = 8
theorem Hr.ne {W : World} {g : Nat} {s : List W32} {v : Value} {rest : List Int} {n : Nat} (h : Hr W g s v rest n) : v.ownBlock ≠ some g := own_box h.2.1 h.1 (by decide)
set_option maxHeartbeats 1000000 in
theorem ref_New_any (w : World) :
    Calls Try.prog 26 #[] w fun e w' => ∃ g, e = .returned (.pointer (some ⟨g, 0, none⟩)) ∧ Hr w' g beginL (.slice none 0 0) [] 0 ∧ w.heap.size ≤ g ∧ Below w.heap.size w w' := by
  go_enter Try.func26, Try.ntmps26
  go_wp2_with (go_at_call 39; refine (ref_begin_any _).mono ?_; rintro e w1 ⟨rfl, HB1⟩)
  have hE : ∀ cs, cs = hrC beginL 0 (.slice none 0 0) → Hr (w1.alloc (.cells cs 64)) w1.heap.size beginL (.slice none 0 0) [] 0 := fun cs h => by
    subst h
    exact ⟨Box.new _ _ _, own_nil8 _ _ _, rfl⟩
  go_ret
  exact ⟨_, rfl, hE _ (by kernel_rfl), HB1.size, bel_trans HB1 (al1 (Below.refl _ _) _)⟩
end Go.Proofs.Ytcaljnlicohkaaa
