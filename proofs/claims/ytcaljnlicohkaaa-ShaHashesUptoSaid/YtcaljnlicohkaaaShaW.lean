/- The document's hasher: New, Write. -/
import Derived.Test.YtcaljnlicohkaaaShaU
import Derived.Test.YtcaljnlicohkaaaShaJ
import Derived.Test.YtcaljnlicohkaaaRegJ
import Derived.Test.YtcaljnlicohkaaaOwnF
namespace Go.Proofs.Ytcaljnlicohkaaa
open Go.RowKit
set_option maxRecDepth 100000
set_option linter.unusedVariables false
set_option linter.unusedSimpArgs false
/-- nil, or a row of one's own wherever it comes from -/
def OwnN (W : World) (v : Value) (xs : List Int) : Prop := (v = .slice none 0 0 ∧ xs = []) ∨ OwnF W 0 v xs
theorem OwnN.nil (W : World) : OwnN W (.slice none 0 0) [] := .inl ⟨rfl, rfl⟩
theorem OwnN.rd {W : World} {v : Value} {xs : List Int} (h : OwnN W v xs) : Rd W v xs := by
  rcases h with ⟨rfl, rfl⟩ | h
  · exact (own_nil8 W 0 0).rd
  · exact h.rd
theorem OwnN.chg {S : Nat → Prop} {w w1 : World} {v : Value} {xs : List Int} (h : OwnN w v xs) (hc : Chg S w w1) (hn : ∀ k, v.ownBlock = some k → ¬ S k) : OwnN w1 v xs := by
  rcases h with h | h
  · exact .inl h
  · exact .inr (h.chg hc hn)
theorem OwnN.keep {w w1 : World} {v : Value} {xs : List Int} (h : OwnN w v xs) (hb : Below w.heap.size w w1) : OwnN w1 v xs := h.chg (Chg.below (S := fun _ => False) hb) (fun _ _ h => h)
theorem OwnN.lt {W : World} {v : Value} {xs : List Int} (h : OwnN W v xs) (k : Nat) (hk : v.ownBlock = some k) : k < W.heap.size := by
  rcases h with ⟨rfl, _⟩ | h
  · cases hk
  · exact (h.lt k hk).2
section
variable {P : Program} {o : Oper} {a : Act} {K : Act → World → Prop} {Q : Exit → Act → World → Prop}
theorem run_appN {W : World} (t ty e : TypeId) (ht : P.underlying t = some (.slice e)) (hinfo : (P.info? e).map (fun i => (i.zero, i.size, i.bytes)) = some (some (.int .u8 0), 1, 1))
    {v y : Value} {xs ys : List Int} (HO : OwnN W v xs) (HR : Rd W y ys) (hl : xs.length + ys.length ≤ 140737488355328) :
    ∃ v1 w1, (Builtin.append_ #[t, t] ty #[v, y]).run P W = .ok v1 w1 ∧ OwnN w1 v1 (xs ++ ys) ∧ Chg (fun k => v.ownBlock = some k) W w1 ∧ (v1.ownBlock = v.ownBlock ∨ ∀ k, v1.ownBlock = some k → W.heap.size ≤ k) := by
  rcases HO with ⟨rfl, rfl⟩ | HO
  · obtain ⟨v1, w1, hr, h2, h3, h5⟩ := run_app (P := P) W.heap.size t ty e (.int .u8 0) 1 1 ht hinfo rfl (by omega) (World.ownsRow_nil W W.heap.size e 1) HR.2 (nums8_one ys) (Nat.le_refl _) (by omega) (by simp at hl; omega)
    have hO : Own w1 W.heap.size e v1 ys := ⟨HR.1, by simpa using h2⟩
    refine ⟨v1, w1, hr, ?_, (Chg.of h3).mono (fun b _ e => by cases e), .inr (fun k hk => (h2.lt k hk).1)⟩
    rw [List.nil_append]
    by_cases hv : v1 = .slice none 0 0
    · subst hv
      obtain ⟨A, c, he, _⟩ := hO.rd.form
      injection he with _ e2 _
      exact .inl ⟨rfl, List.eq_nil_of_length_eq_zero e2.symm⟩
    · exact .inr ((hO.toF hv).low (Nat.zero_le _))
  · obtain ⟨v1, w1, hr, h2, h3, h5⟩ := run_appF (P := P) 0 t ty e ht hinfo HO HR (Nat.zero_le _) hl
    exact ⟨v1, w1, hr, .inr h2, h3, h5⟩
theorem wp_app_N {W : World} (hgd : o.guard = none) (s x : Operand) (t e : TypeId)
    (ho : o.op = .call { callee := .builtin .append, args := #[s, x], argTypes := #[t, t] })
    (ht : P.underlying t = some (.slice e)) (hinfo : (P.info? e).map (fun i => (i.zero, i.size, i.bytes)) = some (some (.int .u8 0), 1, 1))
    (v y : Value) (xs ys : List Int) (hs : a.eval s = v) (hx : a.eval x = y)
    (HO : OwnN W v xs) (HR : Rd W y ys) (hl : xs.length + ys.length ≤ 140737488355328)
    (h : ∀ v1 w1, OwnN w1 v1 (xs ++ ys) → Chg (fun k => v.ownBlock = some k) W w1 → (v1.ownBlock = v.ownBlock ∨ ∀ k, v1.ownBlock = some k → W.heap.size ≤ k) → K (a.put o.dst v1) w1) :
    Oper.wp P o a W K Q := by
  obtain ⟨v1, w1, hr, h2, h3, h5⟩ := run_appN (P := P) t o.type e ht hinfo HO HR hl
  unfold Oper.wp execOp
  simp only [ho, resolve, invoke, builtin, Sem.run_bind, Sem.run_pure, Result.andThen_ok, List.map_toArray, List.map_cons, List.map_nil, hs, hx, hr]
  exact h v1 w1 h2 h3 h5
end
theorem exec_load_mid {P : Program} {o : Oper} {a : Act} {w : World} (ty : TypeId) (x : Operand) (ho : o.op = .load ty x) (b off : Nat) (hx : a.eval x = .pointer (some ⟨b, off, none⟩)) (cs : List Value) (d : TypeDesc) (hc : w.rangeAt b off cs)
    (hu : P.underlying ty = some d) (hd : d.isRow = true) (hi : (P.info? ty).map (·.size) = some cs.length) : (execOp a.eval o).run P w = .ok (.value (.agg cs.toArray)) w := by
  unfold execOp
  simp only [ho, hx, Instr.loadAt, Instr.sureAddr, Sem.run_bind, Sem.run_pure, Result.andThen_ok, run_loadVar_mid w b off ty cs d hc hu hd hi]
/-- the document's hasher's cells -/
def hrC (s : List W32) (n : Int) (v : Value) : Array Value := wA s ++ #[.int .i64 n, v]
theorem hrC_size {s : List W32} (h : s.length = 8) (n : Int) (v : Value) : (hrC s n v).size = 10 := by unfold hrC; rw [Array.size_append, wA_size, h]; rfl
theorem hr8 {s : List W32} (h : s.length = 8) {v : Value} {n : Int} : (hrC s n v)[8]? = some (.int .i64 n) := by
  obtain ⟨a, b, c, d, e, f, g, i, rfl⟩ := eight h
  rfl
theorem hr9 {s : List W32} (h : s.length = 8) {v : Value} {n : Int} : (hrC s n v)[9]? = some v := by
  obtain ⟨a, b, c, d, e, f, g, i, rfl⟩ := eight h
  rfl
theorem hr8s {s : List W32} (h : s.length = 8) {v : Value} {n m : Int} : (hrC s n v).setIfInBounds 8 (.int .i64 m) = hrC s m v := by
  obtain ⟨a, b, c, d, e, f, g, i, rfl⟩ := eight h
  rfl
theorem hr9s {s : List W32} (h : s.length = 8) {v u : Value} {n : Int} : (hrC s n v).setIfInBounds 9 u = hrC s n u := by
  obtain ⟨a, b, c, d, e, f, g, i, rfl⟩ := eight h
  rfl
theorem setL8r {s s2 : List W32} (h : s.length = 8) (h2 : s2.length = 8) {v : Value} {n : Int} : setL (hrC s n v) 0 (wA s2).toList = hrC s2 n v := by
  obtain ⟨a, b, c, d, e, f, g, i, rfl⟩ := eight h
  obtain ⟨a2, b2, c2, d2, e2, f2, g2, i2, rfl⟩ := eight h2
  simp [hrC, wA, setL]
def Hr (W : World) (g : Nat) (s : List W32) (v : Value) (rest : List Int) (n : Nat) : Prop :=
  Box W g 64 (hrC s (IntKind.i64.wrap (n : Int)) v) ∧ OwnN W v rest ∧ s.length = 8 ∧ v.ownBlock ≠ some g
theorem Hr.ne {W : World} {g : Nat} {s : List W32} {v : Value} {rest : List Int} {n : Nat} (h : Hr W g s v rest n) : v.ownBlock ≠ some g := h.2.2.2
set_option maxHeartbeats 1000000 in
theorem ref_New_any (w : World) :
    Calls Try.prog 26 #[] w fun e w' => ∃ g, e = .returned (.pointer (some ⟨g, 0, none⟩)) ∧ Hr w' g beginL (.slice none 0 0) [] 0 ∧ w.heap.size ≤ g ∧ Below w.heap.size w w' := by
  go_enter Try.func26, Try.ntmps26
  go_wp2_with (go_at_call 39; refine (ref_begin_any _).mono ?_; rintro e w1 ⟨rfl, HB1⟩)
  have hE : ∀ cs, cs = hrC beginL 0 (.slice none 0 0) → Hr (w1.alloc (.cells cs 64)) w1.heap.size beginL (.slice none 0 0) [] 0 := fun cs h => by
    subst h
    exact ⟨Box.new _ _ _, OwnN.nil _, rfl, by simp [Value.ownBlock]⟩
  go_ret
  exact ⟨_, rfl, hE _ (by kernel_rfl), HB1.size, bel_trans HB1 (al1 (Below.refl _ _) _)⟩
end Go.Proofs.Ytcaljnlicohkaaa
