/- A script's calls: cells, sizes (helpers of the laws over scripts). -/
import Derived.Test.YtlaeiipiboabaaaMdF
namespace Go.Proofs.Ytlaeiipiboabaaa
open Go.RowKit
set_option maxRecDepth 100000
set_option linter.unusedVariables false
section
variable {P : Program} {ops : Array Oper} {rest : List Oper} {o : Oper} {a : Act} {Q : Exit → Act → World → Prop}
/-- a guarded load of a whole variable -/
theorem load_boxG {W : World} (hw : Region.wanted o (yielded ops a.tmps) = true) (ty : TypeId) (x : Operand) (ho : o.op = .load ty x) (g : Nat) (t : TypeId) (cs : Array Value) (d : TypeDesc)
    (hx : a.eval x = .pointer (some ⟨g, 0, none⟩)) (hb : Box W g t cs) (hu : P.underlying ty = some d) (hd : (match d with | .struct _ | .array _ _ => true | _ => false) = true) (hi : (P.info? ty).map (·.size) = some cs.size)
    (h : wpList P ops Q rest (a.put o.dst (.agg cs)) W) : wpList P ops Q (o :: rest) a W := by
  unfold wpList
  rw [if_pos hw]
  refine .inl ?_
  unfold Oper.wp execOp
  simp only [ho, hx, Instr.loadAt, Instr.sureAddr, Sem.run_bind, Sem.run_pure, Result.andThen_ok, run_load_box ty g t cs d hb hu hd hi]
  exact h
end
def opSz (a : OpT) : Nat := a.2.2.2.2.1.size + a.2.2.2.2.2.2.2.1.1.size + a.2.2.2.2.2.2.2.1.2.1.size
theorem sz_sum : ∀ x : List OpT, (x.map opSz).sum + x.length ≤ (x.map (fun a : OpT => 1 + (1 + (1 + (1 + (a.2.2.2.2.1.size + 1 + (1 + (1 + (a.2.2.2.2.2.2.2.1.1.size + 1 + (a.2.2.2.2.2.2.2.1.2.1.size + 1 + (1 + 0)) + 1 + 0))))))) + 1)).sum
  | [] => by simp
  | a :: x => by
    have := sz_sum x
    simp only [List.map_cons, List.sum_cons, List.length_cons]
    have e : opSz a = a.2.2.2.2.1.size + a.2.2.2.2.2.2.2.1.1.size + a.2.2.2.2.2.2.2.1.2.1.size := rfl
    omega
theorem sz_take (x : List OpT) (k : Nat) (h : k < x.length) (a : OpT) (ha : x[k]? = some a) : ((x.take (k + 1)).map opSz).sum = ((x.take k).map opSz).sum + opSz a := by
  rw [List.take_add_one, ha, List.map_append, List.sum_append]
  simp
theorem sz_take_le (x : List OpT) (k : Nat) : ((x.take k).map opSz).sum ≤ (x.map opSz).sum := by
  have : (x.map opSz).sum = ((x.take k).map opSz).sum + ((x.drop k).map opSz).sum := by rw [← List.sum_append, ← List.map_append, List.take_append_drop]
  omega
theorem opC_one (call V n most : Int) (S : ByteArray) (F : Bool) (ds : List Int) (k u : ByteArray) (m : Int) : (opC call V n most S F ds k u m).all (·.oneCell') = true := by
  unfold opC
  rw [Array.all_append, Array.all_append, u8A_one, rowC_one]
  simp [Value.oneCell']
theorem infoOp : (Try.prog.info? 53).map (fun i => (i.zero.isSome, i.size)) = some (true, 41) := by kernel_rfl
theorem infoOpZ : ∃ z b, (Try.prog.info? 53).map (fun i => (i.zero, i.size, i.bytes)) = some (some z, 41, b) := by
  have h := infoOp
  cases hi : Try.prog.info? 53 with
  | none => rw [hi] at h; cases h
  | some i =>
    rw [hi] at h
    simp only [Option.map_some, Option.some.injEq, Prod.mk.injEq] at h
    obtain ⟨h1, h2⟩ := h
    obtain ⟨z, hz⟩ := Option.isSome_iff_exists.1 h1
    exact ⟨z, i.bytes, by simp [hz, h2]⟩
theorem infoOp2 : (Try.prog.info? 53).map (·.size) = some 41 := by kernel_rfl
theorem wrap_k1 (k : Nat) (h : k ≤ 1048576) : wrap64 ((k : Int) + 1) = (k : Int) + 1 := by unfold wrap64; omega
theorem meas_k1 (k n : Nat) (h : k < n) : n - ((k : Int) + 1).toNat < n - k := by omega
end Go.Proofs.Ytlaeiipiboabaaa
