/- A script's call as its cells; how much a call adds (pure). -/
import Derived.Test.YtlaeiipiboabaaaMdE
import Derived.Test.YtlaeiipiboabaaaOpen2
namespace Go.Proofs.Ytlaeiipiboabaaa
open Go.RowKit
set_option maxRecDepth 100000
set_option linter.unusedVariables false
abbrev OpT : Type := Int × Int × Int × Int × ByteArray × Bool × List Int × (ByteArray × ByteArray × Int × Unit) × Unit
def RRow : World → List Value → (ByteArray × ByteArray × Int × Unit) → Prop := RAnd 0 1 RStr (RAnd 1 1 RStr (RAnd 2 1 (RInt .i64) RNil))
def ROp : World → List Value → OpT → Prop := RAnd 0 1 (RInt .i64) (RAnd 1 1 (RInt .u64) (RAnd 2 1 (RInt .i64) (RAnd 3 1 (RInt .i64) (RAnd 4 1 RStr (RAnd 5 1 RBool (RAnd 6 32 (RInts .u8 32) (RAnd 38 3 (RAnd 0 1 RStr (RAnd 1 1 RStr (RAnd 2 1 (RInt .i64) RNil))) RNil)))))))
theorem one_of {l : List Value} {i : Nat} {x : Value} (h : (l.drop i).take 1 = [x]) : l[i]? = some x := by
  have := congrArg (·[0]?) h
  simpa [List.getElem?_take, List.getElem?_drop] using this
/-- a call's cells -/
theorem op_cells {w : World} {cs : List Value} {a : OpT} (h : ROp w cs a) (hl : cs.length = 41) : ∃ V : Nat, V < 18446744073709551616 ∧ a.2.1 = (V : Int) ∧ cs = (opC a.1 (V : Int) a.2.2.1 a.2.2.2.1 a.2.2.2.2.1 a.2.2.2.2.2.1 a.2.2.2.2.2.2.1 a.2.2.2.2.2.2.2.1.1 a.2.2.2.2.2.2.2.1.2.1 a.2.2.2.2.2.2.2.1.2.2.1).toList ∧
    a.2.2.2.2.2.2.1.length = 32 ∧ IsBytes a.2.2.2.2.2.2.1 ∧ a.2.2.1 ≤ 9223372036854775807 ∧ -9223372036854775808 ≤ a.2.2.2.2.2.2.2.1.2.2.1 ∧ a.2.2.2.2.2.2.2.1.2.2.1 ≤ 9223372036854775807 := by
  obtain ⟨call, V0, n, most, S, F, ds, ⟨k, u, m, u1⟩, u2⟩ := a
  obtain ⟨⟨h0, _⟩, ⟨h1, hV⟩, ⟨h2, hn⟩, ⟨h3, _⟩, ⟨h4, _⟩, h5, ⟨hd, h6, hdb⟩, ⟨⟨h7, _⟩, ⟨h8, _⟩, ⟨h9, hm⟩, _⟩, _⟩ := h
  simp only at h0 h1 h2 h3 h4 h5 h6 h7 h8 h9 hd hdb hV hn hm
  obtain ⟨V, rfl, hV2⟩ := wf_u64 hV
  refine ⟨V, hV2, rfl, ?_, hd, fun b hb => wf_u8 (hdb b hb), (wf_i64 hn).2, (wf_i64 hm).1, (wf_i64 hm).2⟩
  have e0 := one_of h0
  have e1 := one_of h1
  have e2 := one_of h2
  have e3 := one_of h3
  have e4 := one_of h4
  have e5 := one_of h5
  have e7 := one_of h7
  have e8 := one_of h8
  have e9 := one_of h9
  have hrl : ((cs.drop 38).take 3).length = 3 := by rw [List.length_take, List.length_drop]; omega
  have hr : (cs.drop 38).take 3 = [.string k, .string u, .int .i64 m] := by
    generalize (cs.drop 38).take 3 = rs at *
    match rs, hrl with
    | [x, y, z], _ =>
      simp only [List.getElem?_cons_zero, List.getElem?_cons_succ, Option.some.injEq] at e7 e8 e9
      subst e7; subst e8; subst e9
      rfl
  have h6l : cs.take 6 = [.int .i64 call, .int .u64 (V : Int), .int .i64 n, .int .i64 most, .string S, .bool F] := by
    have hl6 : (cs.take 6).length = 6 := by rw [List.length_take]; omega
    have g : ∀ i, i < 6 → (cs.take 6)[i]? = cs[i]? := fun i hi => by rw [List.getElem?_take, if_pos hi]
    rw [← g 0 (by omega)] at e0
    rw [← g 1 (by omega)] at e1
    rw [← g 2 (by omega)] at e2
    rw [← g 3 (by omega)] at e3
    rw [← g 4 (by omega)] at e4
    rw [← g 5 (by omega)] at e5
    clear g
    generalize cs.take 6 = rs at *
    match rs, hl6 with
    | [x0, x1, x2, x3, x4, x5], _ =>
      simp only [List.getElem?_cons_zero, List.getElem?_cons_succ, Option.some.injEq] at e0 e1 e2 e3 e4 e5
      subst e0; subst e1; subst e2; subst e3; subst e4; subst e5
      rfl
  have hsplit : cs = cs.take 6 ++ ((cs.drop 6).take 32 ++ (cs.drop 38).take 3) := by
    have e : (cs.drop 38).take 3 = cs.drop 38 := List.take_of_length_le (by rw [List.length_drop]; omega)
    have e' : cs.drop 38 = (cs.drop 6).drop 32 := by rw [List.drop_drop]
    rw [e, e', List.take_append_drop, List.take_append_drop]
  rw [hsplit, h6l, h6, hr]
  unfold opC rowC u8A
  simp
/-- how much a call adds -/
theorem wStep_len (s : WS) (call n most m : Int) (V : Nat) (hV : V < 18446744073709551616) (S k u : ByteArray) (F : Bool) (ds : List Int) (hd : ds.length = 32) (hn : n ≤ 9223372036854775807) (hm : m ≤ 9223372036854775807) (hS : S.size ≤ 140737488351232) (hk : k.size ≤ 140737488351232) (hu : u.size ≤ 140737488351232) : (wStep s call V n most S F ds k u m).2.length ≤ s.2.length + S.size + k.size + u.size + 64 := by
  have l10 : ∀ x : Int, x ≤ 9223372036854775807 → (lebB x.toNat).length ≤ 10 := fun x hx => lebB_10 (by omega)
  have lay : ∀ b : List Int, (wLay s b).2.length ≤ s.2.length + b.length := fun b => by
    unfold wLay
    split
    · simp
    · simp
  have hSz : (lebB S.size).length ≤ 10 := lebB_10 (by omega)
  have hkz : (lebB k.size).length ≤ 10 := lebB_10 (by omega)
  have huz : (lebB u.size).length ≤ 10 := lebB_10 (by omega)
  unfold wStep
  split
  · have := lay (lebB V)
    have := lebB_10 hV
    unfold wUint
    rw [Int.toNat_natCast]
    omega
  split
  · unfold wInt
    split
    · omega
    split
    · show s.2.length ≤ _; omega
    split
    · show s.2.length ≤ _; omega
    · have := l10 n hn
      show (s.2 ++ lebB n.toNat).length ≤ _
      rw [List.length_append]; omega
  split
  · unfold wText
    split
    · omega
    split
    · show s.2.length ≤ _; omega
    split
    · show s.2.length ≤ _; omega
    · show (s.2 ++ (lebB (byL S).length ++ byL S)).length ≤ _
      rw [List.length_append, List.length_append, byL_length]
      omega
  split
  · have := lay [if F then 1 else 0]
    unfold wFlag
    simp only [List.length_cons, List.length_nil] at this
    omega
  split
  · have := lay ds
    omega
  split
  · unfold wRow
    split
    · omega
    split
    · show s.2.length ≤ _; omega
    split
    · show s.2.length ≤ _; omega
    · have := l10 m hm
      show (s.2 ++ (lebB (byL k).length ++ byL k) ++ (lebB (byL u).length ++ byL u) ++ lebB m.toNat).length ≤ _
      simp only [List.length_append, byL_length]
      omega
  split
  · unfold wFail
    split
    · show s.2.length ≤ _; omega
    · omega
  · omega
end Go.Proofs.Ytlaeiipiboabaaa
