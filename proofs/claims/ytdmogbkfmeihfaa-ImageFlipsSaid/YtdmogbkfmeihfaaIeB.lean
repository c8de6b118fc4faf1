/- A row checked: the program's and the document's. -/
import Derived.Test.YtdmogbkfmeihfaaIeA
import Derived.Test.YtdmogbkfmeihfaaMem10
namespace Go.Proofs.Ytdmogbkfmeihfaa
open Go.RowKit
set_option maxRecDepth 100000
set_option linter.unusedVariables false
theorem rowC_size (k u : ByteArray) (n : Int) : (rowC k u n).size = 3 := rfl
theorem rowC_one' (k u : ByteArray) (n : Int) : (rowC k u n).all (·.oneCell') = true := by unfold rowC; simp [Value.oneCell']
theorem infoRow : (Try.prog.info? 61).map (·.size) = some 3 := by kernel_rfl
section
variable {P : Program} {ops : Array Oper} {rest : List Oper} {o : Oper} {a : Act} {Q : Exit → Act → World → Prop}
theorem load_boxI {W : World} (hw : Region.wanted o (yielded ops a.tmps) = true) (ty : TypeId) (x : Operand) (ho : o.op = .load ty x) (g : Nat) (t : TypeId) (cs : Array Value) (d : TypeDesc)
    (hx : a.eval x = .pointer (some ⟨g, 0, none⟩)) (hb : Box W g t cs) (hu : P.underlying ty = some d) (hd : (match d with | .struct _ | .array _ _ => true | _ => false) = true) (hi : (P.info? ty).map (·.size) = some cs.size)
    (h : wpList P ops Q rest (a.put o.dst (.agg cs)) W) : wpList P ops Q (o :: rest) a W := by
  unfold wpList
  rw [if_pos hw]
  refine .inl ?_
  unfold Oper.wp execOp
  simp only [ho, hx, Instr.loadAt, Instr.sureAddr, Sem.run_bind, Sem.run_pure, Result.andThen_ok, run_load_box ty g t cs d hb hu hd hi]
  exact h
end
set_option maxHeartbeats 1000000 in
theorem tab_Check_any (k u : ByteArray) (n : Int) (w : World) :
    Calls Try.prog 95 #[.agg (rowC k u n)] w fun e w' => e = .returned (.int .i64 (tabC (k, u, n))) ∧ Below w.heap.size w w' := by
  have hB0 := hd_ (al1 (Below.refl w.heap.size w) (.cells (rowC k u n) 61))
  have hbR := Box.new w (rowC k u n) 61
  unfold tabC
  simp only
  by_cases h0 : k.size = 0
  · rw [if_pos (.inl h0)]
    have hkE : k.toList.isEmpty = true := by rw [toList_nil h0]; rfl
    have hkL := toList_nil h0
    have q0 := hbR.cell 0 rfl
    unfold rowC at *
    clear hbR
    go_enter Try.func95, Try.ntmps95
    go_wp2
    go_ret
    exact ⟨rfl, hB0.out⟩
  have hkE : k.toList.isEmpty = false := by rw [List.isEmpty_eq_false_iff]; exact toList_ne h0
  have hkL := toList_ne h0
  by_cases h1 : 1024 < k.size
  · rw [if_pos (.inr h1)]
    have h1I : 1024 < (k.size : Int) := by omega
    have q0 := hbR.cell 0 rfl
    unfold rowC at *
    clear hbR
    go_enter Try.func95, Try.ntmps95
    go_wp2
    go_ret
    exact ⟨rfl, hB0.out⟩
  rw [if_neg (by omega)]
  have h1I : ¬ 1024 < (k.size : Int) := by omega
  by_cases h2 : 65536 < u.size
  · rw [if_pos h2]
    have h2I : 65536 < (u.size : Int) := by omega
    have q0 := hbR.cell 0 rfl
    have q1 := hbR.cell 1 rfl
    unfold rowC at *
    clear hbR
    go_enter Try.func95, Try.ntmps95
    go_wp2
    go_ret
    exact ⟨rfl, hB0.out⟩
  rw [if_neg h2]
  have h2I : ¬ 65536 < (u.size : Int) := by omega
  have q0 := hbR.cell 0 rfl
  have q1 := hbR.cell 1 rfl
  have q2 := hbR.cell 2 rfl
  unfold rowC at *
  clear hbR
  by_cases h3 : n < 1
  · rw [if_pos (.inl h3)]
    go_enter Try.func95, Try.ntmps95
    go_wp2
    go_ret
    exact ⟨rfl, hB0.out⟩
  by_cases h4 : 1152921504606846976 < n
  · rw [if_pos (.inr h4)]
    go_enter Try.func95, Try.ntmps95
    go_wp2
    go_ret
    exact ⟨rfl, hB0.out⟩
  · rw [if_neg (by omega)]
    go_enter Try.func95, Try.ntmps95
    go_wp2
    go_ret
    exact ⟨rfl, hB0.out⟩
set_option maxHeartbeats 1000000 in
theorem ref_Check_any (k u : ByteArray) (n : Int) (w : World) :
    Calls Try.prog 86 #[.agg (rowC k u n)] w fun e w' => e = .returned (.int .i64 (tabC (k, u, n))) ∧ Below w.heap.size w w' := by
  have hB0 := hd_ (al1 (Below.refl w.heap.size w) (.cells (rowC k u n) 61))
  have hbR := Box.new w (rowC k u n) 61
  have q0 := hbR.cell 0 rfl
  have q1 := hbR.cell 1 rfl
  have q2 := hbR.cell 2 rfl
  unfold rowC at *
  clear hbR
  unfold tabC
  simp only
  by_cases h0 : k.size = 0
  · rw [if_pos (.inl h0)]
    have h0I : (k.size : Int) < 1 := by omega
    go_enter Try.func86, Try.ntmps86
    go_wp2
    go_ret
    exact ⟨rfl, hB0.out⟩
  have h0I : ¬ (k.size : Int) < 1 := by omega
  by_cases h1 : 1024 < k.size
  · rw [if_pos (.inr h1)]
    have h1I : 1024 < (k.size : Int) := by omega
    go_enter Try.func86, Try.ntmps86
    go_wp2
    go_ret
    exact ⟨rfl, hB0.out⟩
  rw [if_neg (by omega)]
  have h1I : ¬ 1024 < (k.size : Int) := by omega
  by_cases h2 : 65536 < u.size
  · rw [if_pos h2]
    have h2I : 65536 < (u.size : Int) := by omega
    go_enter Try.func86, Try.ntmps86
    go_wp2
    go_ret
    exact ⟨rfl, hB0.out⟩
  rw [if_neg h2]
  have h2I : ¬ 65536 < (u.size : Int) := by omega
  by_cases h3 : n < 1
  · rw [if_pos (.inl h3)]
    go_enter Try.func86, Try.ntmps86
    go_wp2
    go_ret
    exact ⟨rfl, hB0.out⟩
  by_cases h4 : 1152921504606846976 < n
  · rw [if_pos (.inr h4)]
    go_enter Try.func86, Try.ntmps86
    go_wp2
    go_ret
    exact ⟨rfl, hB0.out⟩
  · rw [if_neg (by omega)]
    go_enter Try.func86, Try.ntmps86
    go_wp2
    go_ret
    exact ⟨rfl, hB0.out⟩
theorem mayB_tab {r : RowT} {ahead : ByteArray} {first : Bool} {seq : Int} (h : tabC r ≠ 0) : mayB r ahead first seq = false := by
  unfold mayB; rw [decide_eq_false h]; rfl
theorem mayB_ord {r : RowT} {ahead : ByteArray} {seq : Int} (h : lqI r.1 ahead = true) : mayB r ahead false seq = false := by
  unfold mayB; rw [h]; simp
set_option maxHeartbeats 1000000 in
theorem may_any (k u : ByteArray) (n : Int) (ahead : ByteArray) (first : Bool) (seq : Int) (w : World) :
    Calls Try.prog 75 #[.agg (rowC k u n), .string ahead, .bool first, .int .i64 seq] w fun e w' => e = .returned (.bool (mayB (k, u, n) ahead first seq)) ∧ Below w.heap.size w w' := by
  have hB0 := hd_ (al1 (Below.refl w.heap.size w) (.cells (rowC k u n) 61))
  have hbR := hd_ (Box.new w (rowC k u n) 61)
  have hT := hd_ (fun W => tab_Check_any k u n W)
  by_cases h0 : tabC (k, u, n) = 0
  · rw [h0] at hT
    have hm : mayB (k, u, n) ahead first seq = ((first || !lqI k ahead) && decide (n ≤ seq)) := by unfold mayB; rw [h0]; rfl
    rw [hm]
    clear hm h0
    cases first
    · cases hq : lqI k ahead
      · have hq2 : (Op.bytesLess k.toList ahead.toList || k.toList == ahead.toList) = false := hq
        clear hq
        go_enter Try.func75, Try.ntmps75
        go_wp2_with (first
          | (refine load_boxI ?hw 61 _ rfl w.heap.size 61 (rowC k u n) _ rfl hbR.out Try.underlying61 rfl infoRow ?_; (case hw => first | rfl | simp [Region.wanted, yielded]))
          | (go_at_call 95; (with_reducible refine (hT.out _).mono ?_); rintro e w1 ⟨rfl, HB1⟩; have hb1 := hbR.out.keep HB1; have q0 := hb1.cell 0 (v := .string k) rfl; have q2 := hb1.cell 2 (v := .int .i64 n) rfl))
        all_goals
          go_ret
          exact ⟨by simp, bel_trans hB0.out HB1⟩
      · have hq2 : (Op.bytesLess k.toList ahead.toList || k.toList == ahead.toList) = true := hq
        clear hq
        go_enter Try.func75, Try.ntmps75
        go_wp2_with (first
          | (refine load_boxI ?hw 61 _ rfl w.heap.size 61 (rowC k u n) _ rfl hbR.out Try.underlying61 rfl infoRow ?_; (case hw => first | rfl | simp [Region.wanted, yielded]))
          | (go_at_call 95; (with_reducible refine (hT.out _).mono ?_); rintro e w1 ⟨rfl, HB1⟩; have hb1 := hbR.out.keep HB1; have q0 := hb1.cell 0 (v := .string k) rfl; have q2 := hb1.cell 2 (v := .int .i64 n) rfl))
        all_goals
          go_ret
          exact ⟨by simp, bel_trans hB0.out HB1⟩
    · go_enter Try.func75, Try.ntmps75
      go_wp2_with (first
        | (refine load_boxI ?hw 61 _ rfl w.heap.size 61 (rowC k u n) _ rfl hbR.out Try.underlying61 rfl infoRow ?_; (case hw => first | rfl | simp [Region.wanted, yielded]))
        | (go_at_call 95; (with_reducible refine (hT.out _).mono ?_); rintro e w1 ⟨rfl, HB1⟩; have hb1 := hbR.out.keep HB1; have q0 := hb1.cell 0 (v := .string k) rfl; have q2 := hb1.cell 2 (v := .int .i64 n) rfl))
      all_goals
        go_ret
        exact ⟨by simp, bel_trans hB0.out HB1⟩
  · rw [mayB_tab h0]
    have hE : (tabC (k, u, n) == 0) = false := by rw [beq_eq_false_iff_ne]; exact h0
    generalize tabC (k, u, n) = E at *
    go_enter Try.func75, Try.ntmps75
    go_wp2_with (first
      | (refine load_boxI ?hw 61 _ rfl w.heap.size 61 (rowC k u n) _ rfl hbR.out Try.underlying61 rfl infoRow ?_; (case hw => first | rfl | simp [Region.wanted, yielded]))
      | (go_at_call 95; (with_reducible refine (hT.out _).mono ?_); rintro e w1 ⟨rfl, HB1⟩))
    all_goals
      go_ret
      exact ⟨rfl, bel_trans hB0.out HB1⟩
end Go.Proofs.Ytdmogbkfmeihfaa
