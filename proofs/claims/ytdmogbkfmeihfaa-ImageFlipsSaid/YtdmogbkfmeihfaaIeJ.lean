/- Lists of rows compared; a state lent. -/
import Derived.Test.YtdmogbkfmeihfaaIeI
import Derived.Laws.StructEq
namespace Go.Proofs.Ytdmogbkfmeihfaa
open Go.RowKit
set_option maxRecDepth 100000
set_option linter.unusedVariables false
theorem eq_strI (s : ByteArray) (W : World) : Sem.run Try.prog (Op.equalIn 9999 9 (.string s) (.string s)) W = .ok true W := by
  rw [run_equalIn_string W 9998 9 s s (by kernel_rfl)]; simp
theorem eq_intI (n : Int) (W : World) : Sem.run Try.prog (Op.equalIn 9999 3 (.int .i64 n) (.int .i64 n)) W = .ok true W := by
  rw [run_equalIn_int W 9998 3 .i64 .i64 n n (by kernel_rfl)]; simp
theorem wrap_k1q (k : Nat) (h : k ≤ 9000000000000) : wrap64 ((k : Int) + 1) = (k : Int) + 1 := by unfold wrap64; omega
theorem exec_load_at {P : Program} {o : Oper} {a : Act} {W : World} (ty : TypeId) (x : Operand) (ho : o.op = .load ty x) (b off : Nat) (cs : Array Value) {d : TypeDesc}
    (hx : a.eval x = .pointer (some ⟨b, off, none⟩)) (hc : ∀ j, j < cs.size → W.cell? ⟨b, off + j, none⟩ = cs[j]?) (hu : P.underlying ty = some d) (hd : (match d with | .struct _ | .array _ _ => true | _ => false) = true) (hi : (P.info? ty).map (·.size) = some cs.size) :
    (execOp a.eval o).run P W = .ok (.value (.agg cs)) W := by
  unfold execOp
  simp only [ho, hx, Instr.loadAt, Instr.sureAddr, Sem.run_bind, Sem.run_pure, Result.andThen_ok, run_load_at ty b off cs d hc hu hd hi]
set_option maxHeartbeats 2000000 in
theorem Same07_any (v u : Value) (l : List RowT) (w : World) (HR : RdR w v l) (HS : RdR w u l) (hl : l.length ≤ 9000000000000) :
    Calls Try.prog 38 #[v, u] w fun e w' => e = .returned (.bool true) ∧ Below w.heap.size w w' := by
  have hlen := HR.len
  have hlen2 := HS.len
  have hRH := hd_ HR
  have hSH := hd_ HS
  clear HR HS
  go_enter Try.func38, Try.ntmps38
  go_upto_region 4 with fail
  go_loopw [13] (fun vi wr => ∃ k : Nat, k ≤ l.length ∧ vi = .int .i64 (k : Int) ∧ Below w.heap.size w wr) (fun vi _ => l.length - (intOf vi).toNat)
  case atStart => exact ⟨0, Nat.zero_le _, rfl, Below.refl _ _⟩
  case round =>
    obtain ⟨k, hk, rfl, hX⟩ := hrel
    by_cases hlt : k < l.length
    · have hkI : (k : Int) < (l.length : Int) := by omega
      obtain ⟨bl, off, hix, hc⟩ := hRH.out.at k hlt
      obtain ⟨bl2, off2, hix2, hc2⟩ := hSH.out.at k hlt
      generalize l[k] = r at *
      obtain ⟨ky, vu, n⟩ := r
      simp only at hc hc2
      have hI1 : (Value.int IntKind.i64 (wrap64 ((k : Int) + 1))) = .int .i64 ((k : Int) + 1) := congrArg _ (wrap_k1q k (by omega))
      have hkx := hd_ hlt
      have hr0 : (rowC ky vu n)[0]? = some (.string ky) := rfl
      have hr1 : (rowC ky vu n)[1]? = some (.string vu) := rfl
      have hr2 : (rowC ky vu n)[2]? = some (.int .i64 n) := rfl
      have hs0 := fun W => eq_strI ky W
      have hs1 := fun W => eq_strI vu W
      have hs2 := fun W => eq_intI n W
      have hc := hd_ hc
      have hc2 := hd_ hc2
      have hXH := hd_ hX.drew
      have hC0 : (fun W : World => Below w.heap.size w W) wr.drew := hX.drew
      clear hX hlt
      go_upto_region 6 with fail
      refine region_J [] (fun W : World => Below w.heap.size w W) (by kernel_rfl) ?_
      generalize wr.drew = W2 at *
      refine take_J 0 _ _ (v := ?_) rfl (by kernel_rfl) (by kernel_rfl) (by kernel_rfl) (by kernel_rfl) (fun _ _ _ h => h) rfl hC0 ?_ ?_
      rotate_left
      · intro W hC; go_simp; try with_reducible rfl
      simp only [Act.put, List.setIfInBounds_toArray, List.set_cons_zero, List.set_cons_succ]
      refine take_J 1 _ _ (v := ?_) rfl (by kernel_rfl) (by kernel_rfl) (by kernel_rfl) (by kernel_rfl) (fun _ _ _ h => h) rfl hC0 ?_ ?_
      rotate_left
      · intro W hC; go_simp; try with_reducible rfl
      simp only [Act.put, List.setIfInBounds_toArray, List.set_cons_zero, List.set_cons_succ]
      refine take_J 2 _ _ (v := ?_) rfl (by kernel_rfl) (by kernel_rfl) (by kernel_rfl) (by kernel_rfl) (fun _ _ _ h => h) rfl hC0 ?_ ?_
      rotate_left
      · intro W hC; go_simp; try with_reducible rfl
      simp only [Act.put, List.setIfInBounds_toArray, List.set_cons_zero, List.set_cons_succ]
      refine take_J 3 _ _ (v := .agg (rowC ky vu n)) rfl (by kernel_rfl) (by kernel_rfl) (by kernel_rfl) (by kernel_rfl) (fun _ _ _ h => h) rfl hC0 ?_ ?_
      · intro W hC
        have hcl := cells_keep hc.out hC
        exact exec_load_at _ _ rfl _ _ _ rfl hcl Try.underlying61 rfl infoRow
      simp only [Act.put, List.setIfInBounds_toArray, List.set_cons_zero, List.set_cons_succ]
      refine take_J 4 _ _ (v := ?_) rfl (by kernel_rfl) (by kernel_rfl) (by kernel_rfl) (by kernel_rfl) (fun _ _ _ h => h) rfl hC0 ?_ ?_
      rotate_left
      · intro W hC; go_simp; try with_reducible rfl
      simp only [Act.put, List.setIfInBounds_toArray, List.set_cons_zero, List.set_cons_succ]
      refine take_J 5 _ _ (v := ?_) rfl (by kernel_rfl) (by kernel_rfl) (by kernel_rfl) (by kernel_rfl) (fun _ _ _ h => h) rfl hC0 ?_ ?_
      rotate_left
      · intro W hC; go_simp; try with_reducible rfl
      simp only [Act.put, List.setIfInBounds_toArray, List.set_cons_zero, List.set_cons_succ]
      refine take_J 6 _ _ (v := ?_) rfl (by kernel_rfl) (by kernel_rfl) (by kernel_rfl) (by kernel_rfl) (fun _ _ _ h => h) rfl hC0 ?_ ?_
      rotate_left
      · intro W hC; go_simp; try with_reducible rfl
      simp only [Act.put, List.setIfInBounds_toArray, List.set_cons_zero, List.set_cons_succ]
      refine take_J 7 _ _ (v := .agg (rowC ky vu n)) rfl (by kernel_rfl) (by kernel_rfl) (by kernel_rfl) (by kernel_rfl) (fun _ _ _ h => h) rfl hC0 ?_ ?_
      · intro W hC
        have hcl := cells_keep hc2.out hC
        exact exec_load_at _ _ rfl _ _ _ rfl hcl Try.underlying61 rfl infoRow
      simp only [Act.put, List.setIfInBounds_toArray, List.set_cons_zero, List.set_cons_succ]
      refine ready_J 8 _ _ rfl (by kernel_rfl) rfl (fun K hK => ?_)
      go_simp
      have hC1 : (fun W : World => Below w.heap.size w W) W2 := hC0
      refine hK _ _ (fun _ => hC1) ?_
      clear hK K
      refine wpAnyJ_done (by kernel_rfl) ?_ _
      go_wp2
      go_roundw
      case rel => exact ⟨k + 1, hkx.out, by first | rfl | (rw [hI1]; rfl), hC1⟩
      case measure => first | (rw [hI1]; exact meas_k1i _ _ hkx.out) | exact meas_k1i _ _ hkx.out
    · obtain rfl : k = l.length := by omega
      go_wp2
      go_ret
      exact ⟨rfl, hX⟩
end Go.Proofs.Ytdmogbkfmeihfaa
