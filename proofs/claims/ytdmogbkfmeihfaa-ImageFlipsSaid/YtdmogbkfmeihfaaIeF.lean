/- The document's side: a row's size, a state checked, and its image. -/
import Derived.Test.YtdmogbkfmeihfaaIeD
import Derived.Test.YtdmogbkfmeihfaaRegJ
namespace Go.Proofs.Ytdmogbkfmeihfaa
open Go.RowKit
set_option maxRecDepth 100000
set_option linter.unusedVariables false
theorem wrap_s (a b c : Nat) (h : a + b ≤ 1000000000000) (hc : c = a + b) : wrap64 ((a : Int) + (b : Int)) = (c : Int) := by rw [hc]; exact wrap_addI a b h
theorem wrap_sJ (a b c : Nat) (h : a + b ≤ 1000000000000) (hc : c = a + b) : IntKind.i64.wrap ((a : Int) + (b : Int)) = (c : Int) := by rw [hc]; exact wrap_addJ a b h
theorem wrap_n64 (n : Nat) (h : n ≤ 1152921504606846976) : IntKind.u64.wrap (n : Int) = (n : Int) := by rw [IntKind.wrap_u64]; omega
set_option maxHeartbeats 2000000 in
theorem rowSize_any (k u : ByteArray) (n : Int) (w : World) (ht : tabC (k, u, n) = 0) :
    Calls Try.prog 59 #[.agg (rowC k u n)] w fun e w' => e = .returned (.int .i64 ((rowL (k, u, n)).length : Int)) ∧ Below w.heap.size w w' := by
  obtain ⟨z1, z2, z3, z4, z5⟩ := tabC_zero ht
  simp only at z1 z2 z3 z4 z5
  rw [rowL_length]
  simp only
  clear ht
  obtain ⟨m, rfl⟩ := Int.eq_ofNat_of_zero_le (show 0 ≤ n by omega)
  rw [Int.toNat_natCast]
  have hm : m ≤ 1152921504606846976 := by omega
  have hB0 := al1 (Below.refl w.heap.size w) (.cells (rowC k u (m : Int)) 61)
  have hbR := Box.new w (rowC k u (m : Int)) 61
  have b1 := lebB_10 (v := k.size) (by omega)
  have b2 := lebB_10 (v := u.size) (by omega)
  have b3 := lebB_10 (v := m) (by omega)
  have hY1 := hd_ (fun W => ref_Bytes_any k.size (by omega) W)
  have hY2 := hd_ (fun W => ref_Bytes_any u.size (by omega) W)
  have hY3 := hd_ (fun W => ref_Bytes_any m (by omega) W)
  have c1 := wrap_n64 k.size (by omega)
  have c2 := wrap_n64 u.size (by omega)
  have c3 := wrap_n64 m hm
  obtain ⟨A, hA⟩ : ∃ A, A = (lebB k.size).length := ⟨_, rfl⟩
  obtain ⟨D, hD⟩ : ∃ D, D = (lebB u.size).length := ⟨_, rfl⟩
  obtain ⟨F, hF⟩ : ∃ F, F = (lebB m).length := ⟨_, rfl⟩
  obtain ⟨s1, h1⟩ : ∃ s, s = A + k.size := ⟨_, rfl⟩
  obtain ⟨s2, h2⟩ : ∃ s, s = s1 + D := ⟨_, rfl⟩
  obtain ⟨s3, h3⟩ : ∃ s, s = s2 + u.size := ⟨_, rfl⟩
  obtain ⟨s4, h4⟩ : ∃ s, s = s3 + F := ⟨_, rfl⟩
  have hsum : A + k.size + (D + u.size) + F = s4 := by omega
  rw [← hA, ← hD, ← hF, hsum]
  rw [← hA] at b1; rw [← hD] at b2; rw [← hF] at b3
  have e1 : A + k.size ≤ 1000000000000 := by omega
  have e2 : s1 + D ≤ 1000000000000 := by omega
  have e3 : s2 + u.size ≤ 1000000000000 := by omega
  have e4 : s3 + F ≤ 1000000000000 := by omega
  have f1 := wrap_s A k.size s1 e1 h1
  have f2 := wrap_s s1 D s2 e2 h2
  have f3 := wrap_s s2 u.size s3 e3 h3
  have f4 := wrap_s s3 F s4 e4 h4
  have f5 := wrap_sJ A k.size s1 e1 h1
  have f6 := wrap_sJ s1 D s2 e2 h2
  have f7 := wrap_sJ s2 u.size s3 e3 h3
  have f8 := wrap_sJ s3 F s4 e4 h4
  have q0 := hbR.cell 0 (v := .string k) rfl
  have q1 := hbR.cell 1 (v := .string u) rfl
  have q2 := hbR.cell 2 (v := .int .i64 (m : Int)) rfl
  have hAl := hd_ hA
  have hDl := hd_ hD
  have hFl := hd_ hF
  have hB0 := hd_ hB0
  unfold rowC at *
  clear hbR e1 e2 e3 e4 h1 h2 h3 h4 hsum b1 b2 b3 hA hD hF z1 z2 z3 z4 z5 hm
  go_enter Try.func59, Try.ntmps59
  go_upto_region 1 with fail
  generalize w.alloc (.cells #[.string k, .string u, .int .i64 (m : Int)] 61) = W0 at *
  go_quiet (fail)
  go_upto_region 2 with fail
  generalize hW1 : W0.drewN _ = W1 at *
  have hB1 := hd_ (show Below w.heap.size w W1 from by rw [← hW1]; exact below_drewN hB0.out _)
  have q2 : W1.cell? ⟨w.heap.size, 2, none⟩ = some (.int .i64 (m : Int)) := by rw [← hW1]; exact q2
  clear hW1 q0 q1
  have hC0 : (fun W : World => W.cell? ⟨w.heap.size, 2, none⟩ = some (.int .i64 (m : Int))) W1.drew := q2
  refine region_J [] (fun W : World => W.cell? ⟨w.heap.size, 2, none⟩ = some (.int .i64 (m : Int))) (by kernel_rfl) ?_
  have hB2 := hd_ hB1.out.drew
  generalize W1.drew = W2 at *
  refine take_J 0 _ _ (v := ?_) rfl (by kernel_rfl) (by kernel_rfl) (by kernel_rfl) (by kernel_rfl) (fun _ _ _ h => h) rfl hC0 ?_ ?_
  rotate_left
  · intro W hC; go_simp; try with_reducible rfl
  simp only [Act.put, List.setIfInBounds_toArray, List.set_cons_zero, List.set_cons_succ]
  refine take_J 1 _ _ (v := ?_) rfl (by kernel_rfl) (by kernel_rfl) (by kernel_rfl) (by kernel_rfl) (fun _ _ _ h => h) rfl hC0 ?_ ?_
  rotate_left
  · intro W hC; go_simp; try with_reducible rfl
  simp only [Act.put, List.setIfInBounds_toArray, List.set_cons_zero, List.set_cons_succ]
  refine take_J 4 _ _ (v := ?_) rfl (by kernel_rfl) (by kernel_rfl) (by kernel_rfl) (by kernel_rfl) (fun _ _ _ h => h) rfl hC0 ?_ ?_
  rotate_left
  · intro W hC; go_simp; try with_reducible rfl
  simp only [Act.put, List.setIfInBounds_toArray, List.set_cons_zero, List.set_cons_succ]
  refine take_J 6 _ _ (v := ?_) rfl (by kernel_rfl) (by kernel_rfl) (by kernel_rfl) (by kernel_rfl) (fun _ _ _ h => h) rfl hC0 ?_ ?_
  rotate_left
  · intro W hC; go_simp; try with_reducible rfl
  simp only [Act.put, List.setIfInBounds_toArray, List.set_cons_zero, List.set_cons_succ]
  refine take_J 7 _ _ (v := ?_) rfl (by kernel_rfl) (by kernel_rfl) (by kernel_rfl) (by kernel_rfl) (fun _ _ _ h => h) rfl hC0 ?_ ?_
  rotate_left
  · intro W hC; go_simp; try with_reducible rfl
  simp only [Act.put, List.setIfInBounds_toArray, List.set_cons_zero, List.set_cons_succ]
  refine take_J 11 _ _ (v := ?_) rfl (by kernel_rfl) (by kernel_rfl) (by kernel_rfl) (by kernel_rfl) (fun _ _ _ h => h) rfl hC0 ?_ ?_
  rotate_left
  · intro W hC; go_simp; try with_reducible rfl
  simp only [Act.put, List.setIfInBounds_toArray, List.set_cons_zero, List.set_cons_succ]
  refine take_J 13 _ _ (v := ?_) rfl (by kernel_rfl) (by kernel_rfl) (by kernel_rfl) (by kernel_rfl) (fun _ _ _ h => h) rfl hC0 ?_ ?_
  rotate_left
  · intro W hC; go_simp; try with_reducible rfl
  simp only [Act.put, List.setIfInBounds_toArray, List.set_cons_zero, List.set_cons_succ]
  refine take_J 14 _ _ (v := ?_) rfl (by kernel_rfl) (by kernel_rfl) (by kernel_rfl) (by kernel_rfl) (fun _ _ _ h => h) rfl hC0 ?_ ?_
  rotate_left
  · intro W hC; go_simp; try with_reducible rfl
  simp only [Act.put, List.setIfInBounds_toArray, List.set_cons_zero, List.set_cons_succ]
  refine take_J 15 _ _ (v := ?_) rfl (by kernel_rfl) (by kernel_rfl) (by kernel_rfl) (by kernel_rfl) (fun _ _ _ h => h) rfl hC0 ?_ ?_
  rotate_left
  · intro W hC; go_simp; try with_reducible rfl
  simp only [Act.put, List.setIfInBounds_toArray, List.set_cons_zero, List.set_cons_succ]
  refine ready_J 2 _ _ rfl (by kernel_rfl) rfl (fun K hK => ?_)
  go_simp
  with_reducible refine (hY1.out _).mono ?_
  rintro e w1 ⟨v1, rfl, HO1, HB1⟩
  have hC1 : (fun W : World => W.cell? ⟨w.heap.size, 2, none⟩ = some (.int .i64 (m : Int))) w1 := cell_keep HB1 hC0
  have hl1 := HO1.rd.2.len (P := Try.prog) 22 5 3 Try.underlying22
  rw [← hAl.out] at hl1
  refine hK _ _ (fun _ => hC1) ?_
  clear hK K
  refine take_J 3 _ _ (v := ?_) rfl (by kernel_rfl) (by kernel_rfl) (by kernel_rfl) (by kernel_rfl) (fun _ _ _ h => h) rfl hC1 ?_ ?_
  rotate_left
  · intro W hC; go_simp; try with_reducible rfl
  simp only [Act.put, List.setIfInBounds_toArray, List.set_cons_zero, List.set_cons_succ]
  refine take_J 5 _ _ (v := ?_) rfl (by kernel_rfl) (by kernel_rfl) (by kernel_rfl) (by kernel_rfl) (fun _ _ _ h => h) rfl hC1 ?_ ?_
  rotate_left
  · intro W hC; go_simp; try with_reducible rfl
  simp only [Act.put, List.setIfInBounds_toArray, List.set_cons_zero, List.set_cons_succ]
  refine ready_J 8 _ _ rfl (by kernel_rfl) rfl (fun K hK => ?_)
  go_simp
  with_reducible refine (hY2.out _).mono ?_
  rintro e w2 ⟨v2, rfl, HO2, HB2⟩
  have hC2 : (fun W : World => W.cell? ⟨w.heap.size, 2, none⟩ = some (.int .i64 (m : Int))) w2 := cell_keep HB2 hC1
  have hl2 := HO2.rd.2.len (P := Try.prog) 22 5 3 Try.underlying22
  rw [← hDl.out] at hl2
  refine hK _ _ (fun _ => hC2) ?_
  clear hK K
  refine take_J 9 _ _ (v := ?_) rfl (by kernel_rfl) (by kernel_rfl) (by kernel_rfl) (by kernel_rfl) (fun _ _ _ h => h) rfl hC2 ?_ ?_
  rotate_left
  · intro W hC; go_simp; try with_reducible rfl
  simp only [Act.put, List.setIfInBounds_toArray, List.set_cons_zero, List.set_cons_succ]
  refine take_J 10 _ _ (v := ?_) rfl (by kernel_rfl) (by kernel_rfl) (by kernel_rfl) (by kernel_rfl) (fun _ _ _ h => h) rfl hC2 ?_ ?_
  rotate_left
  · intro W hC; go_simp; try with_reducible rfl
  simp only [Act.put, List.setIfInBounds_toArray, List.set_cons_zero, List.set_cons_succ]
  refine take_J 12 _ _ (v := ?_) rfl (by kernel_rfl) (by kernel_rfl) (by kernel_rfl) (by kernel_rfl) (fun _ _ _ h => h) rfl hC2 ?_ ?_
  rotate_left
  · intro W hC; go_simp; try with_reducible rfl
  simp only [Act.put, List.setIfInBounds_toArray, List.set_cons_zero, List.set_cons_succ]
  refine ready_J 16 _ _ rfl (by kernel_rfl) rfl (fun K hK => ?_)
  go_simp
  with_reducible refine (hY3.out _).mono ?_
  rintro e w3 ⟨v3, rfl, HO3, HB3⟩
  have hC3 : (fun W : World => W.cell? ⟨w.heap.size, 2, none⟩ = some (.int .i64 (m : Int))) w3 := cell_keep HB3 hC2
  have hl3 := HO3.rd.2.len (P := Try.prog) 22 5 3 Try.underlying22
  rw [← hFl.out] at hl3
  refine hK _ _ (fun _ => hC3) ?_
  clear hK K
  refine ready_J 17 _ _ rfl (by kernel_rfl) rfl (fun K hK => ?_)
  go_simp
  refine hK _ _ (fun _ => hC3) ?_
  clear hK K
  refine ready_J 18 _ _ rfl (by kernel_rfl) rfl (fun K hK => ?_)
  go_simp
  refine hK _ _ (fun _ => hC3) ?_
  clear hK K
  refine ready_J 19 _ _ rfl (by kernel_rfl) rfl (fun K hK => ?_)
  go_simp
  refine hK _ _ (fun _ => hC3) ?_
  clear hK K
  refine wpAnyJ_done (by kernel_rfl) ?_ _
  go_wp2
  go_ret
  exact ⟨rfl, bel_trans hB2.out (bel_trans HB1 (bel_trans HB2 HB3))⟩
end Go.Proofs.Ytdmogbkfmeihfaa
