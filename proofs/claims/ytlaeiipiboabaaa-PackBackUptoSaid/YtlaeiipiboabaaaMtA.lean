/- The law's function 'taken'. -/
import Derived.Test.YtlaeiipiboabaaaPbB
import Derived.Test.YtlaeiipiboabaaaMrA
import Derived.Deep.MidRow
namespace Go.Proofs.Ytlaeiipiboabaaa
open Go.RowKit
set_option maxRecDepth 100000
set_option linter.unusedVariables false
theorem exec_midM {P : Program} {o : Oper} {a : Act} {w : World} (ty : TypeId) (x : Operand) (ho : o.op = .load ty x) (b off : Nat) (hx : a.eval x = .pointer (some ⟨b, off, none⟩)) (cs : List Value) (d : TypeDesc) (hc : w.rangeAt b off cs)
    (hu : P.underlying ty = some d) (hd : d.isRow = true) (hi : (P.info? ty).map (·.size) = some cs.length) : (execOp a.eval o).run P w = .ok (.value (.agg cs.toArray)) w := by
  unfold execOp
  simp only [ho, hx, Instr.loadAt, Instr.sureAddr, Sem.run_bind, Sem.run_pure, Result.andThen_ok, run_loadVar_mid w b off ty cs d hc hu hd hi]
set_option maxHeartbeats 4000000 in
theorem taken_any (g : Nat) (v : Value) (B : List Int) (a : Nat) (err call n most m : Int) (V : Nat) (S k u : ByteArray) (F : Bool) (ds : List Int) (w : World) (h : Rr w g v B a err) (hd : ds.length = 32) (hm : most ≤ 9223372036854775807) (hok : tkOk B a err call V n most m S k u F ds) :
    Calls Try.prog 45 #[.pointer (some ⟨g, 0, none⟩), .agg (opC call V n most S F ds k u m)] w (fun e w' => e = .returned (.bool true) ∧ RrPost w g v B (tkStep B a err call most).1 (tkStep B a err call most).2 w') := by
  have hbx := Box.new w (opC call V n most S F ds k u m) 53
  have hB0 := al1 (Below.refl w.heap.size w) (.cells (opC call V n most S F ds k u m) 53)
  have e0 := hd_ (opC_lo call V n most S F ds k u m 0 (by decide))
  have e1 := hd_ (opC_lo call V n most S F ds k u m 1 (by decide))
  have e2 := hd_ (opC_lo call V n most S F ds k u m 2 (by decide))
  have e3 := hd_ (opC_lo call V n most S F ds k u m 3 (by decide))
  have e4 := hd_ (opC_lo call V n most S F ds k u m 4 (by decide))
  have e5 := hd_ (opC_lo call V n most S F ds k u m 5 (by decide))
  have q0 := hbx.cell 0 (v := .int .i64 call) e0.out
  have hp6 := hd_ (opC_ds call V n most S F ds k u m)
  have hp38 := hd_ (opC_row call V n most S F ds hd k u m)
  have hR0 := hd_ (h.keep hB0)
  have HB0 := hd_ hB0
  have hnb := hd_ (show w.heap.size ≠ g from fun e => by have := h.1.lt; omega)
  have hbH := hd_ hbx
  have hmH := hd_ hm
  have hdH := hd_ hd
  have hokH := hd_ hok
  have hiA : (Try.prog.info? 49).map (·.size) = some (u8A ds).toList.length := by rw [Array.length_toList, u8A_size, hd]; exact infoA32
  have hiR : (Try.prog.info? 51).map (·.size) = some (rowC k u m).toList.length := infoRw
  clear hbx hB0 h hd hm hok
  generalize hC : opC call V n most S F ds k u m = C at *
  clear hC
  by_cases h0 : call = 0
  · subst h0
    have hS : tkStep B a err 0 most = (rUint B a err).2 := rfl
    rw [hS]
    clear hS
    have hok := hokH.out.1 rfl
    go_enter Try.func45, Try.ntmps45
    go_upto_region 3 with fail
    have hBd := hd_ (Below.refl (w.alloc (.cells C 53)).heap.size (w.alloc (.cells C 53))).drew
    have hC0 : (fun W : World => Box W w.heap.size 53 C) (w.alloc (.cells C 53)).drew := hbH.out.keep hBd.out
    have hR1 := hd_ (hR0.out.keep hBd.out)
    have hB1 := hd_ (bel_trans HB0.out hBd.out)
    refine region_J [] (fun W : World => Box W w.heap.size 53 C) (by kernel_rfl) ?_
    generalize (w.alloc (.cells C 53)).drew = W1 at *
    refine take_J 0 _ _ (v := ?_) rfl (by kernel_rfl) (by kernel_rfl) (by kernel_rfl) (by kernel_rfl) (fun _ _ _ h => h) rfl hC0 ?_ ?_
    rotate_left
    · intro W hC; have c1 := Box.cell hC 1 e1.out; have c2 := Box.cell hC 2 e2.out; have c3 := Box.cell hC 3 e3.out; have c4 := Box.cell hC 4 e4.out; have c5 := Box.cell hC 5 e5.out; go_simp; try with_reducible rfl
    simp only [Act.put, List.setIfInBounds_toArray, List.set_cons_zero, List.set_cons_succ]
    refine take_J 2 _ _ (v := ?_) rfl (by kernel_rfl) (by kernel_rfl) (by kernel_rfl) (by kernel_rfl) (fun _ _ _ h => h) rfl hC0 ?_ ?_
    rotate_left
    · intro W hC; have c1 := Box.cell hC 1 e1.out; have c2 := Box.cell hC 2 e2.out; have c3 := Box.cell hC 3 e3.out; have c4 := Box.cell hC 4 e4.out; have c5 := Box.cell hC 5 e5.out; go_simp; try with_reducible rfl
    simp only [Act.put, List.setIfInBounds_toArray, List.set_cons_zero, List.set_cons_succ]
    refine take_J 3 _ _ (v := ?_) rfl (by kernel_rfl) (by kernel_rfl) (by kernel_rfl) (by kernel_rfl) (fun _ _ _ h => h) rfl hC0 ?_ ?_
    rotate_left
    · intro W hC; have c1 := Box.cell hC 1 e1.out; have c2 := Box.cell hC 2 e2.out; have c3 := Box.cell hC 3 e3.out; have c4 := Box.cell hC 4 e4.out; have c5 := Box.cell hC 5 e5.out; go_simp; try with_reducible rfl
    simp only [Act.put, List.setIfInBounds_toArray, List.set_cons_zero, List.set_cons_succ]
    refine ready_J 1 _ _ rfl (by kernel_rfl) rfl (fun K hK => ?_)
    go_simp
    with_reducible refine (R_Uint_any g v B a err _ hR1.out).mono ?_
    rintro e w1 ⟨rfl, P1⟩
    have hC1 : (fun W : World => Box W w.heap.size 53 C) w1 := Box.chg hC0 P1.2 (fun e => hnb.out e)
    have hP := P1.after hB1.out
    refine hK _ _ (fun _ => hC1) ?_
    clear hK K hC0
    have hC0 := hC1
    clear hC1
    rw [hok]
    refine ready_J 4 _ _ rfl (by kernel_rfl) rfl (fun K hK => ?_)
    go_simp
    refine hK _ _ (fun _ => hC0) ?_
    clear hK K
    refine ready_J 5 _ _ rfl (by kernel_rfl) rfl (fun K hK => ?_)
    go_simp
    refine hK _ _ (fun _ => hC0) ?_
    clear hK K
    refine wpAnyJ_done (by kernel_rfl) ?_ _
    go_wp2
    go_ret
    exact ⟨by simp, hP⟩
  by_cases h1 : call = 1
  · subst h1
    have hS : tkStep B a err 1 most = (rInt B a err most).2 := rfl
    rw [hS]
    clear hS
    have hok := hokH.out.2.1 rfl
    go_enter Try.func45, Try.ntmps45
    go_upto_region 5 with fail
    have hBd := hd_ (Below.refl (w.alloc (.cells C 53)).heap.size (w.alloc (.cells C 53))).drew
    have hC0 : (fun W : World => Box W w.heap.size 53 C) (w.alloc (.cells C 53)).drew := hbH.out.keep hBd.out
    have hR1 := hd_ (hR0.out.keep hBd.out)
    have hB1 := hd_ (bel_trans HB0.out hBd.out)
    refine region_J [] (fun W : World => Box W w.heap.size 53 C) (by kernel_rfl) ?_
    generalize (w.alloc (.cells C 53)).drew = W1 at *
    refine take_J 0 _ _ (v := ?_) rfl (by kernel_rfl) (by kernel_rfl) (by kernel_rfl) (by kernel_rfl) (fun _ _ _ h => h) rfl hC0 ?_ ?_
    rotate_left
    · intro W hC; have c1 := Box.cell hC 1 e1.out; have c2 := Box.cell hC 2 e2.out; have c3 := Box.cell hC 3 e3.out; have c4 := Box.cell hC 4 e4.out; have c5 := Box.cell hC 5 e5.out; go_simp; try with_reducible rfl
    simp only [Act.put, List.setIfInBounds_toArray, List.set_cons_zero, List.set_cons_succ]
    refine take_J 1 _ _ (v := ?_) rfl (by kernel_rfl) (by kernel_rfl) (by kernel_rfl) (by kernel_rfl) (fun _ _ _ h => h) rfl hC0 ?_ ?_
    rotate_left
    · intro W hC; have c1 := Box.cell hC 1 e1.out; have c2 := Box.cell hC 2 e2.out; have c3 := Box.cell hC 3 e3.out; have c4 := Box.cell hC 4 e4.out; have c5 := Box.cell hC 5 e5.out; go_simp; try with_reducible rfl
    simp only [Act.put, List.setIfInBounds_toArray, List.set_cons_zero, List.set_cons_succ]
    refine take_J 2 _ _ (v := ?_) rfl (by kernel_rfl) (by kernel_rfl) (by kernel_rfl) (by kernel_rfl) (fun _ _ _ h => h) rfl hC0 ?_ ?_
    rotate_left
    · intro W hC; have c1 := Box.cell hC 1 e1.out; have c2 := Box.cell hC 2 e2.out; have c3 := Box.cell hC 3 e3.out; have c4 := Box.cell hC 4 e4.out; have c5 := Box.cell hC 5 e5.out; go_simp; try with_reducible rfl
    simp only [Act.put, List.setIfInBounds_toArray, List.set_cons_zero, List.set_cons_succ]
    refine take_J 4 _ _ (v := ?_) rfl (by kernel_rfl) (by kernel_rfl) (by kernel_rfl) (by kernel_rfl) (fun _ _ _ h => h) rfl hC0 ?_ ?_
    rotate_left
    · intro W hC; have c1 := Box.cell hC 1 e1.out; have c2 := Box.cell hC 2 e2.out; have c3 := Box.cell hC 3 e3.out; have c4 := Box.cell hC 4 e4.out; have c5 := Box.cell hC 5 e5.out; go_simp; try with_reducible rfl
    simp only [Act.put, List.setIfInBounds_toArray, List.set_cons_zero, List.set_cons_succ]
    refine take_J 5 _ _ (v := ?_) rfl (by kernel_rfl) (by kernel_rfl) (by kernel_rfl) (by kernel_rfl) (fun _ _ _ h => h) rfl hC0 ?_ ?_
    rotate_left
    · intro W hC; have c1 := Box.cell hC 1 e1.out; have c2 := Box.cell hC 2 e2.out; have c3 := Box.cell hC 3 e3.out; have c4 := Box.cell hC 4 e4.out; have c5 := Box.cell hC 5 e5.out; go_simp; try with_reducible rfl
    simp only [Act.put, List.setIfInBounds_toArray, List.set_cons_zero, List.set_cons_succ]
    refine ready_J 3 _ _ rfl (by kernel_rfl) rfl (fun K hK => ?_)
    go_simp
    with_reducible refine (R_Int_any g v B a err most _ hR1.out hmH.out).mono ?_
    rintro e w1 ⟨rfl, P1⟩
    have hC1 : (fun W : World => Box W w.heap.size 53 C) w1 := Box.chg hC0 P1.2 (fun e => hnb.out e)
    have hP := P1.after hB1.out
    refine hK _ _ (fun _ => hC1) ?_
    clear hK K hC0
    have hC0 := hC1
    clear hC1
    rw [hok]
    refine ready_J 6 _ _ rfl (by kernel_rfl) rfl (fun K hK => ?_)
    go_simp
    refine hK _ _ (fun _ => hC0) ?_
    clear hK K
    refine ready_J 7 _ _ rfl (by kernel_rfl) rfl (fun K hK => ?_)
    go_simp
    refine hK _ _ (fun _ => hC0) ?_
    clear hK K
    refine wpAnyJ_done (by kernel_rfl) ?_ _
    go_wp2
    go_ret
    exact ⟨by simp, hP⟩
  by_cases h2 : call = 2
  · subst h2
    have hS : tkStep B a err 2 most = (rText B a err most).2 := rfl
    rw [hS]
    clear hS
    have hok := (show strOfNums (rText B a err most).1 = S by rw [hokH.out.2.2.1 rfl, str_back])
    go_enter Try.func45, Try.ntmps45
    go_upto_region 7 with fail
    have hBd := hd_ (Below.refl (w.alloc (.cells C 53)).heap.size (w.alloc (.cells C 53))).drew
    have hC0 : (fun W : World => Box W w.heap.size 53 C) (w.alloc (.cells C 53)).drew := hbH.out.keep hBd.out
    have hR1 := hd_ (hR0.out.keep hBd.out)
    have hB1 := hd_ (bel_trans HB0.out hBd.out)
    refine region_J [] (fun W : World => Box W w.heap.size 53 C) (by kernel_rfl) ?_
    generalize (w.alloc (.cells C 53)).drew = W1 at *
    refine take_J 0 _ _ (v := ?_) rfl (by kernel_rfl) (by kernel_rfl) (by kernel_rfl) (by kernel_rfl) (fun _ _ _ h => h) rfl hC0 ?_ ?_
    rotate_left
    · intro W hC; have c1 := Box.cell hC 1 e1.out; have c2 := Box.cell hC 2 e2.out; have c3 := Box.cell hC 3 e3.out; have c4 := Box.cell hC 4 e4.out; have c5 := Box.cell hC 5 e5.out; go_simp; try with_reducible rfl
    simp only [Act.put, List.setIfInBounds_toArray, List.set_cons_zero, List.set_cons_succ]
    refine take_J 1 _ _ (v := ?_) rfl (by kernel_rfl) (by kernel_rfl) (by kernel_rfl) (by kernel_rfl) (fun _ _ _ h => h) rfl hC0 ?_ ?_
    rotate_left
    · intro W hC; have c1 := Box.cell hC 1 e1.out; have c2 := Box.cell hC 2 e2.out; have c3 := Box.cell hC 3 e3.out; have c4 := Box.cell hC 4 e4.out; have c5 := Box.cell hC 5 e5.out; go_simp; try with_reducible rfl
    simp only [Act.put, List.setIfInBounds_toArray, List.set_cons_zero, List.set_cons_succ]
    refine take_J 2 _ _ (v := ?_) rfl (by kernel_rfl) (by kernel_rfl) (by kernel_rfl) (by kernel_rfl) (fun _ _ _ h => h) rfl hC0 ?_ ?_
    rotate_left
    · intro W hC; have c1 := Box.cell hC 1 e1.out; have c2 := Box.cell hC 2 e2.out; have c3 := Box.cell hC 3 e3.out; have c4 := Box.cell hC 4 e4.out; have c5 := Box.cell hC 5 e5.out; go_simp; try with_reducible rfl
    simp only [Act.put, List.setIfInBounds_toArray, List.set_cons_zero, List.set_cons_succ]
    refine take_J 4 _ _ (v := ?_) rfl (by kernel_rfl) (by kernel_rfl) (by kernel_rfl) (by kernel_rfl) (fun _ _ _ h => h) rfl hC0 ?_ ?_
    rotate_left
    · intro W hC; have c1 := Box.cell hC 1 e1.out; have c2 := Box.cell hC 2 e2.out; have c3 := Box.cell hC 3 e3.out; have c4 := Box.cell hC 4 e4.out; have c5 := Box.cell hC 5 e5.out; go_simp; try with_reducible rfl
    simp only [Act.put, List.setIfInBounds_toArray, List.set_cons_zero, List.set_cons_succ]
    refine take_J 5 _ _ (v := ?_) rfl (by kernel_rfl) (by kernel_rfl) (by kernel_rfl) (by kernel_rfl) (fun _ _ _ h => h) rfl hC0 ?_ ?_
    rotate_left
    · intro W hC; have c1 := Box.cell hC 1 e1.out; have c2 := Box.cell hC 2 e2.out; have c3 := Box.cell hC 3 e3.out; have c4 := Box.cell hC 4 e4.out; have c5 := Box.cell hC 5 e5.out; go_simp; try with_reducible rfl
    simp only [Act.put, List.setIfInBounds_toArray, List.set_cons_zero, List.set_cons_succ]
    refine ready_J 3 _ _ rfl (by kernel_rfl) rfl (fun K hK => ?_)
    go_simp
    with_reducible refine (R_Text_any g v B a err most _ hR1.out hmH.out).mono ?_
    rintro e w1 ⟨rfl, P1⟩
    have hC1 : (fun W : World => Box W w.heap.size 53 C) w1 := Box.chg hC0 P1.2 (fun e => hnb.out e)
    have hP := P1.after hB1.out
    refine hK _ _ (fun _ => hC1) ?_
    clear hK K hC0
    have hC0 := hC1
    clear hC1
    rw [hok]
    refine ready_J 6 _ _ rfl (by kernel_rfl) rfl (fun K hK => ?_)
    go_simp
    refine hK _ _ (fun _ => hC0) ?_
    clear hK K
    refine ready_J 7 _ _ rfl (by kernel_rfl) rfl (fun K hK => ?_)
    go_simp
    refine hK _ _ (fun _ => hC0) ?_
    clear hK K
    refine wpAnyJ_done (by kernel_rfl) ?_ _
    go_wp2
    go_ret
    exact ⟨by simp, hP⟩
  by_cases h3 : call = 3
  · subst h3
    have hS : tkStep B a err 3 most = (rFlag B a err).2 := rfl
    rw [hS]
    clear hS
    have hok := hokH.out.2.2.2.1 rfl
    go_enter Try.func45, Try.ntmps45
    go_upto_region 9 with fail
    have hBd := hd_ (Below.refl (w.alloc (.cells C 53)).heap.size (w.alloc (.cells C 53))).drew
    have hC0 : (fun W : World => Box W w.heap.size 53 C) (w.alloc (.cells C 53)).drew := hbH.out.keep hBd.out
    have hR1 := hd_ (hR0.out.keep hBd.out)
    have hB1 := hd_ (bel_trans HB0.out hBd.out)
    refine region_J [] (fun W : World => Box W w.heap.size 53 C) (by kernel_rfl) ?_
    generalize (w.alloc (.cells C 53)).drew = W1 at *
    refine take_J 0 _ _ (v := ?_) rfl (by kernel_rfl) (by kernel_rfl) (by kernel_rfl) (by kernel_rfl) (fun _ _ _ h => h) rfl hC0 ?_ ?_
    rotate_left
    · intro W hC; have c1 := Box.cell hC 1 e1.out; have c2 := Box.cell hC 2 e2.out; have c3 := Box.cell hC 3 e3.out; have c4 := Box.cell hC 4 e4.out; have c5 := Box.cell hC 5 e5.out; go_simp; try with_reducible rfl
    simp only [Act.put, List.setIfInBounds_toArray, List.set_cons_zero, List.set_cons_succ]
    refine take_J 2 _ _ (v := ?_) rfl (by kernel_rfl) (by kernel_rfl) (by kernel_rfl) (by kernel_rfl) (fun _ _ _ h => h) rfl hC0 ?_ ?_
    rotate_left
    · intro W hC; have c1 := Box.cell hC 1 e1.out; have c2 := Box.cell hC 2 e2.out; have c3 := Box.cell hC 3 e3.out; have c4 := Box.cell hC 4 e4.out; have c5 := Box.cell hC 5 e5.out; go_simp; try with_reducible rfl
    simp only [Act.put, List.setIfInBounds_toArray, List.set_cons_zero, List.set_cons_succ]
    refine take_J 3 _ _ (v := ?_) rfl (by kernel_rfl) (by kernel_rfl) (by kernel_rfl) (by kernel_rfl) (fun _ _ _ h => h) rfl hC0 ?_ ?_
    rotate_left
    · intro W hC; have c1 := Box.cell hC 1 e1.out; have c2 := Box.cell hC 2 e2.out; have c3 := Box.cell hC 3 e3.out; have c4 := Box.cell hC 4 e4.out; have c5 := Box.cell hC 5 e5.out; go_simp; try with_reducible rfl
    simp only [Act.put, List.setIfInBounds_toArray, List.set_cons_zero, List.set_cons_succ]
    refine ready_J 1 _ _ rfl (by kernel_rfl) rfl (fun K hK => ?_)
    go_simp
    with_reducible refine (R_Flag_any g v B a err _ hR1.out).mono ?_
    rintro e w1 ⟨rfl, P1⟩
    have hC1 : (fun W : World => Box W w.heap.size 53 C) w1 := Box.chg hC0 P1.2 (fun e => hnb.out e)
    have hP := P1.after hB1.out
    refine hK _ _ (fun _ => hC1) ?_
    clear hK K hC0
    have hC0 := hC1
    clear hC1
    rw [hok]
    refine ready_J 4 _ _ rfl (by kernel_rfl) rfl (fun K hK => ?_)
    go_simp
    refine hK _ _ (fun _ => hC0) ?_
    clear hK K
    refine ready_J 5 _ _ rfl (by kernel_rfl) rfl (fun K hK => ?_)
    go_simp
    refine hK _ _ (fun _ => hC0) ?_
    clear hK K
    refine wpAnyJ_done (by kernel_rfl) ?_ _
    go_wp2
    go_ret
    exact ⟨by simp, hP⟩
  by_cases h4 : call = 4
  · subst h4
    have hS : tkStep B a err 4 most = (rDigest B a err).2 := rfl
    rw [hS]
    clear hS
    have hok := hokH.out.2.2.2.2.1 rfl
    have heq := eqDgR ds hdH.out
    go_enter Try.func45, Try.ntmps45
    go_upto_region 11 with fail
    have hBd := hd_ (Below.refl (w.alloc (.cells C 53)).heap.size (w.alloc (.cells C 53))).drew
    have hC0 : (fun W : World => Box W w.heap.size 53 C) (w.alloc (.cells C 53)).drew := hbH.out.keep hBd.out
    have hR1 := hd_ (hR0.out.keep hBd.out)
    have hB1 := hd_ (bel_trans HB0.out hBd.out)
    refine region_J [] (fun W : World => Box W w.heap.size 53 C) (by kernel_rfl) ?_
    generalize (w.alloc (.cells C 53)).drew = W1 at *
    refine take_J 0 _ _ (v := ?_) rfl (by kernel_rfl) (by kernel_rfl) (by kernel_rfl) (by kernel_rfl) (fun _ _ _ h => h) rfl hC0 ?_ ?_
    rotate_left
    · intro W hC; have c1 := Box.cell hC 1 e1.out; have c2 := Box.cell hC 2 e2.out; have c3 := Box.cell hC 3 e3.out; have c4 := Box.cell hC 4 e4.out; have c5 := Box.cell hC 5 e5.out; go_simp; try with_reducible rfl
    simp only [Act.put, List.setIfInBounds_toArray, List.set_cons_zero, List.set_cons_succ]
    refine take_J 2 _ _ (v := ?_) rfl (by kernel_rfl) (by kernel_rfl) (by kernel_rfl) (by kernel_rfl) (fun _ _ _ h => h) rfl hC0 ?_ ?_
    rotate_left
    · intro W hC; have c1 := Box.cell hC 1 e1.out; have c2 := Box.cell hC 2 e2.out; have c3 := Box.cell hC 3 e3.out; have c4 := Box.cell hC 4 e4.out; have c5 := Box.cell hC 5 e5.out; go_simp; try with_reducible rfl
    simp only [Act.put, List.setIfInBounds_toArray, List.set_cons_zero, List.set_cons_succ]
    refine take_J 3 _ _ rfl (by kernel_rfl) (by kernel_rfl) (by kernel_rfl) (by kernel_rfl) (fun _ _ _ h => h) rfl hC0 (fun W hC => exec_midM 49 _ rfl w.heap.size 6 rfl (u8A ds).toList _ ?_ Try.underlying49 rfl hiA) ?_
    · intro j x hj
      rw [Array.getElem?_toList] at hj
      have hjl := (Array.getElem?_eq_some_iff.1 hj).1
      exact Box.cell hC (6 + j) (by rw [hp6.out j hjl]; exact hj)
    simp only [Act.put, List.setIfInBounds_toArray, List.set_cons_zero, List.set_cons_succ, Array.toArray_toList]
    refine ready_J 1 _ _ rfl (by kernel_rfl) rfl (fun K hK => ?_)
    go_simp
    with_reducible refine (R_Digest_any g v B a err _ hR1.out).mono ?_
    rintro e w1 ⟨rfl, P1⟩
    have hC1 : (fun W : World => Box W w.heap.size 53 C) w1 := Box.chg hC0 P1.2 (fun e => hnb.out e)
    have hP := P1.after hB1.out
    refine hK _ _ (fun _ => hC1) ?_
    clear hK K hC0
    have hC0 := hC1
    clear hC1
    rw [hok]
    refine ready_J 4 _ _ rfl (by kernel_rfl) rfl (fun K hK => ?_)
    go_simp
    refine hK _ _ (fun _ => hC0) ?_
    clear hK K
    refine ready_J 5 _ _ rfl (by kernel_rfl) rfl (fun K hK => ?_)
    go_simp
    refine hK _ _ (fun _ => hC0) ?_
    clear hK K
    refine wpAnyJ_done (by kernel_rfl) ?_ _
    go_wp2
    go_ret
    exact ⟨by simp, hP⟩
  by_cases h5 : call = 5
  · subst h5
    have hS : tkStep B a err 5 most = (rRow B a err).2 := rfl
    rw [hS]
    clear hS
    have hok := (show rowC (strOfNums (rRow B a err).1.1) (strOfNums (rRow B a err).1.2.1) (rRow B a err).1.2.2 = rowC k u m by rw [hokH.out.2.2.2.2.2 rfl]; simp only [str_back])
    have heq := eqRwR k u m
    go_enter Try.func45, Try.ntmps45
    go_upto_region 13 with fail
    have hBd := hd_ (Below.refl (w.alloc (.cells C 53)).heap.size (w.alloc (.cells C 53))).drew
    have hC0 : (fun W : World => Box W w.heap.size 53 C) (w.alloc (.cells C 53)).drew := hbH.out.keep hBd.out
    have hR1 := hd_ (hR0.out.keep hBd.out)
    have hB1 := hd_ (bel_trans HB0.out hBd.out)
    refine region_J [] (fun W : World => Box W w.heap.size 53 C) (by kernel_rfl) ?_
    generalize (w.alloc (.cells C 53)).drew = W1 at *
    refine take_J 0 _ _ (v := ?_) rfl (by kernel_rfl) (by kernel_rfl) (by kernel_rfl) (by kernel_rfl) (fun _ _ _ h => h) rfl hC0 ?_ ?_
    rotate_left
    · intro W hC; have c1 := Box.cell hC 1 e1.out; have c2 := Box.cell hC 2 e2.out; have c3 := Box.cell hC 3 e3.out; have c4 := Box.cell hC 4 e4.out; have c5 := Box.cell hC 5 e5.out; go_simp; try with_reducible rfl
    simp only [Act.put, List.setIfInBounds_toArray, List.set_cons_zero, List.set_cons_succ]
    refine take_J 2 _ _ (v := ?_) rfl (by kernel_rfl) (by kernel_rfl) (by kernel_rfl) (by kernel_rfl) (fun _ _ _ h => h) rfl hC0 ?_ ?_
    rotate_left
    · intro W hC; have c1 := Box.cell hC 1 e1.out; have c2 := Box.cell hC 2 e2.out; have c3 := Box.cell hC 3 e3.out; have c4 := Box.cell hC 4 e4.out; have c5 := Box.cell hC 5 e5.out; go_simp; try with_reducible rfl
    simp only [Act.put, List.setIfInBounds_toArray, List.set_cons_zero, List.set_cons_succ]
    refine take_J 3 _ _ rfl (by kernel_rfl) (by kernel_rfl) (by kernel_rfl) (by kernel_rfl) (fun _ _ _ h => h) rfl hC0 (fun W hC => exec_midM 51 _ rfl w.heap.size 38 rfl (rowC k u m).toList _ ?_ Try.underlying51 rfl hiR) ?_
    · intro j x hj
      rw [Array.getElem?_toList] at hj
      have hjl := (Array.getElem?_eq_some_iff.1 hj).1
      exact Box.cell hC (38 + j) (by rw [hp38.out j hjl]; exact hj)
    simp only [Act.put, List.setIfInBounds_toArray, List.set_cons_zero, List.set_cons_succ, Array.toArray_toList]
    refine ready_J 1 _ _ rfl (by kernel_rfl) rfl (fun K hK => ?_)
    go_simp
    with_reducible refine (R_Row_any g v B a err _ hR1.out).mono ?_
    rintro e w1 ⟨rfl, P1⟩
    have hC1 : (fun W : World => Box W w.heap.size 53 C) w1 := Box.chg hC0 P1.2 (fun e => hnb.out e)
    have hP := P1.after hB1.out
    refine hK _ _ (fun _ => hC1) ?_
    clear hK K hC0
    have hC0 := hC1
    clear hC1
    rw [hok]
    refine ready_J 4 _ _ rfl (by kernel_rfl) rfl (fun K hK => ?_)
    go_simp
    refine hK _ _ (fun _ => hC0) ?_
    clear hK K
    refine ready_J 5 _ _ rfl (by kernel_rfl) rfl (fun K hK => ?_)
    go_simp
    refine hK _ _ (fun _ => hC0) ?_
    clear hK K
    refine wpAnyJ_done (by kernel_rfl) ?_ _
    go_wp2
    go_ret
    exact ⟨by simp, hP⟩
  have b0 : (call == 0) = false := beq_false_of_ne h0
  have b1 : (call == 1) = false := beq_false_of_ne h1
  have b2 : (call == 2) = false := beq_false_of_ne h2
  have b3 : (call == 3) = false := beq_false_of_ne h3
  have b4 : (call == 4) = false := beq_false_of_ne h4
  have b5 : (call == 5) = false := beq_false_of_ne h5
  have hS : tkStep B a err call most = (a, err) := by unfold tkStep; rw [if_neg h0, if_neg h1, if_neg h2, if_neg h3, if_neg h4, if_neg h5]
  rw [hS]
  clear hS
  go_enter Try.func45, Try.ntmps45
  go_wp2
  go_ret
  exact ⟨rfl, hR0.out.same.after HB0.out⟩
end Go.Proofs.Ytlaeiipiboabaaa
