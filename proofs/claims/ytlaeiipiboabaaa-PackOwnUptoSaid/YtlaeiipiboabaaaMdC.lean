/- What a reader that no call made answers to one call: the law's function. -/
import Derived.Test.YtlaeiipiboabaaaMdB
namespace Go.Proofs.Ytlaeiipiboabaaa
open Go.RowKit
set_option maxRecDepth 100000
set_option linter.unusedVariables false
theorem infoU8m : (Try.prog.info? 5).map (fun i => (i.zero, i.size, i.bytes)) = some (some (.int .u8 0), 1, 1) := by kernel_rfl
theorem eqDg0 (W : World) : Sem.run Try.prog (Op.equalIn 10000 99 (.agg (u8A (List.replicate 32 0))) (.agg #[.int .u8 0, .int .u8 0, .int .u8 0, .int .u8 0, .int .u8 0, .int .u8 0, .int .u8 0, .int .u8 0, .int .u8 0, .int .u8 0, .int .u8 0, .int .u8 0, .int .u8 0, .int .u8 0, .int .u8 0, .int .u8 0, .int .u8 0, .int .u8 0, .int .u8 0, .int .u8 0, .int .u8 0, .int .u8 0, .int .u8 0, .int .u8 0, .int .u8 0, .int .u8 0, .int .u8 0, .int .u8 0, .int .u8 0, .int .u8 0, .int .u8 0, .int .u8 0])) W = .ok true W := by
  obtain ⟨i0, hi, _⟩ := info_parts infoU8m
  have h := eqArr (P := Try.prog) Try.underlying5 (by kernel_rfl) 9998 W Try.underlying99 hi (List.replicate 32 0) (List.replicate 32 0) rfl rfl
  rw [decide_eq_true rfl] at h
  exact h
theorem eqDg1 (W : World) : Sem.run Try.prog (Op.equalIn 10000 99 (.agg (u8A [0, 0, 0, 0, 0, 0, 0, 0, 0, 0, 0, 0, 0, 0, 0, 0, 0, 0, 0, 0, 0, 0, 0, 0, 0, 0, 0, 0, 0, 0, 0, 0])) (.agg #[.int .u8 0, .int .u8 0, .int .u8 0, .int .u8 0, .int .u8 0, .int .u8 0, .int .u8 0, .int .u8 0, .int .u8 0, .int .u8 0, .int .u8 0, .int .u8 0, .int .u8 0, .int .u8 0, .int .u8 0, .int .u8 0, .int .u8 0, .int .u8 0, .int .u8 0, .int .u8 0, .int .u8 0, .int .u8 0, .int .u8 0, .int .u8 0, .int .u8 0, .int .u8 0, .int .u8 0, .int .u8 0, .int .u8 0, .int .u8 0, .int .u8 0, .int .u8 0])) W = .ok true W := eqDg0 W
set_option maxHeartbeats 2000000 in
theorem N_none (r : Value) (C : Array Value) (call n most : Int) (w : World) (h : NoR w r) (c0 : C[0]? = some (.int .i64 call)) (c2 : C[2]? = some (.int .i64 n)) (c3 : C[3]? = some (.int .i64 most)) :
    Calls Try.prog 48 #[r, .agg C] w fun e w' => e = .returned (.bool true) ∧ Below w.heap.size w w' := by
  have hbx := Box.new w C 53
  have hB0 := al1 (Below.refl w.heap.size w) (.cells C 53)
  have q0 := hbx.cell 0 c0
  have q2 := hbx.cell 2 c2
  have q3 := hbx.cell 3 c3
  have hN := hd_ (h.keep hB0)
  have HB0 := hd_ hB0
  have heq := eqDg1
  clear hbx c0 c2 c3 h hB0
  by_cases h6 : call = 6
  · subst h6
    go_enter Try.func48, Try.ntmps48
    go_wp2_with (first
      | (go_at_call 81; (with_reducible refine (N_Fail _ n _ hN.out).mono ?_); rintro e w0 ⟨rfl, rfl⟩)
      | (go_at_call 31; (with_reducible refine (N_At _ _ hN.out).mono ?_); rintro e w1 ⟨rfl, HB1⟩; have hN1 := hd_ (hN.out.keep HB1))
      | (go_at_call 30; (with_reducible refine (N_Left _ _ hN1.out).mono ?_); rintro e w2 ⟨rfl, HB2⟩; have hN2 := hd_ (hN1.out.keep HB2))
      | (go_at_call 38; (with_reducible refine (N_Err _ _ hN2.out).mono ?_); rintro e w3 ⟨rfl, HB3⟩; have hN3 := hd_ (hN2.out.keep HB3))
      | (go_at_call 46; (with_reducible refine (N_End _ _ hN3.out).mono ?_); rintro e w4 ⟨rfl, HB4⟩))
    go_ret
    exact ⟨rfl, bel_trans HB0.out (bel_trans HB1 (bel_trans HB2 (bel_trans HB3 HB4)))⟩
  by_cases h0 : call = 0
  · subst h0
    go_enter Try.func48, Try.ntmps48
    go_wp2_with (go_at_call 15; (with_reducible refine (N_Uint _ _ hN.out).mono ?_); rintro e w1 ⟨rfl, HB1⟩)
    go_ret
    exact ⟨rfl, bel_trans HB0.out HB1⟩
  by_cases h1 : call = 1
  · subst h1
    go_enter Try.func48, Try.ntmps48
    go_wp2_with (go_at_call 70; (with_reducible refine (N_Int _ most _ hN.out).mono ?_); rintro e w1 ⟨rfl, HB1⟩)
    go_ret
    exact ⟨rfl, bel_trans HB0.out HB1⟩
  by_cases h2 : call = 2
  · subst h2
    go_enter Try.func48, Try.ntmps48
    go_wp2_with (go_at_call 28; (with_reducible refine (N_Text _ most _ hN.out).mono ?_); rintro e w1 ⟨rfl, HB1⟩)
    go_ret
    exact ⟨rfl, bel_trans HB0.out HB1⟩
  by_cases h3 : call = 3
  · subst h3
    go_enter Try.func48, Try.ntmps48
    go_wp2_with (go_at_call 40; (with_reducible refine (N_Flag _ _ hN.out).mono ?_); rintro e w1 ⟨rfl, HB1⟩)
    go_ret
    exact ⟨rfl, bel_trans HB0.out HB1⟩
  by_cases h4 : call = 4
  · subst h4
    go_enter Try.func48, Try.ntmps48
    go_wp2_with (go_at_call 78; (with_reducible refine (N_Digest _ _ hN.out).mono ?_); rintro e w1 ⟨rfl, HB1⟩)
    go_ret
    exact ⟨rfl, bel_trans HB0.out HB1⟩
  by_cases h5 : call = 5
  · subst h5
    go_enter Try.func48, Try.ntmps48
    go_wp2_with (go_at_call 42; (with_reducible refine (N_Row _ _ hN.out).mono ?_); rintro e w1 ⟨rfl, HB1⟩)
    go_ret
    exact ⟨rfl, bel_trans HB0.out HB1⟩
  by_cases h8 : call = 8
  · subst h8
    go_enter Try.func48, Try.ntmps48
    go_wp2_with (go_at_call 29; (with_reducible refine (N_Count _ most n _ hN.out).mono ?_); rintro e w1 ⟨rfl, HB1⟩)
    go_ret
    exact ⟨rfl, bel_trans HB0.out HB1⟩
  have b6 : (call == 6) = false := beq_false_of_ne h6
  have b0 : (call == 0) = false := beq_false_of_ne h0
  have b1 : (call == 1) = false := beq_false_of_ne h1
  have b2 : (call == 2) = false := beq_false_of_ne h2
  have b3 : (call == 3) = false := beq_false_of_ne h3
  have b4 : (call == 4) = false := beq_false_of_ne h4
  have b5 : (call == 5) = false := beq_false_of_ne h5
  have b8 : (call == 8) = false := beq_false_of_ne h8
  go_enter Try.func48, Try.ntmps48
  go_wp2_with (first
    | fail
    | (go_at_call 31; (with_reducible refine (N_At _ _ hN.out).mono ?_); rintro e w1 ⟨rfl, HB1⟩; have hN1 := hd_ (hN.out.keep HB1))
    | (go_at_call 30; (with_reducible refine (N_Left _ _ hN1.out).mono ?_); rintro e w2 ⟨rfl, HB2⟩; have hN2 := hd_ (hN1.out.keep HB2))
    | (go_at_call 38; (with_reducible refine (N_Err _ _ hN2.out).mono ?_); rintro e w3 ⟨rfl, HB3⟩; have hN3 := hd_ (hN2.out.keep HB3))
    | (go_at_call 46; (with_reducible refine (N_End _ _ hN3.out).mono ?_); rintro e w4 ⟨rfl, HB4⟩))
  go_ret
  exact ⟨rfl, bel_trans HB0.out (bel_trans HB1 (bel_trans HB2 (bel_trans HB3 HB4)))⟩
end Go.Proofs.Ytlaeiipiboabaaa
