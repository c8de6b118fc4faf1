import Derived.Test.YtdifppahpihhpaaCrcM
namespace Go.Proofs.Ytdifppahpihhpaa
open Go.RowKit
set_option maxRecDepth 100000
set_option linter.unusedVariables false
set_option maxHeartbeats 1000000 in
theorem law_CrcSums (w : World) (v : Value) (xss : List (List Int)) (HR : RdL w v xss) (hcnt : xss.length * 24 ≤ 140737488351232) (hl : ∀ xs ∈ xss, xs.length ≤ 140737488351232) (ht : xss.flatten.length + xss.length ≤ 1048576) :
    Calls Try.prog 6 #[v] w fun e w' => e = .returned (.bool true) ∧ Below w.heap.size w w' := by
  go_enter Try.func6, Try.ntmps6
  go_wp2_with fail
  refine (twin_any v xss w HR hl hcnt).mono ?_
  rintro e w1 ⟨u, rfl, HL1, HB1⟩
  go_wp2_with fail
  refine (crc_Sum_any _ _ _ HL1).mono ?_
  rintro e w2 ⟨rfl, HB2⟩
  have HL2 := HL1.keep HB2
  have hB2 := bel_trans HB1 HB2
  go_wp2_with fail
  refine (crc_Sum_any _ _ _ HL2).mono ?_
  rintro e w3 ⟨rfl, HB3⟩
  have HL3 := HL2.keep HB3
  have hB3 := bel_trans hB2 HB3
  go_wp2_with fail
  refine (ref_Joined_any _ _ _ (HR.keep hB3) (by omega)).mono ?_
  rintro e w4 ⟨v4, rfl, HO4, HB4⟩
  have HL4 := HL3.keep HB4
  have hB4 := bel_trans hB3 HB4
  go_wp2_with fail
  refine (ref_Sum_any _ _ _ HO4.rd (by omega)).mono ?_
  rintro e w5 ⟨rfl, rfl⟩
  go_wp2_with fail
  refine (same_any _ _ xss xss _ HL4 (HR.keep hB4) rfl).mono ?_
  rintro e w6 ⟨rfl, HB6⟩
  rw [decide_eq_true rfl]
  go_wp2
  go_ret
  exact ⟨rfl, bel_trans hB4 HB6⟩
end Go.Proofs.Ytdifppahpihhpaa
