import Derived.Test.YtdifppahpihhpaaCrcE
import Derived.Test.YtdifppahpihhpaaOpen
namespace Go.Proofs.Ytdifppahpihhpaa
open Go.RowKit
set_option maxRecDepth 100000
set_option linter.unusedVariables false
theorem law_CrcMuls (w : World) (a : Int) (ha : (Lit.int .u32 a).wf = true) (b : Int) (hb : (Lit.int .u32 b).wf = true) :
    Calls Try.prog 4 #[.int .u32 a, .int .u32 b] w fun e w' => e = .returned (.bool true) ∧ Below w.heap.size w w' := by
  obtain ⟨a0, a1⟩ := wf_u32 ha
  obtain ⟨b0, b1⟩ := wf_u32 hb
  clear ha hb
  go_enter Try.func4, Try.ntmps4
  go_wp2_with (first | (go_at_call 24; refine (crc_Mul_any _ _ a0 a1 b0 b1 _).mono ?_; rintro e w' ⟨rfl, rfl⟩) | (go_at_call 25; refine (ref_Mul_any _ _ a0 a1 b0 b1 _).mono ?_; rintro e w' ⟨rfl, rfl⟩))
  go_ret
  exact ⟨rfl, Below.refl _ _⟩
theorem law_CrcPowers (w : World) (a : Int) (ha : (Lit.int .u64 a).wf = true) :
    Calls Try.prog 7 #[.int .u64 a] w fun e w' => e = .returned (.bool true) ∧ Below w.heap.size w w' := by
  obtain ⟨n, rfl, hn⟩ := wf_u64 ha
  clear ha
  go_enter Try.func7, Try.ntmps7
  go_wp2_with (first | (go_at_call 33; refine (crc_Power_any _ hn _).mono ?_; rintro e w' ⟨rfl, rfl⟩) | (go_at_call 34; refine (ref_Power_any _ hn _).mono ?_; rintro e w' ⟨rfl, rfl⟩))
  go_ret
  exact ⟨rfl, Below.refl _ _⟩
theorem law_CrcJoins (w : World) (a : Int) (ha : (Lit.int .u32 a).wf = true) (b : Int) (hb : (Lit.int .u32 b).wf = true) (n : Int) (hn : (Lit.int .i64 n).wf = true) :
    Calls Try.prog 13 #[.int .u32 a, .int .u32 b, .int .i64 n] w fun e w' => e = .returned (.bool true) ∧ Below w.heap.size w w' := by
  obtain ⟨a0, a1⟩ := wf_u32 ha
  obtain ⟨b0, b1⟩ := wf_u32 hb
  obtain ⟨n0, n1⟩ := wf_i64 hn
  obtain ⟨x, rfl⟩ := word_of a0 a1
  obtain ⟨y, rfl⟩ := word_of b0 b1
  clear ha hb hn a0 a1 b0 b1
  by_cases hneg : n < 0
  · go_enter Try.func13, Try.ntmps13
    go_wp2_with (first | (go_at_call 43; refine (crc_Join_neg _ _ _ hneg _).mono ?_; rintro e w' ⟨rfl, rfl⟩) | (go_at_call 44; refine (ref_Join_neg _ _ _ hneg _).mono ?_; rintro e w' ⟨rfl, rfl⟩) | (go_at_call 26; refine (num_any _ _).mono ?_; rintro e w' ⟨rfl, rfl⟩))
    go_ret
    exact ⟨rfl, Below.refl _ _⟩
  · go_enter Try.func13, Try.ntmps13
    go_wp2_with (first | (go_at_call 43; refine (crc_Join_any _ _ _ (by omega) (by omega) _).mono ?_; rintro e w' ⟨rfl, rfl⟩) | (go_at_call 44; refine (ref_Join_any _ _ _ (by omega) (by omega) _).mono ?_; rintro e w' ⟨rfl, rfl⟩) | (go_at_call 26; refine (num_any _ _).mono ?_; rintro e w' ⟨rfl, rfl⟩))
    go_ret
    exact ⟨rfl, Below.refl _ _⟩
end Go.Proofs.Ytdifppahpihhpaa
