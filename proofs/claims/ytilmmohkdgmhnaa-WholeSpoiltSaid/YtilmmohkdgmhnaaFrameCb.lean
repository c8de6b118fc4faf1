import Derived.Test.YtilmmohkdgmhnaaFrameCa
import Derived.Test.YtilmmohkdgmhnaaFrameW
namespace Go.Proofs.Ytilmmohkdgmhnaa
open Go.RowKit
set_option maxRecDepth 100000
set_option linter.unusedVariables false
theorem FrL.size {W : World} {base : Nat} {eF e8 : TypeId} {lv : Value} {fs : List (Int × List Int)} (h : FrL W base eF e8 lv fs) : fs.length ≤ 9223372036854775807 := by
  obtain ⟨us, h1, h2, _⟩ := h
  obtain ⟨_, _, cap, _, k1, k2, _⟩ := RdC.own h2
  unfold maxLen at k2
  omega
set_option maxHeartbeats 2000000 in
theorem alike_any (b1 b2 : Nat) (lv lu : Value) (fs : List (Int × List Int)) (w : World) (H1 : FrL w b1 28 5 lv fs) (H2 : FrL w b2 28 5 lu fs) :
    Calls Try.prog 41 #[lv, lu] w fun e w' => e = .returned (.bool true) ∧ Below w.heap.size w w' := by
  have hsz := H1.size
  obtain ⟨us1, hus1, hrow1, hx1⟩ := id H1
  have hlen1 := (RdC.own hrow1).len (P := Try.prog) 52 28 3 Try.underlying52
  clear hx1 hrow1 hus1 us1
  obtain ⟨us2, hus2, hrow2, hx2⟩ := id H2
  have hlen2 := (RdC.own hrow2).len (P := Try.prog) 52 28 3 Try.underlying52
  clear hx2 hrow2 hus2 us2
  go_enter Try.func41, Try.ntmps41
  go_wp2
  go_loopw [5] (fun vi wr => ∃ k : Nat, k ≤ fs.length ∧ vi = .int .i64 k ∧ Below w.heap.size w wr) (fun i _ => fs.length - (intOf i).toNat)
  case atStart => exact ⟨0, Nat.zero_le _, rfl, Below.refl _ _⟩
  case round =>
    obtain ⟨k, hk, rfl, HB⟩ := hrel
    by_cases hlt : k < fs.length
    · obtain ⟨bl1, o1, A1, c1, i1, p1, q1, r1⟩ := (H1.keep HB).at k hlt
      obtain ⟨bl2, o2, A2, c2, i2, p2, q2, r2⟩ := (H2.keep HB).at k hlt
      generalize fs.getD k (0, []) = f at *
      have hlI : (k : Int) < (fs.length : Int) := by omega
      go_upto_region 4 with fail
      go_region_with (go_at_call 35; with_reducible refine (is_true _ _ _ _ _ _ _ _ _ (r1.keep (Below.refl _ _).drew) (r2.keep (Below.refl _ _).drew)).mono ?_; rintro e w1 ⟨rfl, HB1⟩)
      all_goals go_wp2
      all_goals go_roundw
      case rel => exact ⟨k + 1, by omega, by go_num, bel_trans HB (bel_trans (Below.refl _ _).drew HB1)⟩
      case measure => (simp [intOf]; try omega)
      case rel => exact ⟨k + 1, by omega, by go_num, bel_trans HB (bel_trans (Below.refl _ _).drew HB1)⟩
      case measure => (simp [intOf]; try omega)
    · obtain rfl : k = fs.length := by omega
      go_wp2
      go_ret
      exact ⟨rfl, HB⟩
end Go.Proofs.Ytilmmohkdgmhnaa
