import Derived.Test.YtilmmohkdgmhnaaProg
import Derived.Test.YtilmmohkdgmhnaaCrcBits
import Derived.Test.YtilmmohkdgmhnaaMem
import Derived.WalkKit
import Derived.Below
import Derived.WalkLawsBesides
import Derived.WalkSpells
namespace Go.Proofs.Ytilmmohkdgmhnaa
open Go.RowKit
set_option maxRecDepth 100000
set_option linter.unusedVariables false
theorem ref_timesX_any (a : Int) (h0 : 0 ≤ a) (h1 : a < 4294967296) (w : World) : Calls Try.prog 73 #[.int .u32 a] w fun e w' => e = .returned (.int .u32 (I (up (b32 a)))) ∧ w = w' := by
  have hb := bit0_i a
  cases h : (b32 a).getLsbD 0
  · rw [h] at hb
    have hu := up_clear h0 h1 h
    rw [← hu]
    clear hu h
    go_enter Try.func73, Try.ntmps73
    go_wp2
    go_ret
    exact ⟨rfl, rfl⟩
  · rw [h] at hb
    have hu := up_set h0 h1 h
    rw [← hu]
    clear hu h
    go_enter Try.func73, Try.ntmps73
    go_wp2
    go_ret
    exact ⟨rfl, rfl⟩
theorem ref_Mul_any (a b : Int) (a0 : 0 ≤ a) (a1 : a < 4294967296) (b0 : 0 ≤ b) (b1 : b < 4294967296) (w : World) :
    Calls Try.prog 67 #[.int .u32 a, .int .u32 b] w fun e w' => e = .returned (.int .u32 (I (mul (b32 a) (b32 b)))) ∧ w = w' := by
  go_enter Try.func67, Try.ntmps67
  go_wp2
  go_loop [0, 5, 6] (fun va vp vi => ∃ (k : Nat) (j : Int) (x p : W32), k ≤ 32 ∧ j = 31 - (k : Int) ∧ va = .int .u32 (I x) ∧ vp = .int .u32 (I p) ∧ vi = .int .i64 j ∧ Hid (mulL (b32 b) (32 - k) p x = mul (b32 a) (b32 b))) (fun _ _ i => (intOf i + 1).toNat)
  case atStart => exact ⟨0, 31, b32 a, 0#32, by omega, rfl, by rw [I_b32 a0 a1], rfl, rfl, rfl⟩
  case round =>
    obtain ⟨k, j, x, p, hk, hj, rfl, rfl, rfl, H⟩ := hrel
    by_cases hlt : k < 32
    · obtain ⟨m, rfl⟩ : ∃ m : Nat, j = (m : Int) := ⟨31 - k, by omega⟩
      obtain rfl : k = 31 - m := by omega
      have hm : m < 32 := by omega
      have hb := bitk_i b0 b1 m
      have H2 := hd_ (mulL_step hlt H.out)
      rw [show 31 - (31 - m) = m by omega] at H2
      clear H hj
      cases h : (b32 b).getLsbD m
      all_goals
        rw [h] at hb H2
        clear h
        go_wp2_with (go_at_call 73; refine (ref_timesX_any _ (I_lo _) (I_hi _) _).mono ?_; rintro e w' ⟨rfl, rfl⟩)
        go_round
        case rel => exact ⟨31 - m + 1, m - 1, up x, _, by omega, by omega, by rw [b32_I], by first | rfl | (rw [xor_I]; rfl), by go_num, H2.out⟩
        case measure => (simp [intOf]; try omega)
    · obtain rfl : k = 32 := by omega
      have H2 : p = mul (b32 a) (b32 b) := H.out
      subst H2
      obtain rfl : j = -1 := by omega
      go_wp2
      go_ret
      exact ⟨rfl, rfl⟩
end Go.Proofs.Ytilmmohkdgmhnaa
