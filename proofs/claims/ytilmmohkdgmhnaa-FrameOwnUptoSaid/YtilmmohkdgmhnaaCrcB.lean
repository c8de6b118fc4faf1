import Derived.Test.YtilmmohkdgmhnaaCrcA
namespace Go.Proofs.Ytilmmohkdgmhnaa
open Go.RowKit
set_option maxRecDepth 100000
set_option linter.unusedVariables false
theorem one32_I : (2147483648 : Int) = I one32 := by decide
theorem x_I : (1073741824 : Int) = I (xpow 1) := by decide
theorem pw_end {p x r : W32} (h : mul p (pw x 0) = r) : p = r := by rw [← h]; exact (mul_one p).symm
theorem pw_odd {p x r : W32} {n : Nat} (h : mul p (pw x n) = r) (ho : n % 2 = 1) : mul (mul p x) (pw (mul x x) (n / 2)) = r := by rw [← h, pw_half x p n, if_pos ho]
theorem pw_even {p x r : W32} {n : Nat} (h : mul p (pw x n) = r) (ho : ¬ n % 2 = 1) : mul p (pw (mul x x) (n / 2)) = r := by rw [← h, pw_half x p n, if_neg ho]
theorem pw_start (k n : Nat) : mul one32 (pw (xpow k) n) = xpow (k * n) := by rw [one_mul, pw_xpow]
theorem odd_u64 {n : Nat} (h : n < 2 ^ 64) (ho : n % 2 = 1) : (bits .and .u64 (n : Int) 1 == 1) = true := by rw [and1_u64 n h, ho]; rfl
theorem even_u64 {n : Nat} (h : n < 2 ^ 64) (ho : ¬ n % 2 = 1) : (bits .and .u64 (n : Int) 1 == 1) = false := by rw [and1_u64 n h, show n % 2 = 0 by omega]; rfl
theorem odd_i64 {n : Nat} (h : n < 2 ^ 63) (ho : n % 2 = 1) : (bits .and .i64 (n : Int) 1 == 1) = true := by rw [and1_i64 n h, ho]; rfl
theorem even_i64 {n : Nat} (h : n < 2 ^ 63) (ho : ¬ n % 2 = 1) : (bits .and .i64 (n : Int) 1 == 1) = false := by rw [and1_i64 n h, show n % 2 = 0 by omega]; rfl
theorem odd_mod {n : Nat} (ho : n % 2 = 1) : ((n : Int) % 2 == 1) = true := by rw [beq_iff_eq]; omega
theorem even_mod {n : Nat} (ho : ¬ n % 2 = 1) : ((n : Int) % 2 == 1) = false := by rw [beq_eq_false_iff_ne]; omega
def Lt64 (n : Nat) : Prop := n < 2 ^ 64
def Lt63 (n : Nat) : Prop := n < 2 ^ 63
theorem Lt64.half {n : Nat} (h : Lt64 n) : Lt64 (n / 2) := Nat.lt_of_le_of_lt (Nat.div_le_self n 2) h
theorem Lt64.wrap {n : Nat} (h : Lt64 n) : IntKind.u64.wrap ((n : Int) / 2) = (n : Int) / 2 := by unfold Lt64 at h; rw [IntKind.wrap_u64]; omega
theorem Lt63.half {n : Nat} (h : Lt63 n) : Lt63 (n / 2) := Nat.lt_of_le_of_lt (Nat.div_le_self n 2) h
theorem ref_Power_any (n : Nat) (hn : Lt64 n) (w : World) : Calls Try.prog 68 #[.int .u64 (n : Int)] w fun e w' => e = .returned (.int .u32 (I (xpow (1 * n)))) ∧ w = w' := by
  have H0 := hd_ (pw_start 1 n)
  go_enter Try.func68, Try.ntmps68
  go_wp2
  go_loop [0, 3, 4] (fun vn vp vx => ∃ (m : Nat) (p x : W32), Lt64 m ∧ vn = .int .u64 (m : Int) ∧ vp = .int .u32 (I p) ∧ vx = .int .u32 (I x) ∧ Hid (mul p (pw x m) = xpow (1 * n))) (fun i _ _ => (intOf i).toNat)
  case atStart => exact ⟨n, one32, xpow 1, hn, rfl, by rw [← one32_I], by rw [← x_I], H0⟩
  case round =>
    obtain ⟨m, p, x, hm, rfl, rfl, rfl, H⟩ := hrel
    clear H0
    by_cases hz : m = 0
    · subst hz
      obtain rfl := pw_end H.out
      clear H
      go_wp2
      go_ret
      exact ⟨rfl, rfl⟩
    · have hpos : 0 < m := by omega
      clear hz
      by_cases ho : m % 2 = 1
      · have hb := odd_mod ho
        have hwr := hm.wrap
        have H2 := hd_ (pw_odd H.out ho)
        clear H ho
        go_wp2_with (go_at_call 67; refine (ref_Mul_any _ _ (I_lo _) (I_hi _) (I_lo _) (I_hi _) _).mono ?_; rintro e w' ⟨rfl, rfl⟩)
        go_round
        case rel => exact ⟨m / 2, mul p x, mul x x, hm.half, by go_num, by rw [b32_I, b32_I], by rw [b32_I], H2⟩
        case measure => (simp [intOf]; try omega)
      · have hb := even_mod ho
        have hwr := hm.wrap
        have H2 := hd_ (pw_even H.out ho)
        clear H ho
        go_wp2_with (go_at_call 67; refine (ref_Mul_any _ _ (I_lo _) (I_hi _) (I_lo _) (I_hi _) _).mono ?_; rintro e w' ⟨rfl, rfl⟩)
        go_round
        case rel => exact ⟨m / 2, p, mul x x, hm.half, by go_num, rfl, by rw [b32_I], H2⟩
        case measure => (simp [intOf]; try omega)
end Go.Proofs.Ytilmmohkdgmhnaa
