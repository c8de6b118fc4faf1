import Derived.Test.YtcaljnlicohkaaaCrcA
namespace Go.Proofs.Ytcaljnlicohkaaa
open Go.RowKit
set_option maxRecDepth 100000
set_option linter.unusedVariables false
theorem one32_I : (2147483648 : Int) = I one32 := by decide
theorem x_I : (1073741824 : Int) = I (xpow 1) := by decide
theorem pw_end {p x r : W32} (h : mul p (pw x 0) = r) : p = r := by rw [← h]; exact (mul_one p).symm
theorem pw_odd {p x r : W32} {n : Nat} (h : mul p (pw x n) = r) (ho : n % 2 = 1) : mul (mul p x) (pw (mul x x) (n / 2)) = r := by rw [← h, pw_half x p n, if_pos ho]
theorem pw_even {p x r : W32} {n : Nat} (h : mul p (pw x n) = r) (ho : ¬ n % 2 = 1) : mul p (pw (mul x x) (n / 2)) = r := by rw [← h, pw_half x p n, if_neg ho]
theorem pw_start (k n : Nat) : mul one32 (pw (xpow k) n) = xpow (k * n) := by rw [one_mul, pw_xpow]
theorem odd_u64 {n : Nat} (h : n < 2 ^ 64) (ho : n % 2 = 1) : (bits .and .u64 (n : Int) 1 == 1) = true := by rw [and1_u64 n h, ho]; rfl
theorem even_u64 {n : Nat} (h : n < 2 ^ 64) (ho : ¬ n % 2 = 1) : (bits .and .u64 (n : Int) 1 == 1) = false := by rw [and1_u64 n h, show n % 2 = 0 by omega]; rfl
theorem odd_i64 {n : Nat} (h : n < 2 ^ 63) (ho : n % 2 = 1) : (bits .and .i64 (n : Int) 1 == 1) = true := by rw [and1_i64 n h, ho]; rfl
theorem even_i64 {n : Nat} (h : n < 2 ^ 63) (ho : ¬ n % 2 = 1) : (bits .and .i64 (n : Int) 1 == 1) = false := by rw [and1_i64 n h, show n % 2 = 0 by omega]; rfl
theorem odd_mod {n : Nat} (ho : n % 2 = 1) : ((n : Int) % 2 == 1) = true := by rw [beq_iff_eq]; omega
theorem even_mod {n : Nat} (ho : ¬ n % 2 = 1) : ((n : Int) % 2 == 1) = false := by rw [beq_eq_false_iff_ne]; omega
def Lt64 (n : Nat) : Prop := n < 2 ^ 64
def Lt63 (n : Nat) : Prop := n < 2 ^ 63
theorem Lt64.half {n : Nat} (h : Lt64 n) : Lt64 (n / 2) := Nat.lt_of_le_of_lt (Nat.div_le_self n 2) h
theorem Lt64.wrap {n : Nat} (h : Lt64 n) : IntKind.u64.wrap ((n : Int) / 2) = (n : Int) / 2 := by unfold Lt64 at h; rw [IntKind.wrap_u64]; omega
theorem Lt63.half {n : Nat} (h : Lt63 n) : Lt63 (n / 2) := Nat.lt_of_le_of_lt (Nat.div_le_self n 2) h
end Go.Proofs.Ytcaljnlicohkaaa
