import Derived.Test.YtilmmohkdgmhnaaCrcI
import Derived.Test.YtilmmohkdgmhnaaCrcP
import Derived.Deep.QuietTactic
import Derived.BigQuiet
namespace Go.Proofs.Ytilmmohkdgmhnaa
open Go.RowKit
set_option maxRecDepth 100000
set_option linter.unusedVariables false
theorem or_u32 {m n : Int} (i : Nat) {p : Int} (hp : p = (2 : Int) ^ i) (m0 : 0 ≤ m) (m1 : m < p) (n0 : 0 ≤ n) (h : m + n * p < 4294967296) : bits .or .u32 m (n * p) = m + n * p := by
  obtain ⟨a, rfl⟩ := Int.eq_ofNat_of_zero_le m0
  obtain ⟨b, rfl⟩ := Int.eq_ofNat_of_zero_le n0
  have hpn : p = ((2 ^ i : Nat) : Int) := by rw [hp, Int.natCast_pow]; rfl
  subst hpn
  have e : ((b : Int) * ((2 ^ i : Nat) : Int)) = ((2 ^ i * b : Nat) : Int) := by rw [Int.natCast_mul, Int.mul_comm]
  rw [e] at h ⊢
  have ha : a < 2 ^ i := by omega
  have hs : 2 ^ i * b + a < 2 ^ 32 := by omega
  show IntKind.u32.wrap ((((BitVec.ofInt 32 (a : Int)) ||| (BitVec.ofInt 32 ((2 ^ i * b : Nat) : Int))).toNat : Nat) : Int) = _
  rw [BitVec.ofInt_natCast, BitVec.ofInt_natCast, BitVec.toNat_or, BitVec.toNat_ofNat, BitVec.toNat_ofNat, Nat.mod_eq_of_lt (by omega), Nat.mod_eq_of_lt (by omega), Nat.or_comm, ← Nat.two_pow_add_eq_or_of_lt ha, IntKind.wrap_u32']
  omega
theorem or_i64 {m n : Int} (i : Nat) {p : Int} (hp : p = (2 : Int) ^ i) (m0 : 0 ≤ m) (m1 : m < p) (n0 : 0 ≤ n) (h : m + n * p < 9223372036854775808) : bits .or .i64 m (n * p) = m + n * p := by
  obtain ⟨a, rfl⟩ := Int.eq_ofNat_of_zero_le m0
  obtain ⟨b, rfl⟩ := Int.eq_ofNat_of_zero_le n0
  have hpn : p = ((2 ^ i : Nat) : Int) := by rw [hp, Int.natCast_pow]; rfl
  subst hpn
  have e : ((b : Int) * ((2 ^ i : Nat) : Int)) = ((2 ^ i * b : Nat) : Int) := by rw [Int.natCast_mul, Int.mul_comm]
  rw [e] at h ⊢
  have ha : a < 2 ^ i := by omega
  have hs : 2 ^ i * b + a < 2 ^ 63 := by omega
  show IntKind.i64.wrap ((((BitVec.ofInt 64 (a : Int)) ||| (BitVec.ofInt 64 ((2 ^ i * b : Nat) : Int))).toNat : Nat) : Int) = _
  rw [BitVec.ofInt_natCast, BitVec.ofInt_natCast, BitVec.toNat_or, BitVec.toNat_ofNat, BitVec.toNat_ofNat, Nat.mod_eq_of_lt (by omega), Nat.mod_eq_of_lt (by omega), Nat.or_comm, ← Nat.two_pow_add_eq_or_of_lt ha, IntKind.wrap_i64]
  omega
/-- the four bytes at the front as a number, the lowest first -/
def wordN (l : List Int) : Int := l.getD 0 0 + l.getD 1 0 * 256 + l.getD 2 0 * 65536 + l.getD 3 0 * 16777216
/-- the length that a head tells -/
def lenN (l : List Int) : Int := l.getD 3 0 + l.getD 4 0 * 256 + l.getD 5 0 * 65536
theorem wordN_B4 {t : List Int} (hb : IsBytes t) (h4 : t.length = 4) (x : W32) : (wordN t == I x) = decide (B4 x = t) := by
  match t, h4 with
  | [a, b, c, d], _ =>
    obtain ⟨a0, a1⟩ := hb a (by simp)
    obtain ⟨b0, b1⟩ := hb b (by simp)
    obtain ⟨c0, c1⟩ := hb c (by simp)
    obtain ⟨d0, d1⟩ := hb d (by simp)
    have h0 := I_lo x
    have h1 := I_hi x
    rw [Bool.eq_iff_iff, beq_iff_eq, decide_eq_true_iff]
    show a + b * 256 + c * 65536 + d * 16777216 = I x ↔ [I x % 256, I x / 256 % 256, I x / 65536 % 256, I x / 16777216 % 256] = [a, b, c, d]
    simp only [List.cons.injEq, and_true]
    omega
theorem frame_word_any (v : Value) (l : List Int) (w : World) (HR : Rd w v l) (hl : 4 ≤ l.length) :
    Calls Try.prog 61 #[v] w fun e w' => e = .returned (.int .u32 (wordN l)) ∧ ∃ m, w' = w.drewN m := by
  have hb := HR.1
  obtain ⟨A, cap, rfl, hn, hm, _, hc⟩ := HR.form
  unfold maxLen at hm
  obtain ⟨b, off, rfl, h0⟩ := hc 0 (by omega)
  obtain ⟨b', off', e1, h1⟩ := hc 1 (by omega)
  obtain ⟨b2, off2, e2, h2⟩ := hc 2 (by omega)
  obtain ⟨b3, off3, e3, h3⟩ := hc 3 (by omega)
  simp only [Option.some.injEq, Addr.mk.injEq, and_true] at e1 e2 e3
  obtain ⟨rfl, rfl⟩ := e1
  obtain ⟨rfl, rfl⟩ := e2
  obtain ⟨rfl, rfl⟩ := e3
  rw [Nat.add_zero] at h0
  obtain ⟨p0, q0⟩ := bytes_at hb 0
  obtain ⟨p1, q1⟩ := bytes_at hb 1
  obtain ⟨p2, q2⟩ := bytes_at hb 2
  obtain ⟨p3, q3⟩ := bytes_at hb 3
  clear hc
  unfold wordN
  generalize l.getD 0 0 = x0 at *
  generalize l.getD 1 0 = x1 at *
  generalize l.getD 2 0 = x2 at *
  generalize l.getD 3 0 = x3 at *
  go_enter Try.func61, Try.ntmps61
  go_wp2
  go_quiet (fail)
  go_wp2
  go_ret
  refine ⟨?_, nq, rfl⟩
  rw [or_u32 8 (by decide) p0 q0 p1 (by omega), or_u32 16 (by decide) (by omega) (by omega) p2 (by omega), or_u32 24 (by decide) (by omega) (by omega) p3 (by omega)]
  rfl
theorem frame_length_any (v : Value) (l : List Int) (w : World) (HR : Rd w v l) (hl : 6 ≤ l.length) :
    Calls Try.prog 50 #[v] w fun e w' => e = .returned (.int .i64 (lenN l)) ∧ ∃ m, w' = w.drewN m := by
  have hb := HR.1
  obtain ⟨A, cap, rfl, hn, hm, _, hc⟩ := HR.form
  unfold maxLen at hm
  obtain ⟨b, off, rfl, h0⟩ := hc 3 (by omega)
  obtain ⟨b', off', e1, h1⟩ := hc 4 (by omega)
  obtain ⟨b2, off2, e2, h2⟩ := hc 5 (by omega)
  simp only [Option.some.injEq, Addr.mk.injEq, and_true] at e1 e2
  obtain ⟨rfl, rfl⟩ := e1
  obtain ⟨rfl, rfl⟩ := e2
  obtain ⟨p0, q0⟩ := bytes_at hb 3
  obtain ⟨p1, q1⟩ := bytes_at hb 4
  obtain ⟨p2, q2⟩ := bytes_at hb 5
  clear hc
  unfold lenN
  generalize l.getD 3 0 = x0 at *
  generalize l.getD 4 0 = x1 at *
  generalize l.getD 5 0 = x2 at *
  go_enter Try.func50, Try.ntmps50
  go_wp2
  go_quiet (fail)
  go_wp2
  go_ret
  refine ⟨?_, nq, rfl⟩
  rw [or_i64 8 (by decide) p0 q0 p1 (by omega), or_i64 16 (by decide) (by omega) (by omega) p2 (by omega)]
  rfl
end Go.Proofs.Ytilmmohkdgmhnaa
