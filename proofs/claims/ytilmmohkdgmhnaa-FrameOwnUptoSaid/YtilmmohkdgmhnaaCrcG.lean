import Derived.Test.YtilmmohkdgmhnaaCrcE
import Derived.Deep.RegionHeld3
import Derived.Outline
namespace Go.Proofs.Ytilmmohkdgmhnaa
open Go.RowKit
set_option maxRecDepth 100000
set_option linter.unusedVariables false
/-! ### a word as four bytes -/
def B4 (x : W32) : List Int := [I x % 256, I x / 256 % 256, I x / 65536 % 256, I x / 16777216 % 256]
theorem B4_bytes (x : W32) : IsBytes (B4 x) := by
  intro b hb
  unfold B4 at hb
  simp only [List.mem_cons, List.not_mem_nil, or_false] at hb
  rcases hb with rfl | rfl | rfl | rfl <;> omega
theorem byteW_nat (n : Nat) (i : Nat) : (byteW (n : Int)).getLsbD i = (decide (i < 32) && n.testBit i) := by
  unfold byteW; rw [BitVec.ofInt_natCast, BitVec.getLsbD_ofNat]
theorem byte_of (x : W32) (k i : Nat) : (byteW (I x / (2 ^ k : Nat) % 256)).getLsbD i = (decide (i < 8) && x.getLsbD (k + i)) := by
  have e : I x / ((2 ^ k : Nat) : Int) % 256 = ((x.toNat / 2 ^ k % 2 ^ 8 : Nat) : Int) := by unfold I; rw [Int.natCast_emod, Int.natCast_ediv]; rfl
  rw [e, byteW_nat, Nat.testBit_mod_two_pow, Nat.testBit_div_two_pow]
  have e2 : x.toNat.testBit (k + i) = x.getLsbD (k + i) := rfl
  rw [Nat.add_comm i k, e2]
  by_cases h : i < 8
  · simp [h, show i < 32 by omega]
  · simp [h]
theorem word4_B4 (x : W32) : word4 (I x % 256) (I x / 256 % 256) (I x / 65536 % 256) (I x / 16777216 % 256) = x := by
  have h0 := byte_of x 0
  have h1 := byte_of x 8
  have h2 := byte_of x 16
  have h3 := byte_of x 24
  rw [show ((2 ^ 0 : Nat) : Int) = 1 from rfl, Int.ediv_one] at h0
  rw [show ((2 ^ 8 : Nat) : Int) = 256 from rfl] at h1
  rw [show ((2 ^ 16 : Nat) : Int) = 65536 from rfl] at h2
  rw [show ((2 ^ 24 : Nat) : Int) = 16777216 from rfl] at h3
  refine w_ext fun i hi => ?_
  unfold word4
  simp only [BitVec.getLsbD_xor, BitVec.getLsbD_shiftLeft, h0, h1, h2, h3, hi, decide_true, Bool.true_and, Nat.zero_add]
  by_cases c1 : i < 8
  · simp [c1, show i < 16 by omega, show i < 24 by omega]
  · by_cases c2 : i < 16
    · simp [c1, c2, show i < 24 by omega, show i - 8 < 8 by omega, show 8 + (i - 8) = i by omega]
    · by_cases c3 : i < 24
      · simp [c1, c2, c3, show ¬ i - 8 < 8 by omega, show i - 16 < 8 by omega, show 16 + (i - 16) = i by omega]
      · simp [c1, c2, c3, show ¬ i - 8 < 8 by omega, show ¬ i - 16 < 8 by omega, show i - 24 < 8 by omega, show 24 + (i - 24) = i by omega]
theorem run_B4 (r x : W32) : run r (B4 x) = upn 32 (r ^^^ x) := by
  have := run_word4 r (B4_bytes x)
  rw [word4_B4] at this
  exact this
theorem B4_inj {x y : W32} (h : B4 x = B4 y) : x = y := by
  have := congrArg (run 0#32) h
  rw [run_B4, run_B4, BitVec.zero_xor, BitVec.zero_xor] at this
  exact upn_inj this
theorem run_four_inj {r : W32} {t u : List Int} (ht : IsBytes t) (hu : IsBytes u) (lt : t.length = 4) (lu : u.length = 4) (h : run r t = run r u) : t = u := by
  match t, lt, u, lu with
  | [t0, t1, t2, t3], _, [u0, u1, u2, u3], _ =>
    rw [run_word4 r ht, run_word4 r hu] at h
    have h := upn_inj h
    have h : word4 t0 t1 t2 t3 = word4 u0 u1 u2 u3 := by
      have := congrArg (r ^^^ ·) h
      simpa [← BitVec.xor_assoc] using this
    have key : ∀ {a0 a1 a2 a3 : Int}, IsBytes [a0, a1, a2, a3] → [a0, a1, a2, a3] = B4 (word4 a0 a1 a2 a3) := by
      intro a0 a1 a2 a3 ha
      obtain ⟨p0, q0⟩ := ha a0 (by simp)
      obtain ⟨p1, q1⟩ := ha a1 (by simp)
      obtain ⟨p2, q2⟩ := ha a2 (by simp)
      obtain ⟨p3, q3⟩ := ha a3 (by simp)
      obtain ⟨n0, rfl⟩ := Int.eq_ofNat_of_zero_le p0
      obtain ⟨n1, rfl⟩ := Int.eq_ofNat_of_zero_le p1
      obtain ⟨n2, rfl⟩ := Int.eq_ofNat_of_zero_le p2
      obtain ⟨n3, rfl⟩ := Int.eq_ofNat_of_zero_le p3
      have hw : I (word4 n0 n1 n2 n3) = ((n0 + 256 * n1 + 65536 * n2 + 16777216 * n3 : Nat) : Int) := by
        have hlt : n0 + 256 * n1 + 65536 * n2 + 16777216 * n3 < 4294967296 := by omega
        have e : word4 n0 n1 n2 n3 = word4 (I (BitVec.ofNat 32 (n0 + 256 * n1 + 65536 * n2 + 16777216 * n3)) % 256) (I (BitVec.ofNat 32 (n0 + 256 * n1 + 65536 * n2 + 16777216 * n3)) / 256 % 256) (I (BitVec.ofNat 32 (n0 + 256 * n1 + 65536 * n2 + 16777216 * n3)) / 65536 % 256) (I (BitVec.ofNat 32 (n0 + 256 * n1 + 65536 * n2 + 16777216 * n3)) / 16777216 % 256) := by
          have hI : I (BitVec.ofNat 32 (n0 + 256 * n1 + 65536 * n2 + 16777216 * n3)) = ((n0 + 256 * n1 + 65536 * n2 + 16777216 * n3 : Nat) : Int) := by
            unfold I; rw [BitVec.toNat_ofNat, Nat.mod_eq_of_lt (by omega)]
          rw [hI]
          congr 1 <;> omega
        rw [e, word4_B4]
        unfold I; rw [BitVec.toNat_ofNat, Nat.mod_eq_of_lt (by omega)]
      unfold B4
      rw [hw]
      congr 1
      · omega
      · congr 1
        · omega
        · congr 1
          · omega
          · congr 1; omega
    rw [key ht, key hu, h]
theorem ref_Low_any (x : W32) (w : World) : Calls Try.prog 62 #[.int .u32 (I x)] w fun e w' => e = .returned (.agg #[.int .u8 (I x % 256), .int .u8 (I x / 256 % 256), .int .u8 (I x / 65536 % 256), .int .u8 (I x / 16777216 % 256)]) ∧ w.alloc (.cells #[.int .u8 (I x % 256), .int .u8 (I x / 256 % 256), .int .u8 (I x / 65536 % 256), .int .u8 (I x / 16777216 % 256)] 97) = w' := by
  go_enter Try.func62, Try.ntmps62
  go_wp2
  exact bodyPost_ret (v := .agg #[.int .u8 (I x % 256), .int .u8 (I x / 256 % 256), .int .u8 (I x / 65536 % 256), .int .u8 (I x / 16777216 % 256)]) (by simp [results, Try.results62, go_sem]) rfl ⟨rfl, rfl⟩
/-! ### one step back -/
def dn (x : W32) : W32 := if x.getLsbD 31 = true then ((x ^^^ gen) <<< 1) ||| one1 else x <<< 1
theorem one1_bit : ∀ i, i < 32 → one1.getLsbD i = decide (i = 0) := by decide
theorem up_dn (x : W32) : up (dn x) = x := by
  unfold dn
  by_cases h : x.getLsbD 31 = true
  · rw [if_pos h]
    have h0 : (((x ^^^ gen) <<< 1) ||| one1).getLsbD 0 = true := by
      rw [BitVec.getLsbD_or, one1_bit 0 (by omega)]; simp
    unfold up
    rw [h0, if_pos rfl]
    have e : (((x ^^^ gen) <<< 1) ||| one1) >>> 1 = x ^^^ gen := by
      refine w_ext fun i hi => ?_
      rw [BitVec.getLsbD_ushiftRight, BitVec.getLsbD_or, BitVec.getLsbD_shiftLeft]
      by_cases h31 : i = 31
      · subst h31
        have g31 : gen.getLsbD 31 = true := by decide
        have o : one1.getLsbD (1 + 31) = false := BitVec.getLsbD_of_ge _ _ (by decide)
        rw [BitVec.getLsbD_xor, h, g31, o]; simp
      · rw [one1_bit (1 + i) (by omega)]
        simp [show 1 + i < 32 by omega]
    rw [e, BitVec.xor_assoc, BitVec.xor_self, BitVec.xor_zero]
  · rw [if_neg h]
    have h0 : (x <<< 1).getLsbD 0 = false := by rw [BitVec.getLsbD_shiftLeft]; simp
    unfold up
    rw [h0, if_neg (by simp), BitVec.xor_zero]
    refine w_ext fun i hi => ?_
    rw [BitVec.getLsbD_ushiftRight, BitVec.getLsbD_shiftLeft]
    by_cases h31 : i = 31
    · subst h31
      have : x.getLsbD 31 = false := by simpa using h
      rw [this]; simp
    · simp [show 1 + i < 32 by omega]
def dnn : Nat → W32 → W32
  | 0, x => x
  | n + 1, x => dn (dnn n x)
theorem upn_dnn (n : Nat) (x : W32) : upn n (dnn n x) = x := by
  induction n with
  | zero => rfl
  | succ n ih => show up (upn n (dn (dnn n x))) = x; rw [← upn_up, up_dn, ih]
theorem shl_i (x : W32) : I x * (2 : Int) % (4294967296 : Int) = I (x <<< 1) := by
  unfold I
  rw [BitVec.toNat_shiftLeft, Nat.shiftLeft_eq]
  omega
theorem or_I (x : W32) : bits .or .u32 (I x) 1 = I (x ||| one1) := by rw [or_i, b32_I, show b32 1 = one1 from by decide]
theorem xorGen_I (x : W32) : bits .xor .u32 (I x) 2197175160 = I (x ^^^ gen) := by rw [xor_i, b32_I, b32_gen]
theorem top_set {x : W32} (h : x.getLsbD 31 = true) : (bits .and .u32 (I x) 2147483648 != 0) = true ∧ (I x / 2147483648 == 1) = true := by
  have e : I x / 2147483648 = 1 := by
    have h2 := BitVec.toNat_ge_of_msb_true (x := x) (by rw [BitVec.msb_eq_getLsbD_last]; exact h)
    have := x.isLt
    unfold I
    omega
  refine ⟨?_, by rw [e]; rfl⟩
  rw [and_i, b32_I, show b32 2147483648 = BitVec.twoPow 32 31 from by decide, BitVec.and_twoPow, h]
  decide
theorem top_clear {x : W32} (h : x.getLsbD 31 = false) : (bits .and .u32 (I x) 2147483648 != 0) = false ∧ (I x / 2147483648 == 1) = false := by
  have e : I x / 2147483648 = 0 := by
    have h2 := BitVec.toNat_lt_of_msb_false (x := x) (by rw [BitVec.msb_eq_getLsbD_last]; exact h)
    unfold I
    omega
  refine ⟨?_, by rw [e]; rfl⟩
  rw [and_i, b32_I, show b32 2147483648 = BitVec.twoPow 32 31 from by decide, BitVec.and_twoPow, h]
  decide
/-- the four bytes that lead from one sum to another, as a word -/
def tailW (c y : W32) : W32 := dnn 32 (y ^^^ ones) ^^^ (c ^^^ ones)
theorem more_tail (c y : W32) : run (c ^^^ ones) (B4 (tailW c y)) ^^^ ones = y := by
  rw [run_B4, tailW, BitVec.xor_comm (dnn 32 _), ← BitVec.xor_assoc, BitVec.xor_self, BitVec.zero_xor, upn_dnn, BitVec.xor_assoc, BitVec.xor_self, BitVec.xor_zero]
attribute [local go_sem] u32_signed not_I xorOnes_I xor_I
end Go.Proofs.Ytilmmohkdgmhnaa
