/- How the walk's whole numbers are words: no program in sight. -/
import Derived.Laws.BitsAllLaws
import Derived.Laws.BitsLemmas
import Derived.Test.YtcaljnlicohkaaaCrcMath
namespace Go.Proofs.Ytcaljnlicohkaaa
/-- A word as the walk's number. -/
def I (x : W32) : Int := (x.toNat : Int)
def b32 (a : Int) : W32 := BitVec.ofInt 32 a
theorem b32_I (x : W32) : b32 (I x) = x := by unfold b32 I; rw [BitVec.ofInt_natCast, BitVec.ofNat_toNat, BitVec.setWidth_eq]
theorem I_lo (x : W32) : 0 ≤ I x := by unfold I; omega
theorem I_hi (x : W32) : I x < 4294967296 := by unfold I; have := x.isLt; omega
theorem I_b32 {a : Int} (h0 : 0 ≤ a) (h1 : a < 4294967296) : I (b32 a) = a := by
  unfold I b32
  obtain ⟨n, rfl⟩ := Int.eq_ofNat_of_zero_le h0
  rw [BitVec.ofInt_natCast, BitVec.toNat_ofNat]
  congr 1
  omega
theorem I_inj {x y : W32} (h : I x = I y) : x = y := by rw [← b32_I x, h, b32_I]
theorem I_beq (x y : W32) : (I x == I y) = (x == y) := by
  rw [Bool.eq_iff_iff, beq_iff_eq, beq_iff_eq]
  exact ⟨I_inj, fun h => by rw [h]⟩
theorem wrap_I (x : W32) : IntKind.u32.wrap (x.toNat : Int) = I x := by
  rw [IntKind.wrap_u32']; have := x.isLt; unfold I; omega
theorem xor_i (a b : Int) : bits .xor .u32 a b = I (b32 a ^^^ b32 b) := wrap_I _
theorem and_i (a b : Int) : bits .and .u32 a b = I (b32 a &&& b32 b) := wrap_I _
theorem or_i (a b : Int) : bits .or .u32 a b = I (b32 a ||| b32 b) := wrap_I _
theorem div_i {a : Int} (h0 : 0 ≤ a) (h1 : a < 4294967296) (k : Nat) : a / (2 : Int) ^ k = I (b32 a >>> k) := by
  unfold I b32
  obtain ⟨n, rfl⟩ := Int.eq_ofNat_of_zero_le h0
  rw [BitVec.ofInt_natCast, BitVec.toNat_ushiftRight, BitVec.toNat_ofNat, Nat.shiftRight_eq_div_pow, Nat.mod_eq_of_lt (by omega), Int.natCast_ediv, Int.natCast_pow]
  rfl
theorem half_i {a : Int} (h0 : 0 ≤ a) (h1 : a < 4294967296) : a / (2 : Int) = I (b32 a >>> 1) := by rw [← div_i h0 h1 1]; rfl
theorem nib_i {a : Int} (h0 : 0 ≤ a) (h1 : a < 4294967296) : a / (16 : Int) = I (b32 a >>> 4) := by rw [← div_i h0 h1 4]; rfl
/-- the lowest bit -/
theorem and_one (x : W32) : (x &&& 1#32) = if x.getLsbD 0 then 1#32 else 0#32 := by
  refine w_ext fun i hi => ?_
  rw [BitVec.getLsbD_and]
  have h : (1#32).getLsbD i = decide (i = 0) := by
    have : ∀ i, i < 32 → (1#32).getLsbD i = decide (i = 0) := by decide
    exact this i hi
  rw [h]
  by_cases e : i = 0
  · subst e; cases x.getLsbD 0 <;> simp
  · simp only [e, decide_false, Bool.and_false]; cases x.getLsbD 0 <;> simp [h, e]
theorem bit0_i (a : Int) : (bits .and .u32 a 1 == 1) = (b32 a).getLsbD 0 := by
  rw [and_i, show b32 1 = 1#32 from by decide, and_one]
  cases (b32 a).getLsbD 0 <;> decide
theorem bit_shift (x : W32) (k : Nat) : (x >>> k).getLsbD 0 = x.getLsbD k := by rw [BitVec.getLsbD_ushiftRight]; rfl
theorem b32_gen : b32 2197175160 = gen := by decide
theorem up_set {a : Int} (h0 : 0 ≤ a) (h1 : a < 4294967296) (h : (b32 a).getLsbD 0 = true) : bits .xor .u32 (a / (2 : Int)) 2197175160 = I (up (b32 a)) := by
  rw [xor_i, half_i h0 h1, b32_I, b32_gen]; unfold up; rw [h, if_pos rfl]
theorem up_clear {a : Int} (h0 : 0 ≤ a) (h1 : a < 4294967296) (h : (b32 a).getLsbD 0 = false) : a / (2 : Int) = I (up (b32 a)) := by
  rw [half_i h0 h1]; unfold up; rw [h, if_neg (by simp), BitVec.xor_zero]
theorem xor_I (x y : W32) : bits .xor .u32 (I x) (I y) = I (x ^^^ y) := by rw [xor_i, b32_I, b32_I]
theorem bitk_i {b : Int} (h0 : 0 ≤ b) (h1 : b < 4294967296) (k : Nat) : (bits .and .u32 (b / (2 : Int) ^ k) 1 == 1) = (b32 b).getLsbD k := by
  rw [bit0_i, div_i h0 h1, b32_I, bit_shift]
theorem mulL_step {b : W32} {k : Nat} (hk : k < 32) {p x r : W32} (h : mulL b (32 - k) p x = r) :
    mulL b (32 - (k + 1)) (if b.getLsbD (31 - k) then p ^^^ x else p) (up x) = r := by
  rw [show 32 - k = (31 - k) + 1 by omega, mulL] at h
  rwa [show 32 - (k + 1) = 31 - k by omega]
theorem and1_nat (k : IntKind) (hk : 1 ≤ k.bits) (hw : ∀ n : Int, 0 ≤ n → n < 2 → k.wrap n = n) (n : Nat) (hn : n < 2 ^ k.bits) : bits .and k (n : Int) 1 = ((n % 2 : Nat) : Int) := by
  have e : (1 : Int) = ((1 : Nat) : Int) := rfl
  have h1 : (1 : Nat) < 2 ^ k.bits := Nat.lt_of_lt_of_le (by decide) (Nat.pow_le_pow_right (by decide) hk)
  rw [e]
  simp only [bits, BitVec.ofInt_natCast, BitVec.toNat_and, BitVec.toNat_ofNat, Nat.mod_eq_of_lt hn, Nat.mod_eq_of_lt h1, Nat.and_one_is_mod]
  exact hw _ (by omega) (by omega)
theorem and1_u64 (n : Nat) (hn : n < 2 ^ 64) : bits .and .u64 (n : Int) 1 = ((n % 2 : Nat) : Int) :=
  and1_nat .u64 (by decide) (fun n h0 h1 => by rw [IntKind.wrap_u64]; omega) n hn
theorem and1_i64 (n : Nat) (hn : n < 2 ^ 63) : bits .and .i64 (n : Int) 1 = ((n % 2 : Nat) : Int) :=
  and1_nat .i64 (by decide) (fun n h0 h1 => by rw [IntKind.wrap_i64]; omega) n (Nat.lt_trans hn (by decide))
end Go.Proofs.Ytcaljnlicohkaaa
