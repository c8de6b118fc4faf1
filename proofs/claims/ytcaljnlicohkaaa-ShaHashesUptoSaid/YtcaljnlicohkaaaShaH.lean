/- SHA-256: a block, pure. -/
import Derived.Test.YtcaljnlicohkaaaShaG
namespace Go.Proofs.Ytcaljnlicohkaaa
open Go.RowKit
set_option maxRecDepth 100000
set_option linter.unusedVariables false
def beW (a b c d : W32) : W32 := (((a <<< 24) ||| (b <<< 16)) ||| (c <<< 8)) ||| d
def wordB (B : List Int) (i : Nat) : W32 := beW (b32 (B.getD (4 * i) 0)) (b32 (B.getD (4 * i + 1) 0)) (b32 (B.getD (4 * i + 2) 0)) (b32 (B.getD (4 * i + 3) 0))
def sig0 (x : W32) : W32 := (rot x 7 ^^^ rot x 18) ^^^ (x >>> 3)
def sig1 (x : W32) : W32 := (rot x 17 ^^^ rot x 19) ^^^ (x >>> 10)
def schW (l : List W32) (i : Nat) : W32 := ((l.getD (i - 16) 0#32 + sig0 (l.getD (i - 15) 0#32)) + l.getD (i - 7) 0#32) + sig1 (l.getD (i - 2) 0#32)
/-- the words of a block, as far as they are laid -/
def sch (B : List Int) : Nat → List W32
  | 0 => List.replicate 64 0#32
  | i + 1 => (sch B i).set i (if i < 16 then wordB B i else schW (sch B i) i)
theorem sch_length (B : List Int) : ∀ n, (sch B n).length = 64
  | 0 => by simp [sch]
  | n + 1 => by rw [sch, List.length_set, sch_length B n]
theorem sch_byte {B : List Int} {i : Nat} (h : i < 16) : sch B (i + 1) = (sch B i).set i (wordB B i) := by rw [sch, if_pos h]
theorem sch_word {B : List Int} {i : Nat} (h : ¬ i < 16) : sch B (i + 1) = (sch B i).set i (schW (sch B i) i) := by rw [sch, if_neg h]
def t1W (e f g h k w : W32) : W32 := (((h + ((rot e 6 ^^^ rot e 11) ^^^ rot e 25)) + ((e &&& f) ^^^ ((e ^^^ ones) &&& g))) + k) + w
def t2W (a b c : W32) : W32 := ((rot a 2 ^^^ rot a 13) ^^^ rot a 22) + (((a &&& b) ^^^ (a &&& c)) ^^^ (b &&& c))
/-- eight words behind one round -/
def rnd (k w : W32) : List W32 → List W32
  | [a, b, c, d, e, f, g, h] => [t1W e f g h k w + t2W a b c, a, b, c, d + t1W e f g h k w, e, f, g]
  | l => l
def rnds (s W : List W32) : Nat → List W32
  | 0 => s
  | i + 1 => rnd (roundsL.getD i 0#32) (W.getD i 0#32) (rnds s W i)
theorem eight {l : List W32} (h : l.length = 8) : ∃ a b c d e f g i, l = [a, b, c, d, e, f, g, i] := by
  match l, h with
  | [a, b, c, d, e, f, g, i], _ => exact ⟨a, b, c, d, e, f, g, i, rfl⟩
theorem rnds_length {s : List W32} (h : s.length = 8) (W : List W32) : ∀ n, (rnds s W n).length = 8
  | 0 => h
  | n + 1 => by
    obtain ⟨a, b, c, d, e, f, g, i, hl⟩ := eight (rnds_length h W n)
    rw [rnds, hl]; rfl
def fins (s v : List W32) : Nat → List W32
  | 0 => v
  | i + 1 => (fins s v i).set i ((fins s v i).getD i 0#32 + s.getD i 0#32)
theorem fins_length (s v : List W32) : ∀ n, (fins s v n).length = v.length
  | 0 => rfl
  | n + 1 => by rw [fins, List.length_set, fins_length s v n]
/-- a state behind one more block -/
def blk (s : List W32) (B : List Int) : List W32 := fins s (rnds s (sch B 64) 64) 8
theorem blk_length {s : List W32} (h : s.length = 8) (B : List Int) : (blk s B).length = 8 := by unfold blk; rw [fins_length, rnds_length h]
theorem byte_I {a : Int} (h0 : 0 ≤ a) (h1 : a < 256) : a = I (b32 a) := (I_b32 h0 (by omega)).symm
theorem shl_b {a : Int} (h0 : 0 ≤ a) (h1 : a < 256) (n : Nat) (hn : n ≤ 24) : a * (2 : Int) ^ n = I (b32 a <<< n) := by
  rw [← shl_I, I_b32 h0 (by omega), Int.emod_eq_of_lt]
  · exact Int.mul_nonneg h0 (by exact Int.le_of_lt (Int.pow_pos (by decide)))
  · obtain ⟨m, rfl⟩ := Int.eq_ofNat_of_zero_le h0
    have h2 : 2 ^ n ≤ 2 ^ 24 := Nat.pow_le_pow_right (by decide) hn
    have h3 : m * 2 ^ n ≤ 255 * 2 ^ 24 := Nat.mul_le_mul (by omega) h2
    have h4 : ((m : Int) * (2 : Int) ^ n) = ((m * 2 ^ n : Nat) : Int) := by rw [Int.natCast_mul, Int.natCast_pow]; rfl
    rw [h4]
    omega
theorem be_i {a b c d : Int} (a0 : 0 ≤ a) (a1 : a < 256) (b0 : 0 ≤ b) (b1 : b < 256) (c0 : 0 ≤ c) (c1 : c < 256) (d0 : 0 ≤ d) (d1 : d < 256) :
    bits .or .u32 (bits .or .u32 (bits .or .u32 (a * 16777216) (b * 65536)) (c * 256)) d = I (beW (b32 a) (b32 b) (b32 c) (b32 d)) := by
  have h1 := shl_b a0 a1 24 (by decide)
  have h2 := shl_b b0 b1 16 (by decide)
  have h3 := shl_b c0 c1 8 (by decide)
  rw [show (2 : Int) ^ 24 = 16777216 from by decide] at h1
  rw [show (2 : Int) ^ 16 = 65536 from by decide] at h2
  rw [show (2 : Int) ^ 8 = 256 from by decide] at h3
  rw [h1, h2, h3, or_I, or_I, or_i, b32_I]
  rfl
theorem add4_I (a b c d : W32) : (I a + I b + I c + I d) % (4294967296 : Int) = I (((a + b) + c) + d) := by
  unfold I
  simp only [BitVec.toNat_add, Int.natCast_emod, Int.natCast_add]
  omega
theorem schw_i (x y z u : W32) : (I z + bits .xor .u32 (I (rot x 7 ^^^ rot x 18)) (I x / (8 : Int)) + I u + bits .xor .u32 (I (rot y 17 ^^^ rot y 19)) (I y / (1024 : Int))) % (4294967296 : Int) =
    I (((z + ((rot x 7 ^^^ rot x 18) ^^^ (x >>> 3))) + u) + ((rot y 17 ^^^ rot y 19) ^^^ (y >>> 10))) := by
  rw [show I x / (8 : Int) = I (x >>> 3) from shr_I x 3, show I y / (1024 : Int) = I (y >>> 10) from shr_I y 10, xor_I, xor_I, add4_I]
theorem add5_I (a b c d e : W32) : ((I a + I b + I c + I d) % (4294967296 : Int) + I e) % (4294967296 : Int) = I ((((a + b) + c) + d) + e) := by
  unfold I
  simp only [BitVec.toNat_add, Int.natCast_emod, Int.natCast_add]
  omega
end Go.Proofs.Ytcaljnlicohkaaa
