/- SHA-256: a saved hasher's words (pure). -/
import Derived.Test.YtcaljnlicohkaaaShaZ
import Derived.Test.YtcaljnlicohkaaaShaK
namespace Go.Proofs.Ytcaljnlicohkaaa
open Go.RowKit
set_option maxRecDepth 100000
set_option linter.unusedVariables false
/-- the words, as far as they are read -/
def ldW (R : List Int) : Nat → List W32
  | 0 => List.replicate 8 0#32
  | m + 1 => (ldW R m).set (m / 4) ((((ldW R m).getD (m / 4) 0#32) <<< 8) ||| b32 (R.getD m 0))
theorem ldW_length (R : List Int) : ∀ m, (ldW R m).length = 8
  | 0 => by simp [ldW]
  | m + 1 => by rw [ldW, List.length_set, ldW_length R m]
theorem getD_set_w (l : List W32) (i j : Nat) (x : W32) (hi : i < l.length) : (l.set i x).getD j 0#32 = if i = j then x else l.getD j 0#32 := by
  rw [List.getD_eq_getElem?_getD, List.getD_eq_getElem?_getD, List.getElem?_set]
  by_cases h : i = j
  · subst h; simp [hi]
  · simp [h]
theorem ldW_zero (R : List Int) : ∀ (m i : Nat), m ≤ 4 * i → (ldW R m).getD i 0#32 = 0#32
  | 0, i, _ => by
    unfold ldW
    rw [List.getD_eq_getElem?_getD, List.getElem?_replicate]
    split <;> rfl
  | m + 1, i, h => by
    rw [ldW]
    by_cases h8 : m / 4 < (ldW R m).length
    · rw [getD_set_w _ _ _ _ h8, if_neg (by omega)]
      exact ldW_zero R m i (by omega)
    · rw [List.set_eq_of_length_le (by omega)]
      exact ldW_zero R m i (by omega)
theorem ldW_step (R : List Int) (i j : Nat) (hi : i < 8) (hj : j < 4) : (ldW R (4 * i + j + 1)).getD i 0#32 = (((ldW R (4 * i + j)).getD i 0#32) <<< 8) ||| b32 (R.getD (4 * i + j) 0) := by
  have e : (4 * i + j) / 4 = i := by omega
  rw [ldW, e, getD_set_w _ _ _ _ (by rw [ldW_length]; exact hi), if_pos rfl]
theorem be_fold (a b c d : W32) : (((((((0#32 <<< 8) ||| a) <<< 8) ||| b) <<< 8) ||| c) <<< 8) ||| d = beW a b c d := by
  unfold beW
  simp only [BitVec.shiftLeft_or_distrib, ← BitVec.shiftLeft_add]
  simp
theorem ldW_word (R : List Int) (i : Nat) (hi : i < 8) : (ldW R (4 * i + 4)).getD i 0#32 = wordB R i := by
  rw [show 4 * i + 4 = 4 * i + 3 + 1 from rfl, ldW_step R i 3 hi (by omega), ldW_step R i 2 hi (by omega), ldW_step R i 1 hi (by omega), show 4 * i + 1 = 4 * i + 0 + 1 from rfl, ldW_step R i 0 hi (by omega), ldW_zero R (4 * i + 0) i (by omega), be_fold]
  rfl
theorem ldW_keep (R : List Int) (i : Nat) (hi : i < 8) : ∀ d, (ldW R (4 * i + 4 + d)).getD i 0#32 = wordB R i
  | 0 => ldW_word R i hi
  | d + 1 => by
    rw [← Nat.add_assoc, ldW]
    by_cases h8 : (4 * i + 4 + d) / 4 < (ldW R (4 * i + 4 + d)).length
    · rw [getD_set_w _ _ _ _ h8, if_neg (by omega)]
      exact ldW_keep R i hi d
    · rw [List.set_eq_of_length_le (by omega)]
      exact ldW_keep R i hi d
theorem ldW_get (R : List Int) (i : Nat) (hi : i < 8) : (ldW R 32).getD i 0#32 = wordB R i := by
  have := ldW_keep R i hi (28 - 4 * i)
  rwa [show 4 * i + 4 + (28 - 4 * i) = 32 by omega] at this
theorem I_injW {x y : W32} (h : I x = I y) : x = y := by
  unfold I at h
  exact BitVec.eq_of_toNat_eq (by omega)
theorem beW_by (x : W32) : beW (b32 (by0 x)) (b32 (by1 x)) (b32 (by2 x)) (b32 (by3 x)) = x := by
  have h0 := I_lo x
  have h1 := I_hi x
  refine I_injW ?_
  unfold by0 by1 by2 by3
  rw [← beS_i (by omega) (by omega) (by omega) (by omega) (by omega) (by omega) (by omega) (by omega)]
  omega
theorem by_beW {a b c d : Int} (a0 : 0 ≤ a) (a1 : a < 256) (b0 : 0 ≤ b) (b1 : b < 256) (c0 : 0 ≤ c) (c1 : c < 256) (d0 : 0 ≤ d) (d1 : d < 256) :
    by0 (beW (b32 a) (b32 b) (b32 c) (b32 d)) = a ∧ by1 (beW (b32 a) (b32 b) (b32 c) (b32 d)) = b ∧ by2 (beW (b32 a) (b32 b) (b32 c) (b32 d)) = c ∧ by3 (beW (b32 a) (b32 b) (b32 c) (b32 d)) = d := by
  unfold by0 by1 by2 by3
  rw [← beS_i a0 a1 b0 b1 c0 c1 d0 d1]
  omega
end Go.Proofs.Ytcaljnlicohkaaa
