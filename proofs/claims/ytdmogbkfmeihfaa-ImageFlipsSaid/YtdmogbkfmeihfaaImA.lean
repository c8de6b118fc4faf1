/- The head of an image (pure). -/
import Derived.Test.YtdmogbkfmeihfaaPwA
namespace Go.Proofs.Ytdmogbkfmeihfaa
open Go.RowKit
set_option maxRecDepth 100000
set_option linter.unusedVariables false
theorem lebS_congr (l m : List Int) : ∀ i, i ≤ 10 → (∀ j, j < 10 → l.getD j 0 = m.getD j 0) → lebS l i = lebS m i
  | 0, _, _ => rfl
  | i + 1, hi, h => by
    unfold lebS
    rw [lebS_congr l m i (by omega) h, h i (by omega)]
theorem lebD_congr (l m : List Int) (h : ∀ j, j < 10 → l.getD j 0 = m.getD j 0) (hl : ∀ j, j < 10 → (l.length ≤ j ↔ m.length ≤ j)) : ∀ n i, i + n = 10 → lebD l n i = lebD m n i
  | 0, i, hi => by
    have h9 := hl 9 (by omega)
    unfold lebD
    have e : (l.length < 10) = (m.length < 10) := by
      apply propext
      constructor <;> intro h <;> omega
    simp only [e]
  | n + 1, i, hi => by
    have ih := lebD_congr l m h hl n (i + 1) (by omega)
    have h1 := h i (by omega)
    have h2 := hl i (by omega)
    have h9 := hl 9 (by omega)
    unfold lebD
    have e : (l.length < 10) = (m.length < 10) := by
      apply propext
      constructor <;> intro h <;> omega
    have e2 : (l.length ≤ i) = (m.length ≤ i) := propext h2
    simp only [e, e2, h1, ih, lebS_congr l m i (by omega) h]
theorem lebD_take (l : List Int) (k : Nat) (hk : 10 ≤ k) : lebD (l.take k) 10 0 = lebD l 10 0 := by
  refine lebD_congr _ _ (fun j hj => ?_) (fun j hj => ?_) 10 0 rfl
  · rw [List.getD_eq_getElem?_getD, List.getD_eq_getElem?_getD, List.getElem?_take, if_pos (by omega)]
  · rw [List.length_take]; omega
theorem numA_take (B : List Int) (a m : Nat) (h : a + 10 ≤ m) : numA (B.take m) a = numA B a := by
  have e : (B.take m).drop a = (B.drop a).take (m - a) := by rw [List.drop_take]
  unfold numA
  rw [e, lebD_take _ _ (by omega)]
theorem rInt_take (B : List Int) (a m : Nat) (h : a + 10 ≤ m) (err most : Int) : rInt (B.take m) a err most = rInt B a err most := by
  unfold rInt uptoA
  rw [numA_take B a m h]
/-- where a number was read the place moves on by ten bytes at most -/
theorem rInt_on (B : List Int) (hB : IsBytes B) (a : Nat) (ha : a ≤ B.length) (err most : Int) (hm : most < 9223372036854775808) : (rInt B a err most).2.1 ≤ a + 10 ∧ (rInt B a err most).2.1 ≤ B.length ∧ 0 ≤ (rInt B a err most).1 ∧ (rInt B a err most).1 < 9223372036854775808 := by
  unfold rInt
  by_cases h0 : err = 0
  · rw [if_neg (by simpa using h0)]
    rcases uptoA_cases B hB a ha most hm with ⟨E, hE, e⟩ | ⟨u, k, e, h1, h2, h3, h4, h5, h6⟩
    · rw [e, if_pos (by simp only; omega)]
      exact ⟨by simp only; omega, ha, by simp, by simp⟩
    · rw [e, if_neg (by simp)]
      have hk : k ≤ 10 := by
        have h7 := congrArg List.length h3
        rw [List.length_take, List.length_drop] at h7
        have h8 := lebB_10 (v := u) (by omega)
        omega
      exact ⟨by simp only; omega, h1, by simp only; omega, h6⟩
  · rw [if_pos h0]
    exact ⟨by simp only; omega, ha, by simp, by simp⟩
abbrev hwi : List Int := [104, 119, 105, 49]
/-- number, count, the place behind them (from the mark on), the error -/
def pkC (C : List Int) : Int × Int × Nat × Int :=
  if (rInt C (rInt C 0 0 1152921504606846976).2.1 (rInt C 0 0 1152921504606846976).2.2 1048576).2.2 ≠ 0 then (0, 0, 0, 92)
  else ((rInt C 0 0 1152921504606846976).1, (rInt C (rInt C 0 0 1152921504606846976).2.1 (rInt C 0 0 1152921504606846976).2.2 1048576).1, (rInt C (rInt C 0 0 1152921504606846976).2.1 (rInt C 0 0 1152921504606846976).2.2 1048576).2.1, 0)
theorem rInt_two (C : List Int) (hC : IsBytes C) : rInt (C.take 20) 0 0 1152921504606846976 = rInt C 0 0 1152921504606846976 ∧ rInt (C.take 20) (rInt C 0 0 1152921504606846976).2.1 (rInt C 0 0 1152921504606846976).2.2 1048576 = rInt C (rInt C 0 0 1152921504606846976).2.1 (rInt C 0 0 1152921504606846976).2.2 1048576 :=
  ⟨rInt_take _ _ _ (by omega) _ _, rInt_take _ _ _ (by have := (rInt_on C hC 0 (Nat.zero_le _) 0 1152921504606846976 (by decide)).1; omega) _ _⟩
end Go.Proofs.Ytdmogbkfmeihfaa
