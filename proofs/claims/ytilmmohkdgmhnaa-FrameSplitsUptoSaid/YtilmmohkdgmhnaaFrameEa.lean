/- A splitter's stream as a whole: pure. -/
import Derived.Test.YtilmmohkdgmhnaaFrameCa
namespace Go.Proofs.Ytilmmohkdgmhnaa
open Go.RowKit
set_option maxRecDepth 100000
set_option linter.unusedVariables false
/-- what is told of the whole with its end is what was told without it, gone on with -/
theorem scanA_end (m : Int) : ∀ (n : Nat) (l : List Int) (fs : List (Int × List Int)) (j lo k k' : Nat), l.length ≤ n → l.length ≤ k → (scanA m false n l fs j lo).2.1.length ≤ k' →
    scanA m true k l fs j lo = scanA m true k' (scanA m false n l fs j lo).2.1 (scanA m false n l fs j lo).1 (scanA m false n l fs j lo).2.2.1 (scanA m false n l fs j lo).2.2.2
  | 0, l, fs, j, lo, k, k', hn, hk, hk' => scanA_fuel m true k k' _ _ _ _ hk hk'
  | n + 1, l, fs, j, lo, k, k', hn, hk, hk' => by
    rw [scanA] at hk' ⊢
    by_cases h0 : l.length = 0
    · rw [if_pos h0] at hk' ⊢
      exact scanA_fuel m true k k' _ _ _ _ hk hk'
    rw [if_neg h0] at hk' ⊢
    obtain ⟨k, rfl⟩ : ∃ q, k = q + 1 := ⟨k - 1, by omega⟩
    have hd : ∀ d, 1 ≤ d → (l.drop d).length ≤ n ∧ (l.drop d).length ≤ k := fun d hd => by rw [List.length_drop]; omega
    by_cases h3 : lookN m l = 3
    · rw [if_pos h3] at hk' ⊢
      obtain ⟨d1, d2⟩ := hd ((lenN l).toNat + 14) (by omega)
      conv => lhs; rw [scanA]
      rw [if_neg h0, if_pos h3]
      exact scanA_end m n _ _ _ _ _ _ d1 d2 hk'
    rw [if_neg h3] at hk' ⊢
    obtain ⟨d1, d2⟩ := hd 1 (by omega)
    by_cases h2 : lookN m l = 2
    · rw [if_pos h2] at hk' ⊢
      conv => lhs; rw [scanA]
      rw [if_neg h0, if_neg h3, if_pos h2]
      exact scanA_end m n _ _ _ _ _ _ d1 d2 hk'
    rw [if_neg h2] at hk' ⊢
    by_cases h1 : lookN m l = 1
    · rw [if_pos ⟨h1, rfl⟩] at hk' ⊢
      exact scanA_fuel m true _ k' _ _ _ _ hk hk'
    rw [if_neg (by simp [h1])] at hk' ⊢
    conv => lhs; rw [scanA]
    rw [if_neg h0, if_neg h3, if_neg h2, if_neg (by simp [h1])]
    exact scanA_end m n _ _ _ _ _ _ d1 d2 hk'
theorem scanA_none (m : Int) : ∀ (n : Nat) (l : List Int) (fs : List (Int × List Int)) (j lo : Nat), l.length ≤ n → (scanA m true n l fs j lo).2.1 = []
  | 0, l, fs, j, lo, hn => show l = [] from List.eq_nil_of_length_eq_zero (by omega)
  | n + 1, l, fs, j, lo, hn => by
    have hd : ∀ d, 1 ≤ d → (l.drop d).length ≤ n := fun d hd => by rw [List.length_drop]; omega
    rw [scanA]
    by_cases h0 : l.length = 0
    · rw [if_pos h0]; exact List.length_eq_zero_iff.1 h0
    rw [if_neg h0]
    split
    · exact scanA_none m n _ _ _ _ (hd _ (by omega))
    split
    · exact scanA_none m n _ _ _ _ (hd _ (by omega))
    rw [if_neg (by simp)]
    exact scanA_none m n _ _ _ _ (hd _ (by omega))
theorem scanA_shift (m : Int) (e : Bool) (a b : Nat) : ∀ (n : Nat) (l : List Int) (fs : List (Int × List Int)) (j lo : Nat),
    scanA m e n l fs (a + j) (b + lo) = ((scanA m e n l fs j lo).1, (scanA m e n l fs j lo).2.1, a + (scanA m e n l fs j lo).2.2.1, b + (scanA m e n l fs j lo).2.2.2)
  | 0, l, fs, j, lo => rfl
  | n + 1, l, fs, j, lo => by
    rw [scanA, scanA]
    by_cases h0 : l.length = 0
    · rw [if_pos h0, if_pos h0]
    rw [if_neg h0, if_neg h0]
    by_cases h3 : lookN m l = 3
    · rw [if_pos h3, if_pos h3]; exact scanA_shift m e a b n _ _ _ _
    rw [if_neg h3, if_neg h3]
    by_cases h2 : lookN m l = 2
    · rw [if_pos h2, if_pos h2]; exact scanA_shift m e a b n _ _ (j + 1) (lo + 1)
    rw [if_neg h2, if_neg h2]
    by_cases h1 : lookN m l = 1 ∧ e = false
    · rw [if_pos h1, if_pos h1]
    rw [if_neg h1, if_neg h1]; exact scanA_shift m e a b n _ _ (j + 1) lo
/-- a piece more -/
theorem scan_feed (m : Int) (S p : List Int) (a b : Nat) (F : List (Int × List Int)) (l : List Int) (j lo : Nat) (hS : IsBytes S) (h : scanA m false S.length S [] 0 0 = (F, l, j, lo)) (R : List (Int × List Int) × List Int × Nat × Nat) (hR : scanA m false (l ++ p).length (l ++ p) [] (a + j) (b + lo) = R) :
    ∃ j' lo', R.2.2.1 = a + j' ∧ R.2.2.2 = b + lo' ∧ scanA m false (S ++ p).length (S ++ p) [] 0 0 = (F ++ R.1, R.2.1, j', lo') := by
  have hm := scanA_more m p S.length S [] 0 0 (S ++ p).length (l ++ p).length hS (Nat.le_refl _) (Nat.le_refl _) (by rw [h]; exact Nat.le_refl _)
  rw [h] at hm
  simp only at hm
  rw [scanA_fs m false _ _ F] at hm
  subst hR
  rw [scanA_shift]
  exact ⟨_, _, rfl, rfl, hm⟩
/-- its end -/
theorem scan_end (m : Int) (S : List Int) (a b : Nat) (F : List (Int × List Int)) (l : List Int) (j lo : Nat) (h : scanA m false S.length S [] 0 0 = (F, l, j, lo)) (R : List (Int × List Int) × List Int × Nat × Nat) (hR : scanA m true l.length l [] (a + j) (b + lo) = R) :
    ∃ j' lo', R.2.2.1 = a + j' ∧ R.2.2.2 = b + lo' ∧ scanA m true S.length S [] 0 0 = (F ++ R.1, [], j', lo') := by
  have hm := scanA_end m S.length S [] 0 0 S.length l.length (Nat.le_refl _) (Nat.le_refl _) (by rw [h]; exact Nat.le_refl _)
  rw [h] at hm
  simp only at hm
  rw [scanA_fs m true _ _ F] at hm
  subst hR
  rw [scanA_shift]
  have hz := scanA_none m l.length l [] j lo (Nat.le_refl _)
  refine ⟨_, _, rfl, rfl, ?_⟩
  rw [hm, ← hz]
end Go.Proofs.Ytilmmohkdgmhnaa
