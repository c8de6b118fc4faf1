import Derived.Test.YtilmmohkdgmhnaaFrameX
namespace Go.Proofs.Ytilmmohkdgmhnaa
open Go.RowKit
set_option maxRecDepth 100000
set_option linter.unusedVariables false
theorem turnB_comm {x : Int} (i j : Nat) : turnB (turnB x i) j = turnB (turnB x j) i := by
  unfold turnB
  rw [Int.toNat_natCast, Int.toNat_natCast, Nat.xor_assoc, Nat.xor_assoc, Nat.xor_comm (2 ^ i)]
theorem turn_comm {l : List Int} {a b : Nat} (ha : a < 8 * l.length) (hb : b < 8 * l.length) : turn (turn l a) b = turn (turn l b) a := by
  unfold turn
  by_cases h : a / 8 = b / 8
  · rw [h, List.set_set, List.set_set, getD_set (by omega), getD_set (by omega), if_pos rfl, if_pos rfl, turnB_comm]
  · rw [getD_set (by omega), getD_set (by omega), if_neg h, if_neg (fun e => h e.symm), List.set_comm _ _ h]
theorem turns_erase {l : List Int} (hl : IsBytes l) {a : Nat} : ∀ {s : List Nat}, (∀ b ∈ s, b < 8 * l.length) → a ∈ s → turn (turns l s) a = turns l (s.erase a)
  | [], _, h => absurd h (by simp)
  | x :: s, hs, h => by
    have hs' : ∀ b ∈ s, b < 8 * l.length := fun b hb => hs b (List.mem_cons_of_mem _ hb)
    have hx := hs x (List.mem_cons_self ..)
    by_cases e : x = a
    · subst e
      rw [List.erase_cons_head, turns, turn_turn_same _ (turns_bytes hl hs') _ (by rw [turns_length]; exact hx)]
    · have ha : a ∈ s := by
        rcases List.mem_cons.1 h with h | h
        · exact absurd h.symm e
        · exact h
      rw [List.erase_cons_tail (by simpa using e), turns, turns, turn_comm (by rw [turns_length]; exact hx) (by rw [turns_length]; exact hs' a ha), turns_erase hl hs' ha]
/-- a place more: turned, or turned back -/
def tog (s : List Nat) (a : Nat) : List Nat := if a ∈ s then s.erase a else a :: s
theorem tog_turns {l : List Int} (hl : IsBytes l) {s : List Nat} (hs : ∀ b ∈ s, b < 8 * l.length) (a : Nat) : turns l (tog s a) = turn (turns l s) a := by
  unfold tog
  by_cases h : a ∈ s
  · rw [if_pos h, turns_erase hl hs h]
  · rw [if_neg h]; rfl
theorem tog_ok {n : Nat} {s : List Nat} {a : Nat} (hs : ∀ b ∈ s, b < n) (hn : s.Nodup) (ha : a < n) : (∀ b ∈ tog s a, b < n) ∧ (tog s a).Nodup ∧ (tog s a).length ≤ s.length + 1 := by
  unfold tog
  by_cases h : a ∈ s
  · rw [if_pos h]
    exact ⟨fun b hb => hs b (List.mem_of_mem_erase hb), hn.erase a, by rw [List.length_erase_of_mem h]; omega⟩
  · rw [if_neg h]
    exact ⟨fun b hb => (List.mem_cons.1 hb).elim (fun e => e ▸ ha) (hs b), List.nodup_cons.2 ⟨h, hn⟩, by simp⟩
theorem flips_dec {k : Int} {body : List Int} (hb : IsBytes body) (h1 : 1 ≤ k) (h2 : k ≤ 255) (hl : body.length ≤ 1048576) {s : List Nat} (hs : ∀ a ∈ s, a < 8 * (body.length + 14)) (hn : s.Nodup) (h3 : s.length ≤ 3) (hne : turns (encB k body) s ≠ encB k body) : decE (turns (encB k body) s) ≠ 0 := by
  have hne' : s ≠ [] := fun h => hne (by rw [h]; rfl)
  refine spoilt_dec hb h1 h2 hl hs hne' (diffW_ne (by omega) hs hn hne' h3) fun hf => ?_
  refine diffW_ne (by decide) (fun a ha => by simpa using (List.mem_filter.1 ha).2) (hn.filter _) hf (Nat.le_trans (List.length_filter_le _ _) h3)
theorem runs_filter (f : Nat) (x : W32) (n : Nat) : ∀ k, (runPlaces f x k).filter (fun a => decide (a < n)) = runPlaces f x (min k (n - f))
  | 0 => by rw [Nat.zero_min]; rfl
  | k + 1 => by
    have ih := runs_filter f x n k
    rw [runPlaces]
    by_cases hk : f + k < n
    · have e : min (k + 1) (n - f) = min k (n - f) + 1 := by omega
      have e2 : min k (n - f) = k := by omega
      rw [e, runPlaces, e2]
      rw [e2] at ih
      split
      · rw [List.filter_cons, if_pos (by simpa using hk), ih]
      · exact ih
    · have e : min (k + 1) (n - f) = min k (n - f) := by omega
      rw [e]
      split
      · rw [List.filter_cons, if_neg (by simpa using hk), ih]
      · exact ih
theorem anyW_of (f : Nat) (x : W32) (k : Nat) (h : runPlaces f x k ≠ []) : anyW x k = true := by
  have := runPlaces_any f x k
  cases h2 : anyW x k
  · rw [h2] at this
    exact absurd (by simpa using this) h
  · rfl
theorem runs_dec {k : Int} {body : List Int} (hb : IsBytes body) (h1 : 1 ≤ k) (h2 : k ≤ 255) (hl : body.length ≤ 1048576) {f : Nat} {x : W32} {m : Nat} (hm : m ≤ 32) (hf : f + m ≤ 8 * (body.length + 14)) (hne : turns (encB k body) (runPlaces f x m) ≠ encB k body) : decE (turns (encB k body) (runPlaces f x m)) ≠ 0 := by
  have hne' : runPlaces f x m ≠ [] := fun h => hne (by rw [h]; rfl)
  refine spoilt_dec hb h1 h2 hl (fun a ha => by have := runPlaces_lt f x m a ha; omega) hne' (diffW_run_ne hm hf (anyW_of f x m hne')) fun hF => ?_
  rw [runs_filter] at hF ⊢
  have hA := anyW_of f x _ hF
  by_cases h80 : f ≤ 80
  · exact diffW_run_ne (by omega) (by omega) hA
  · rw [show min m (8 * 10 - f) = 0 by omega] at hA
    cases hA
theorem frame_xor_turn {x : Int} (h0 : 0 ≤ x) (h1 : x < 256) {j : Nat} (hj : j < 8) : bits .xor .u8 x ((2 : Int) ^ j % 256) = turnB x j := by
  obtain ⟨n, rfl⟩ := Int.eq_ofNat_of_zero_le h0
  have hp : 2 ^ j < 2 ^ 8 := Nat.pow_lt_pow_right (by decide) hj
  have e : ((2 : Int) ^ j % 256) = ((2 ^ j : Nat) : Int) := (by decide : ∀ j : Nat, j < 8 → ((2 : Int) ^ j % 256) = ((2 ^ j : Nat) : Int)) j hj
  have hn : n < 2 ^ 8 := by omega
  have hx : n ^^^ 2 ^ j < 2 ^ 8 := Nat.xor_lt_two_pow hn hp
  rw [e]
  unfold turnB
  show IntKind.u8.wrap ((((BitVec.ofInt 8 (n : Int)) ^^^ (BitVec.ofInt 8 ((2 ^ j : Nat) : Int))).toNat : Nat) : Int) = _
  rw [BitVec.ofInt_natCast, BitVec.ofInt_natCast, BitVec.toNat_xor, BitVec.toNat_ofNat, BitVec.toNat_ofNat, Nat.mod_eq_of_lt hn, Nat.mod_eq_of_lt hp, Int.toNat_natCast, IntKind.wrap_u8']
  omega
end Go.Proofs.Ytilmmohkdgmhnaa
