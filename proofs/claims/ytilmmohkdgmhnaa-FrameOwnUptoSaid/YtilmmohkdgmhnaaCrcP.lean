/- Bits turned in a text, and what the sum tells of it: no program in sight. -/
import Derived.Test.YtilmmohkdgmhnaaCrcG
namespace Go.Proofs.Ytilmmohkdgmhnaa
def bitAt (l : List Int) (a : Nat) : Bool := (byteW (l.getD (a / 8) 0)).getLsbD (a % 8)
theorem getD_set {l : List Int} {i j : Nat} {x : Int} (hi : i < l.length) : (l.set i x).getD j 0 = if i = j then x else l.getD j 0 := by
  rw [List.getD_eq_getElem?_getD, List.getD_eq_getElem?_getD, List.getElem?_set]
  split
  · simp [*]
  · rfl
theorem bytes_at {l : List Int} (h : IsBytes l) (j : Nat) : 0 ≤ l.getD j 0 ∧ l.getD j 0 < 256 := by
  by_cases hj : j < l.length
  · rw [List.getD_eq_getElem?_getD, List.getElem?_eq_getElem hj, Option.getD_some]
    exact h _ (List.getElem_mem hj)
  · rw [List.getD_eq_getElem?_getD, List.getElem?_eq_none (by omega)]
    exact ⟨by decide, by decide⟩
theorem bitAt_turn {l : List Int} (h : IsBytes l) {a : Nat} (ha : a < 8 * l.length) (b : Nat) : bitAt (turn l a) b = (bitAt l b ^^ decide (a = b)) := by
  have hi : a / 8 < l.length := by omega
  unfold bitAt turn
  rw [getD_set hi]
  obtain ⟨h0, h1⟩ := bytes_at h (a / 8)
  by_cases e : a / 8 = b / 8
  · rw [if_pos e, byteW_turn h0 h1 (Nat.mod_lt _ (by decide)), BitVec.getLsbD_xor, BitVec.getLsbD_twoPow, ← e]
    congr 1
    have : (a = b) ↔ a % 8 = b % 8 := by omega
    simp only [this]
    by_cases h : a % 8 = b % 8 <;> simp [h]
    omega
  · rw [if_neg e, show decide (a = b) = false from decide_eq_false (by omega), Bool.xor_false]
/-- the text with these bits turned -/
def turns (l : List Int) : List Nat → List Int
  | [] => l
  | a :: s => turn (turns l s) a
theorem turns_length (l : List Int) : ∀ s, (turns l s).length = l.length
  | [] => rfl
  | a :: s => by rw [turns, turn_length, turns_length l s]
theorem turns_bytes {l : List Int} (h : IsBytes l) : ∀ {s : List Nat}, (∀ a ∈ s, a < 8 * l.length) → IsBytes (turns l s)
  | [], _ => h
  | a :: s, hs => turn_bytes (turns_bytes h fun b hb => hs b (List.mem_cons_of_mem _ hb)) (by rw [turns_length]; exact hs a (List.mem_cons_self ..))
theorem bitAt_turns {l : List Int} (h : IsBytes l) : ∀ {s : List Nat}, (∀ a ∈ s, a < 8 * l.length) → s.Nodup → ∀ b, bitAt (turns l s) b = (bitAt l b ^^ decide (b ∈ s))
  | [], _, _, b => by simp [turns]
  | a :: s, hs, hn, b => by
    have hs' : ∀ b ∈ s, b < 8 * l.length := fun b hb => hs b (List.mem_cons_of_mem _ hb)
    obtain ⟨hn1, hn2⟩ := List.nodup_cons.1 hn
    rw [turns, bitAt_turn (turns_bytes h hs') (by rw [turns_length]; exact hs a (List.mem_cons_self ..)), bitAt_turns h hs' hn2 b, Bool.xor_assoc]
    congr 1
    by_cases e : a = b
    · subst e; simp [hn1]
    · have e' : ¬ b = a := fun h => e h.symm
      simp [e, e']
def diffW (n : Nat) : List Nat → W32
  | [] => 0#32
  | a :: s => diffW n s ^^^ upn (8 * n - a) one1
theorem run_turns (r : W32) {l : List Int} (h : IsBytes l) : ∀ {s : List Nat}, (∀ a ∈ s, a < 8 * l.length) → run r (turns l s) = run r l ^^^ diffW l.length s
  | [], _ => by rw [turns, diffW, BitVec.xor_zero]
  | a :: s, hs => by
    have hs' : ∀ b ∈ s, b < 8 * l.length := fun b hb => hs b (List.mem_cons_of_mem _ hb)
    rw [turns, run_turn r (turns_bytes h hs') (by rw [turns_length]; exact hs a (List.mem_cons_self ..)), run_turns r h hs', turns_length, diffW, BitVec.xor_assoc]
/-- one, two or three places: the sums differ -/
theorem diffW_ne {n : Nat} (hn : n ≤ 134217728) {s : List Nat} (hs : ∀ a ∈ s, a < 8 * n) (hd : s.Nodup) (h0 : s ≠ []) (h3 : s.length ≤ 3) : diffW n s ≠ 0#32 := by
  have e : ord = 2147483647 := rfl
  match s, hs, hd, h0, h3 with
  | [a], hs, _, _, _ =>
    simp only [diffW, BitVec.zero_xor]
    exact upn_one_ne _
  | [a, b], hs, hd, _, _ =>
    have ha := hs a (by simp)
    have hb := hs b (by simp)
    have hab : a ≠ b := by simpa using hd
    simp only [diffW, BitVec.zero_xor]
    exact upn_two_ne' (by omega) (by omega) (by omega)
  | [a, b, c], hs, hd, _, _ =>
    simp only [diffW, BitVec.zero_xor]
    exact upn_three_ne _ _ _
/-! ### the bits of a list of places, each modulo how many there are; a place that stands twice is turned once -/
def places (n : Nat) : List Nat → List Nat → List Nat
  | s, [] => s
  | s, b :: bs => places n (if b % (8 * n) ∈ s then s else b % (8 * n) :: s) bs
theorem places_ok {n : Nat} (hn : 0 < n) : ∀ (bs : List Nat) {s : List Nat}, (∀ a ∈ s, a < 8 * n) → s.Nodup → (∀ a ∈ places n s bs, a < 8 * n) ∧ (places n s bs).Nodup ∧ (places n s bs).length ≤ s.length + bs.length ∧ s.length ≤ (places n s bs).length
  | [], s, h1, h2 => ⟨h1, h2, by simp [places], by simp [places]⟩
  | b :: bs, s, h1, h2 => by
    have hb : b % (8 * n) < 8 * n := Nat.mod_lt _ (by omega)
    rw [places]
    by_cases e : b % (8 * n) ∈ s
    · rw [if_pos e]
      obtain ⟨k1, k2, k3, k4⟩ := places_ok hn bs h1 h2
      exact ⟨k1, k2, by rw [List.length_cons]; omega, k4⟩
    · rw [if_neg e]
      obtain ⟨k1, k2, k3, k4⟩ := places_ok hn bs (s := b % (8 * n) :: s) (fun a ha => by rcases List.mem_cons.1 ha with h | h; (subst h; exact hb); exact h1 a h) (List.nodup_cons.2 ⟨e, h2⟩)
      exact ⟨k1, k2, by rw [List.length_cons] at k3 ⊢; omega, by rw [List.length_cons] at k4; omega⟩
/-! ### a run of bits -/
theorem upn_two (k : Nat) : ∀ i, i < 32 → i = k → upn k (BitVec.twoPow 32 i) = one1 := by
  induction k with
  | zero => intro i _ h; subst h; decide
  | succ k ih =>
    intro i hi h
    subst h
    rw [show k + 1 = k + 1 from rfl, upn_add k 1]
    show upn k (up (BitVec.twoPow 32 (k + 1))) = one1
    rw [up_twoPow (k + 1) hi (by omega)]
    exact ih k (by omega) (by omega)
/-- the low k bits of a word -/
def lowW (x : W32) : Nat → W32
  | 0 => 0#32
  | k + 1 => lowW x k ^^^ (if x.getLsbD k then BitVec.twoPow 32 k else 0#32)
theorem lowW_bit (x : W32) (k : Nat) : ∀ i, i < 32 → (lowW x k).getLsbD i = (decide (i < k) && x.getLsbD i) := by
  induction k with
  | zero => intro i hi; simp [lowW]
  | succ k ih =>
    intro i hi
    rw [lowW, BitVec.getLsbD_xor, ih i hi]
    by_cases e : i = k
    · subst e
      cases h : x.getLsbD i <;> simp [hi]
    · have e2 : decide (i < k + 1) = decide (i < k) := by rw [decide_eq_decide]; omega
      have e3 : ¬ k = i := fun h => e h.symm
      rw [e2]
      cases h : x.getLsbD k <;> simp [BitVec.getLsbD_twoPow, e3]
def anyW (x : W32) : Nat → Bool
  | 0 => false
  | k + 1 => anyW x k || x.getLsbD k
theorem anyW_mem (x : W32) : ∀ k, anyW x k = true → ∃ i, i < k ∧ x.getLsbD i = true
  | 0, h => by simp [anyW] at h
  | k + 1, h => by
    rw [anyW, Bool.or_eq_true] at h
    rcases h with h | h
    · obtain ⟨i, hi, h2⟩ := anyW_mem x k h
      exact ⟨i, by omega, h2⟩
    · exact ⟨k, by omega, h⟩
theorem lowW_ne {x : W32} {k : Nat} (hk : k ≤ 32) (h : anyW x k = true) : lowW x k ≠ 0#32 := by
  intro h0
  obtain ⟨i, hi, h2⟩ := anyW_mem x k h
  have := lowW_bit x k i (by omega)
  rw [h0, h2] at this
  simp [hi] at this
/-- the places of a run: from 'f' on, as the word says, k of them looked at -/
def runPlaces (f : Nat) (x : W32) : Nat → List Nat
  | 0 => []
  | k + 1 => if x.getLsbD k then (f + k) :: runPlaces f x k else runPlaces f x k
theorem runPlaces_lt (f : Nat) (x : W32) : ∀ k, ∀ a ∈ runPlaces f x k, f ≤ a ∧ a < f + k
  | 0, a, h => by simp [runPlaces] at h
  | k + 1, a, h => by
    rw [runPlaces] at h
    split at h
    · rcases List.mem_cons.1 h with rfl | h
      · omega
      · have := runPlaces_lt f x k a h; omega
    · have := runPlaces_lt f x k a h; omega
theorem runPlaces_nodup (f : Nat) (x : W32) : ∀ k, (runPlaces f x k).Nodup
  | 0 => by simp [runPlaces]
  | k + 1 => by
    rw [runPlaces]
    split
    · exact List.nodup_cons.2 ⟨fun h => by have := runPlaces_lt f x k _ h; omega, runPlaces_nodup f x k⟩
    · exact runPlaces_nodup f x k
theorem runPlaces_any (f : Nat) (x : W32) : ∀ k, (runPlaces f x k).isEmpty = !anyW x k
  | 0 => rfl
  | k + 1 => by
    rw [runPlaces, anyW]
    cases h : x.getLsbD k
    · simp [runPlaces_any f x k]
    · simp
theorem diffW_run {n f : Nat} (x : W32) : ∀ k, k ≤ 32 → f + k ≤ 8 * n → diffW n (runPlaces f x k) = upn (8 * n - f) (lowW x k)
  | 0, _, _ => by rw [runPlaces, diffW, lowW, upn_zero_right]
  | k + 1, hk, hf => by
    have ih := diffW_run (n := n) (f := f) x k (by omega) (by omega)
    rw [runPlaces, lowW, upn_xor, ← ih]
    split
    · rw [diffW]
      congr 1
      rw [← upn_two k k (by omega) rfl, ← upn_add]
      congr 1
      omega
    · rw [upn_zero_right, BitVec.xor_zero]
theorem diffW_run_ne {n f : Nat} {x : W32} {k : Nat} (hk : k ≤ 32) (hf : f + k ≤ 8 * n) (h : anyW x k = true) : diffW n (runPlaces f x k) ≠ 0#32 := by
  rw [diffW_run x k hk hf]
  intro h0
  exact lowW_ne hk h (upn_eq_zero h0)
end Go.Proofs.Ytilmmohkdgmhnaa
