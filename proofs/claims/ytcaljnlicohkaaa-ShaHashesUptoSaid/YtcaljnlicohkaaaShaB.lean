import Derived.Test.YtcaljnlicohkaaaShaA
namespace Go.Proofs.Ytcaljnlicohkaaa
open Go.RowKit
set_option maxRecDepth 100000
set_option linter.unusedVariables false
/-- the bytes of a text -/
def byL (s : ByteArray) : List Int := s.data.toList.map (fun b => (b.toNat : Int))
theorem byL_length (s : ByteArray) : (byL s).length = s.size := by unfold byL; rw [List.length_map]; rfl
theorem byL_bytes (s : ByteArray) : IsBytes (byL s) := by
  intro b hb
  unfold byL at hb
  obtain ⟨c, _, rfl⟩ := List.mem_map.1 hb
  have := c.toNat_lt
  omega
theorem byL_at (W : World) (s : ByteArray) (k : IntKind) (j : Nat) (hj : j < (byL s).length) : Sem.run Try.prog (Instr.index 9 (.string s) (.int k (j : Int))) W = .ok (.int .u8 ((byL s).getD j 0)) W := by
  rw [byL_length] at hj
  rw [run_index_string (P := Try.prog) W 9 s k (j : Int) Try.underlying9]
  rw [dif_pos (by omega)]
  congr 2
  unfold byL
  rw [List.getD_eq_getElem?_getD, List.getElem?_map, Array.getElem?_toList]
  have hj2 : j < s.data.size := hj
  rw [Array.getElem?_eq_getElem hj2]
  rfl
/-- the first place below n that holds no digit, from i on -/
def badAt (T : List Int) : Nat → Nat → Option Nat
  | _, 0 => none
  | i, n + 1 => if i = T.length ∨ digN (T.getD i 0) < 0 then some i else badAt T (i + 1) n
/-- the digest of the first k digits -/
def digD (T : List Int) : Nat → List Int
  | 0 => List.replicate 32 0
  | k + 1 => (digD T k).set (k / 2) ((digD T k).getD (k / 2) 0 * 16 + digN (T.getD k 0))
theorem digD_length (T : List Int) : ∀ k, (digD T k).length = 32
  | 0 => rfl
  | k + 1 => by rw [digD, List.length_set]; exact digD_length T k
theorem getD_set' {l : List Int} {i j : Nat} {x : Int} (hi : i < l.length) : (l.set i x).getD j 0 = if i = j then x else l.getD j 0 := by
  rw [List.getD_eq_getElem?_getD, List.getElem?_set]
  by_cases h : i = j
  · subst h; rw [if_pos rfl, if_pos hi, if_pos rfl]; rfl
  · rw [if_neg h, if_neg h, List.getD_eq_getElem?_getD]
/-- what stands at a place: two digits, one, or none as yet -/
theorem digD_getD (T : List Int) : ∀ k, k ≤ 64 → ∀ j, j < 32 → (digD T k).getD j 0 = if 2 * j + 1 < k then digN (T.getD (2 * j) 0) * 16 + digN (T.getD (2 * j + 1) 0) else if 2 * j < k then digN (T.getD (2 * j) 0) else 0
  | 0, _, j, hj => by
    rw [if_neg (by omega), if_neg (by omega)]
    rw [digD, List.getD_eq_getElem?_getD, List.getElem?_replicate]
    split <;> rfl
  | k + 1, hk, j, hj => by
    have ih := digD_getD T k (by omega)
    rw [digD, getD_set' (by rw [digD_length]; omega)]
    by_cases h : k / 2 = j
    · rw [if_pos h, h, ih j hj]
      by_cases hp : k % 2 = 0
      · rw [if_neg (by omega), if_neg (by omega), if_neg (by omega), if_pos (by omega), show 2 * j = k by omega]
        omega
      · rw [if_neg (by omega), if_pos (by omega), if_pos (by omega), show 2 * j + 1 = k by omega]
    · rw [if_neg h, ih j hj]
      by_cases h1 : 2 * j + 1 < k
      · rw [if_pos h1, if_pos (by omega)]
      · by_cases h2 : 2 * j < k
        · omega
        · rw [if_neg h1, if_neg h2, if_neg (by omega), if_neg (by omega)]
theorem digN_hi (c : Int) : digN c < 16 := by
  unfold digN
  split
  · omega
  · split <;> omega
/-- before a digit is laid down its place holds less than sixteen -/
theorem digD_low (T : List Int) {k : Nat} (hk : k < 64) (hall : ∀ i, i < k → 0 ≤ digN (T.getD i 0)) : 0 ≤ (digD T k).getD (k / 2) 0 ∧ (digD T k).getD (k / 2) 0 < 16 := by
  rw [digD_getD T k (by omega) (k / 2) (by omega)]
  rw [if_neg (by omega)]
  by_cases h : 2 * (k / 2) < k
  · rw [if_pos h]
    exact ⟨hall _ h, digN_hi _⟩
  · rw [if_neg h]; omega
theorem digD_range (T : List Int) {k : Nat} (hk : k ≤ 64) (hall : ∀ i, i < k → 0 ≤ digN (T.getD i 0)) : ∀ x ∈ digD T k, 0 ≤ x ∧ x < 256 := by
  intro x hx
  obtain ⟨j, hj, rfl⟩ := List.getElem_of_mem hx
  rw [digD_length] at hj
  have e : (digD T k)[j]'(by rw [digD_length]; exact hj) = (digD T k).getD j 0 := by rw [List.getD_eq_getElem?_getD, List.getElem?_eq_getElem]; rfl
  rw [e, digD_getD T k hk j hj]
  have h1 := digN_hi (T.getD (2 * j) 0)
  have h2 := digN_hi (T.getD (2 * j + 1) 0)
  by_cases c1 : 2 * j + 1 < k
  · rw [if_pos c1]
    have := hall (2 * j) (by omega)
    have := hall (2 * j + 1) c1
    omega
  · rw [if_neg c1]
    by_cases c2 : 2 * j < k
    · rw [if_pos c2]
      have := hall (2 * j) c2
      omega
    · rw [if_neg c2]; omega
theorem or_u8 {m n : Int} (m0 : 0 ≤ m) (m1 : m < 16) (n0 : 0 ≤ n) (n1 : n < 16) : bits .or .u8 (n * 16 % 256) m = n * 16 + m := by
  obtain ⟨a, rfl⟩ := Int.eq_ofNat_of_zero_le m0
  obtain ⟨b, rfl⟩ := Int.eq_ofNat_of_zero_le n0
  have ha : a < 16 := by omega
  have hb : b < 16 := by omega
  have : ∀ b < 16, ∀ a < 16, bits .or .u8 (((b : Nat) : Int) * 16 % 256) ((a : Nat) : Int) = ((b : Nat) : Int) * 16 + ((a : Nat) : Int) := by decide +kernel
  exact this b hb a ha
theorem badAt_some {T : List Int} : ∀ n i k, (∀ j, i ≤ j → j < k → j < T.length ∧ 0 ≤ digN (T.getD j 0)) → (k = T.length ∨ digN (T.getD k 0) < 0) → i ≤ k → k < i + n → badAt T i n = some k
  | 0, i, k, _, _, h1, h2 => by omega
  | n + 1, i, k, hg, hb, h1, h2 => by
    rw [badAt]
    by_cases h : i = k
    · subst h; rw [if_pos hb]
    · have := hg i (Nat.le_refl _) (by omega)
      rw [if_neg (by omega)]
      exact badAt_some n (i + 1) k (fun j hj hk => hg j (by omega) hk) hb (by omega) (by omega)
theorem badAt_none {T : List Int} : ∀ n i, (∀ j, i ≤ j → j < i + n → j < T.length ∧ 0 ≤ digN (T.getD j 0)) → badAt T i n = none
  | 0, _, _ => rfl
  | n + 1, i, hg => by
    have := hg i (Nat.le_refl _) (by omega)
    rw [badAt, if_neg (by omega)]
    exact badAt_none n (i + 1) fun j hj hk => hg j (by omega) (by omega)
def parE (T : List Int) : Int := match badAt T 0 64 with | some _ => 50 | none => if 64 < T.length then 50 else 0
def parP (T : List Int) : Int := match badAt T 0 64 with | some i => (i : Int) | none => if 64 < T.length then 64 else 0
def parD (T : List Int) : List Int := match badAt T 0 64 with | some _ => List.replicate 32 0 | none => if 64 < T.length then List.replicate 32 0 else digD T 64
def u8A (l : List Int) : Array Value := (l.map (Value.int .u8)).toArray
def ParRet (w : World) (T : List Int) (e : Ending) (w' : World) : Prop := e = .returned (.tuple #[.agg (u8A (parD T)), .int .i64 (parE T), .int .i64 (parP T)]) ∧ Below w.heap.size w w'
theorem par_bad {w w' : World} {T : List Int} {e : Ending} {k : Nat} (hb : badAt T 0 64 = some k) (he : e = .returned (.tuple #[.agg (u8A (List.replicate 32 0)), .int .i64 50, .int .i64 (k : Int)])) (h : Below w.heap.size w w') : ParRet w T e w' := by
  refine ⟨?_, h⟩
  unfold parD parE parP
  rw [hb]
  exact he
theorem par_long {w w' : World} {T : List Int} {e : Ending} (hb : badAt T 0 64 = none) (hl : 64 < T.length) (he : e = .returned (.tuple #[.agg (u8A (List.replicate 32 0)), .int .i64 50, .int .i64 64])) (h : Below w.heap.size w w') : ParRet w T e w' := by
  refine ⟨?_, h⟩
  unfold parD parE parP
  rw [hb]
  simp only [if_pos hl]
  exact he
theorem par_good {w w' : World} {T : List Int} {e : Ending} (hb : badAt T 0 64 = none) (hl : ¬ 64 < T.length) (he : e = .returned (.tuple #[.agg (u8A (digD T 64)), .int .i64 0, .int .i64 0])) (h : Below w.heap.size w w') : ParRet w T e w' := by
  refine ⟨?_, h⟩
  unfold parD parE parP
  rw [hb]
  simp only [if_neg hl]
  exact he
theorem u8A_size (l : List Int) : (u8A l).size = l.length := by unfold u8A; simp
theorem u8A_cell (l : List Int) (j : Nat) (hj : j < l.length) : (u8A l)[j]? = some (.int .u8 (l.getD j 0)) := by
  unfold u8A
  rw [List.getElem?_toArray, List.getElem?_map, List.getD_eq_getElem?_getD, List.getElem?_eq_getElem hj]
  rfl
theorem u8A_set (l : List Int) (j : Nat) (x : Int) : (u8A l).setIfInBounds j (.int .u8 x) = u8A (l.set j x) := by
  unfold u8A
  rw [List.map_set]
  simp
theorem u8A_one (l : List Int) : (u8A l).all (·.oneCell') = true := by
  rw [Array.all_eq_true_iff_forall_mem]
  intro x hx
  unfold u8A at hx
  simp at hx
  obtain ⟨a, _, rfl⟩ := hx
  rfl
theorem zeros32 : #[.int .u8 0, .int .u8 0, .int .u8 0, .int .u8 0, .int .u8 0, .int .u8 0, .int .u8 0, .int .u8 0, .int .u8 0, .int .u8 0, .int .u8 0, .int .u8 0, .int .u8 0, .int .u8 0, .int .u8 0, .int .u8 0, .int .u8 0, .int .u8 0, .int .u8 0, .int .u8 0, .int .u8 0, .int .u8 0, .int .u8 0, .int .u8 0, .int .u8 0, .int .u8 0, .int .u8 0, .int .u8 0, .int .u8 0, .int .u8 0, .int .u8 0, .int .u8 0] = u8A (List.replicate 32 0) := rfl
end Go.Proofs.Ytcaljnlicohkaaa
