/- How the stream is cut has no part: pure. -/
import Derived.Test.YtilmmohkdgmhnaaFrameV
namespace Go.Proofs.Ytilmmohkdgmhnaa
open Go.RowKit
set_option maxRecDepth 100000
set_option linter.unusedVariables false
theorem front_app {l : List Int} (p : List Int) (h : frontB l = false) : frontB (l ++ p) = false := by
  match l with
  | [] => cases h
  | [x] =>
    cases hx : (x == 72)
    · cases p with
      | nil => simp [frontB, hx]
      | cons y r => simp [frontB, hx]
    · simp [frontB, hx] at h
  | x :: y :: r =>
    simp only [frontB, List.cons_append, List.length_cons, List.getD_cons_zero, List.getD_cons_succ] at h ⊢
    rw [decide_eq_false (by omega), decide_eq_false (by omega)] at h ⊢
    exact h
theorem front_app_t {l : List Int} (p : List Int) (h2 : 2 ≤ l.length) : frontB (l ++ p) = frontB l := by
  match l, h2 with
  | x :: y :: r, _ =>
    simp only [frontB, List.cons_append, List.length_cons, List.getD_cons_zero, List.getD_cons_succ]
    rw [decide_eq_false (by omega), decide_eq_false (by omega), decide_eq_false (by omega), decide_eq_false (by omega)]
theorem len_app {l : List Int} (p : List Int) (h : 10 ≤ l.length) : lenN (l ++ p) = lenN l := by
  unfold lenN
  rw [getD_left (by omega), getD_left (by omega), getD_left (by omega)]
theorem look_app {m : Int} {l : List Int} (p : List Int) (hb : IsBytes l) (h : lookN m l ≠ 1) : lookN m (l ++ p) = lookN m l := by
  unfold lookN at h ⊢
  by_cases hF : frontB l = false
  · rw [if_pos hF, if_pos (front_app p hF)]
  rw [if_neg hF] at h ⊢
  by_cases h10 : l.length < 10
  · rw [if_pos h10] at h; exact absurd rfl h
  rw [if_neg h10] at h ⊢
  have h10' : 10 ≤ l.length := by omega
  have hH : headB (l ++ p) = headB l := by
    unfold headB
    rw [getD_left (by omega), List.take_append_of_le_length h10']
  have hla : (l ++ p).length = l.length + p.length := List.length_append
  have hnn := lenN_nonneg hb
  rw [front_app_t p (by omega), if_neg hF, if_neg (by omega : ¬ (l ++ p).length < 10), hH, len_app p h10']
  by_cases hh : headB l = false
  · rw [if_pos hh, if_pos hh]
  rw [if_neg hh] at h ⊢
  rw [if_neg hh]
  by_cases hm : m < lenN l
  · rw [if_pos hm, if_pos hm]
  rw [if_neg hm] at h ⊢
  rw [if_neg hm]
  by_cases hs : (l.length : Int) < lenN l + 14
  · rw [if_pos hs] at h; exact absurd rfl h
  rw [if_neg hs, if_neg (by omega : ¬ ((l ++ p).length : Int) < lenN l + 14), List.take_append_of_le_length (by omega)]
theorem scanA_fs (m : Int) (e : Bool) : ∀ (n : Nat) (l : List Int) (fs : List (Int × List Int)) (j lo : Nat),
    scanA m e n l fs j lo = (fs ++ (scanA m e n l [] j lo).1, (scanA m e n l [] j lo).2)
  | 0, l, fs, j, lo => by simp [scanA]
  | n + 1, l, fs, j, lo => by
    rw [scanA, scanA]
    by_cases h0 : l.length = 0
    · rw [if_pos h0, if_pos h0]; simp
    rw [if_neg h0, if_neg h0]
    by_cases h3 : lookN m l = 3
    · rw [if_pos h3, if_pos h3, scanA_fs m e n _ (fs ++ _), scanA_fs m e n _ ([] ++ _)]
      simp
    rw [if_neg h3, if_neg h3]
    by_cases h2 : lookN m l = 2
    · rw [if_pos h2, if_pos h2, scanA_fs m e n _ fs]
    rw [if_neg h2, if_neg h2]
    by_cases h1 : lookN m l = 1 ∧ e = false
    · rw [if_pos h1, if_pos h1]; simp
    rw [if_neg h1, if_neg h1, scanA_fs m e n _ fs]
theorem scanA_fuel (m : Int) (e : Bool) : ∀ (n k : Nat) (l : List Int) (fs : List (Int × List Int)) (j lo : Nat), l.length ≤ n → l.length ≤ k → scanA m e n l fs j lo = scanA m e k l fs j lo
  | 0, 0, l, fs, j, lo, _, _ => rfl
  | 0, k + 1, l, fs, j, lo, hn, _ => by rw [scanA, scanA, if_pos (by omega)]
  | n + 1, 0, l, fs, j, lo, _, hk => by rw [scanA, scanA, if_pos (by omega)]
  | n + 1, k + 1, l, fs, j, lo, hn, hk => by
    rw [scanA, scanA]
    by_cases h0 : l.length = 0
    · rw [if_pos h0, if_pos h0]
    have hd : ∀ d, 1 ≤ d → (l.drop d).length ≤ n ∧ (l.drop d).length ≤ k := fun d hd => by rw [List.length_drop]; omega
    rw [scanA_fuel m e n k (l.drop _) _ _ _ (hd _ (by omega)).1 (hd _ (by omega)).2, scanA_fuel m e n k (l.drop 1) fs (j + 1) (lo + 1) (hd _ (by omega)).1 (hd _ (by omega)).2, scanA_fuel m e n k (l.drop 1) fs (j + 1) lo (hd _ (by omega)).1 (hd _ (by omega)).2]
/-- what was found in a beginning is found in the whole, and it goes on where the beginning stopped -/
theorem scanA_more (m : Int) (p : List Int) : ∀ (n : Nat) (l : List Int) (fs : List (Int × List Int)) (j lo k k' : Nat), IsBytes l → l.length ≤ n → (l ++ p).length ≤ k → ((scanA m false n l fs j lo).2.1 ++ p).length ≤ k' →
    scanA m false k (l ++ p) fs j lo = scanA m false k' ((scanA m false n l fs j lo).2.1 ++ p) (scanA m false n l fs j lo).1 (scanA m false n l fs j lo).2.2.1 (scanA m false n l fs j lo).2.2.2
  | 0, l, fs, j, lo, k, k', hb, hn, hk, hk' => scanA_fuel m false k k' _ _ _ _ hk hk'
  | n + 1, l, fs, j, lo, k, k', hb, hn, hk, hk' => by
    rw [scanA] at hk' ⊢
    by_cases h0 : l.length = 0
    · rw [if_pos h0] at hk' ⊢
      exact scanA_fuel m false k k' _ _ _ _ hk hk'
    rw [if_neg h0] at hk' ⊢
    have hla : (l ++ p).length = l.length + p.length := List.length_append
    have hlu : ¬ (l ++ p).length = 0 := by omega
    obtain ⟨k, rfl⟩ : ∃ q, k = q + 1 := ⟨k - 1, by omega⟩
    have hd : ∀ d, 1 ≤ d → d ≤ l.length → (l ++ p).drop d = l.drop d ++ p ∧ (l.drop d).length ≤ n ∧ (l.drop d ++ p).length ≤ k := fun d h1 h2 => by
      rw [List.drop_append_of_le_length h2, List.length_append, List.length_drop]
      exact ⟨rfl, by omega, by omega⟩
    by_cases h3 : lookN m l = 3
    · rw [if_pos h3] at hk' ⊢
      obtain ⟨_, e10, _, _, e5, _⟩ := lookN_3 h3
      have hnn := lenN_nonneg hb
      obtain ⟨d1, d2, d3⟩ := hd ((lenN l).toNat + 14) (by omega) (by omega)
      conv => lhs; rw [scanA]
      rw [if_neg hlu, look_app p hb (by rw [h3]; decide), if_pos h3, len_app p e10, d1, getD_left (by omega), List.drop_append_of_le_length e10, List.take_append_of_le_length (by rw [List.length_drop]; omega)]
      exact scanA_more m p n _ _ _ _ _ _ (bytes_drop hb _) d2 d3 hk'
    rw [if_neg h3] at hk' ⊢
    obtain ⟨d1, d2, d3⟩ := hd 1 (by omega) (by omega)
    by_cases h2 : lookN m l = 2
    · rw [if_pos h2] at hk' ⊢
      conv => lhs; rw [scanA]
      rw [if_neg hlu, look_app p hb (by rw [h2]; decide), if_neg h3, if_pos h2, d1]
      exact scanA_more m p n _ _ _ _ _ _ (bytes_drop hb _) d2 d3 hk'
    rw [if_neg h2] at hk' ⊢
    by_cases h1 : lookN m l = 1
    · rw [if_pos ⟨h1, rfl⟩] at hk' ⊢
      exact scanA_fuel m false _ k' _ _ _ _ hk hk'
    rw [if_neg (by simp [h1])] at hk' ⊢
    conv => lhs; rw [scanA]
    rw [if_neg hlu, look_app p hb h1, if_neg h3, if_neg h2, if_neg (by simp [h1]), d1]
    exact scanA_more m p n _ _ _ _ _ _ (bytes_drop hb _) d2 d3 hk'
theorem feedA_flat (m : Int) : ∀ (ps : List (List Int)) (x : List Int), IsBytes x → (∀ p ∈ ps, IsBytes p) → feedA m ps (scanA m false x.length x [] 0 0) = scanA m false (x ++ ps.flatten).length (x ++ ps.flatten) [] 0 0
  | [], x, _, _ => by rw [feedA, List.flatten_nil, List.append_nil]
  | p :: ps, x, hb, hp => by
    rw [feedA]
    have hm := scanA_more m p x.length x [] 0 0 (x ++ p).length _ hb (Nat.le_refl _) (Nat.le_refl _) (Nat.le_refl _)
    rw [← scanA_fs m false _ _ (scanA m false x.length x [] 0 0).1, ← hm, feedA_flat m ps (x ++ p) (bytes_append hb (hp p (by simp))) (fun q hq => hp q (by simp [hq])), List.flatten_cons, List.append_assoc]
theorem feedA_all (m : Int) (ps : List (List Int)) (hp : ∀ p ∈ ps, IsBytes p) : feedA m ps ([], [], 0, 0) = scanA m false ps.flatten.length ps.flatten [] 0 0 :=
  feedA_flat m ps [] (by intro x hx; cases hx) hp
theorem look_wait {m : Int} {l : List Int} (hm : 0 ≤ m) (h : lookN m l = 1) : (l.length : Int) < m + 14 := by
  unfold lookN at h
  by_cases hF : frontB l = false
  · rw [if_pos hF] at h; cases h
  rw [if_neg hF] at h
  by_cases h10 : l.length < 10
  · omega
  rw [if_neg h10] at h
  by_cases hh : headB l = false
  · rw [if_pos hh] at h; cases h
  rw [if_neg hh] at h
  by_cases hx : m < lenN l
  · rw [if_pos hx] at h; cases h
  rw [if_neg hx] at h
  by_cases hs : (l.length : Int) < lenN l + 14
  · omega
  rw [if_neg hs] at h
  split at h <;> cases h
theorem scanA_wait {m : Int} (hm : 0 ≤ m) : ∀ (n : Nat) (l : List Int) (fs : List (Int × List Int)) (j lo : Nat), l.length ≤ n → ((scanA m false n l fs j lo).2.1.length : Int) < m + 14
  | 0, l, fs, j, lo, hn => by rw [scanA]; simp only; omega
  | n + 1, l, fs, j, lo, hn => by
    rw [scanA]
    by_cases h0 : l.length = 0
    · rw [if_pos h0]; simp only; omega
    rw [if_neg h0]
    split
    · exact scanA_wait hm n _ _ _ _ (by rw [List.length_drop]; omega)
    split
    · exact scanA_wait hm n _ _ _ _ (by rw [List.length_drop]; omega)
    by_cases h1 : lookN m l = 1
    · rw [if_pos ⟨h1, rfl⟩]; exact look_wait hm h1
    rw [if_neg (by simp [h1])]
    exact scanA_wait hm n _ _ _ _ (by rw [List.length_drop]; omega)
/-- the frames' bytes -/
def cntN (fs : List (Int × List Int)) : Nat := (fs.map fun f => f.2.length + 14).sum
theorem cnt_append (a b : List (Int × List Int)) : cntN (a ++ b) = cntN a + cntN b := by simp [cntN]
theorem cnt_take {fs : List (Int × List Int)} {k : Nat} (h : k < fs.length) : cntN (fs.take (k + 1)) = cntN (fs.take k) + ((fs.getD k (0, [])).2.length + 14) := by
  rw [List.take_add_one, cnt_append, List.getElem?_eq_getElem h, List.getD_eq_getElem?_getD, List.getElem?_eq_getElem h]
  simp [cntN]
theorem cnt_le (fs : List (Int × List Int)) (k : Nat) : cntN (fs.take k) ≤ cntN fs := by
  conv => rhs; rw [← List.take_append_drop k fs]
  rw [cnt_append]; omega
theorem scanA_count (m : Int) (e : Bool) : ∀ (n : Nat) (l : List Int) (fs : List (Int × List Int)) (j lo : Nat), IsBytes l →
    cntN (scanA m e n l fs j lo).1 + (scanA m e n l fs j lo).2.1.length + (scanA m e n l fs j lo).2.2.1 = cntN fs + l.length + j
  | 0, l, fs, j, lo, _ => rfl
  | n + 1, l, fs, j, lo, hb => by
    rw [scanA]
    by_cases h0 : l.length = 0
    · rw [if_pos h0]
    rw [if_neg h0]
    by_cases h3 : lookN m l = 3
    · rw [if_pos h3, scanA_count m e n _ _ _ _ (bytes_drop hb _), cnt_append]
      obtain ⟨_, e10, _, _, e5, _⟩ := lookN_3 h3
      have := lenN_nonneg hb
      simp only [cntN, List.map_cons, List.map_nil, List.sum_cons, List.sum_nil, List.length_take, List.length_drop]
      omega
    rw [if_neg h3]
    split
    · rw [scanA_count m e n _ _ _ _ (bytes_drop hb _), List.length_drop]; omega
    split
    · rfl
    · rw [scanA_count m e n _ _ _ _ (bytes_drop hb _), List.length_drop]; omega
end Go.Proofs.Ytilmmohkdgmhnaa
