/- A frame's bytes with bits turned: refused, and not found. No program in sight. -/
import Derived.Test.YtilmmohkdgmhnaaFrameW
namespace Go.Proofs.Ytilmmohkdgmhnaa
open Go.RowKit
set_option maxRecDepth 100000
set_option linter.unusedVariables false
theorem frame_holds_run {l : List Int} (h : holdsB l = true) : run ones l = upn 32 ones := by
  unfold holdsB at h
  rw [Bool.and_eq_true, decide_eq_true_iff, decide_eq_true_iff] at h
  obtain ⟨h1, h2⟩ := h
  conv => lhs; rw [← List.take_append_drop (l.length - 4) l]
  rw [run_append, ← h2, run_B4]
  unfold sumW
  rw [← BitVec.xor_assoc, BitVec.xor_self, BitVec.zero_xor]
theorem frame_holds_turns {l : List Int} (h : IsBytes l) (hh : holdsB l = true) {s : List Nat} (hs : ∀ a ∈ s, a < 8 * l.length) (hd : diffW l.length s ≠ 0#32) : holdsB (turns l s) = false := by
  cases h2 : holdsB (turns l s)
  · rfl
  · exfalso
    have e1 := frame_holds_run hh
    have e2 := frame_holds_run h2
    rw [run_turns ones h hs, e1] at e2
    have e3 := congrArg (upn 32 ones ^^^ ·) e2
    simp only [← BitVec.xor_assoc, BitVec.xor_self, BitVec.zero_xor] at e3
    exact hd e3
theorem take_turn (l : List Int) (a : Nat) (n : Nat) : (turn l a).take n = if a < 8 * n then turn (l.take n) a else l.take n := by
  unfold turn
  rw [List.take_set]
  by_cases h : a < 8 * n
  · rw [if_pos h, getD_take' (by omega)]
  · rw [if_neg h, List.set_eq_of_length_le (by rw [List.length_take]; omega)]
theorem take_turns (l : List Int) (n : Nat) : ∀ s : List Nat, (turns l s).take n = turns (l.take n) (s.filter (fun a => decide (a < 8 * n)))
  | [] => rfl
  | a :: s => by
    rw [turns, take_turn, take_turns l n s, List.filter_cons]
    by_cases h : a < 8 * n
    · rw [if_pos h, if_pos (by simpa using h)]; rfl
    · rw [if_neg h, if_neg (by simpa using h)]
/-- what is turned is told: in the head by the head's own sum, behind it by the frame's -/
theorem spoilt_dec {k : Int} {body : List Int} (hb : IsBytes body) (h1 : 1 ≤ k) (h2 : k ≤ 255) (hl : body.length ≤ 1048576) {s : List Nat} (hs : ∀ a ∈ s, a < 8 * (body.length + 14)) (hne : s ≠ [])
    (hd : diffW (body.length + 14) s ≠ 0#32) (hd10 : s.filter (fun a => decide (a < 8 * 10)) ≠ [] → diffW 10 (s.filter (fun a => decide (a < 8 * 10))) ≠ 0#32) : decE (turns (encB k body) s) ≠ 0 := by
  have hB := enc_bytes hb h1 h2 hl
  have hL := encB_length k body
  have hs' : ∀ a ∈ s, a < 8 * (encB k body).length := fun a ha => by rw [hL]; exact hs a ha
  have hC := turns_bytes hB hs'
  intro hE
  obtain ⟨N, hN, hN1, hN2, hF, hH, hW⟩ := dec_ok hC hE
  unfold headB at hH
  rw [Bool.and_eq_true] at hH
  have hH2 := hH.2
  rw [take_turns] at hH2
  have h10 : ((encB k body).take 10).length = 10 := by rw [List.length_take, hL]; omega
  by_cases hf : s.filter (fun a => decide (a < 8 * 10)) = []
  · have hT : (turns (encB k body) s).take 10 = (encB k body).take 10 := by rw [take_turns, hf]; rfl
    have hlN : lenN (turns (encB k body) s) = (body.length : Int) := by
      rw [← enc_len k body]
      unfold lenN
      rw [← getD_take' (n := 10) (l := turns (encB k body) s) (by omega : 3 < 10), ← getD_take' (n := 10) (l := turns (encB k body) s) (by omega : 4 < 10), ← getD_take' (n := 10) (l := turns (encB k body) s) (by omega : 5 < 10), hT, getD_take' (by omega), getD_take' (by omega), getD_take' (by omega)]
    have hNe : N = body.length := by rw [hlN] at hN; omega
    subst hNe
    rw [List.take_of_length_le (by rw [turns_length, hL]; exact Nat.le_refl _)] at hW
    have := frame_holds_turns hB (frame_holds_seal _) hs' (by rw [hL]; exact hd)
    unfold encB at hW this
    rw [this] at hW
    cases hW
  · have := frame_holds_turns (bytes_take hB 10) (by rw [enc_take10]; exact frame_holds_seal _) (s := s.filter (fun a => decide (a < 8 * 10))) (fun a ha => by rw [h10]; simpa using (List.mem_filter.1 ha).2) (by rw [h10]; exact hd10 hf)
    rw [this] at hH2
    cases hH2
/-! ### the frames that are found, by their places -/
theorem scanA_found (m : Int) (e : Bool) : ∀ (n : Nat) (l : List Int) (fs : List (Int × List Int)) (j lo : Nat), IsBytes l →
    (∀ f ∈ (scanA m e n l fs j lo).1, f ∈ fs ∨ ∃ p, p + f.2.length + 14 ≤ l.length ∧ lookN m (l.drop p) = 3 ∧ f = ((l.drop p).getD 2 0, ((l.drop p).drop 10).take (lenN (l.drop p)).toNat)) ∧ ∃ q, q ≤ l.length ∧ (scanA m e n l fs j lo).2.1 = l.drop q
  | 0, l, fs, j, lo, _ => ⟨fun f hf => .inl hf, 0, Nat.zero_le _, rfl⟩
  | n + 1, l, fs, j, lo, hb => by
    rw [scanA]
    by_cases h0 : l.length = 0
    · rw [if_pos h0]; exact ⟨fun f hf => .inl hf, 0, Nat.zero_le _, rfl⟩
    rw [if_neg h0]
    have sub : ∀ (d : Nat) (fs' : List (Int × List Int)) (j' lo' : Nat), d ≤ l.length → (∀ f ∈ fs', f ∈ fs ∨ ∃ p, p + f.2.length + 14 ≤ l.length ∧ lookN m (l.drop p) = 3 ∧ f = ((l.drop p).getD 2 0, ((l.drop p).drop 10).take (lenN (l.drop p)).toNat)) →
        (∀ f ∈ (scanA m e n (l.drop d) fs' j' lo').1, f ∈ fs ∨ ∃ p, p + f.2.length + 14 ≤ l.length ∧ lookN m (l.drop p) = 3 ∧ f = ((l.drop p).getD 2 0, ((l.drop p).drop 10).take (lenN (l.drop p)).toNat)) ∧ ∃ q, q ≤ l.length ∧ (scanA m e n (l.drop d) fs' j' lo').2.1 = l.drop q := by
      intro d fs' j' lo' hd hfs
      obtain ⟨ih1, q, hq, ih2⟩ := scanA_found m e n (l.drop d) fs' j' lo' (bytes_drop hb _)
      refine ⟨fun f hf => ?_, d + q, by rw [List.length_drop] at hq; omega, by rw [ih2, List.drop_drop]⟩
      rcases ih1 f hf with h | ⟨p, h1, h2, h3⟩
      · exact hfs f h
      · rw [List.length_drop] at h1
        rw [List.drop_drop] at h2 h3
        exact .inr ⟨d + p, by omega, h2, h3⟩
    by_cases h3 : lookN m l = 3
    · rw [if_pos h3]
      obtain ⟨_, _, _, _, e5, _⟩ := lookN_3 h3
      have hnn := lenN_nonneg hb
      refine sub _ _ j lo (by omega) fun f hf => ?_
      rcases List.mem_append.1 hf with h | h
      · exact .inl h
      · rw [List.mem_singleton] at h
        refine .inr ⟨0, ?_, h3, h⟩
        rw [h]
        simp only [List.length_take, List.length_drop]
        omega
    rw [if_neg h3]
    by_cases h2 : lookN m l = 2
    · rw [if_pos h2]; exact sub 1 fs _ _ (by omega) fun f hf => .inl hf
    rw [if_neg h2]
    by_cases h1 : lookN m l = 1 ∧ e = false
    · rw [if_pos h1]; exact ⟨fun f hf => .inl hf, 0, Nat.zero_le _, rfl⟩
    rw [if_neg h1]
    exact sub 1 fs _ _ (by omega) fun f hf => .inl hf
theorem found_at {m : Int} {c : List Int} (hc : IsBytes c) : ∀ f ∈ foundIn m c, ∃ p, p + f.2.length + 14 ≤ c.length ∧ lookN m (c.drop p) = 3 := by
  intro f hf
  unfold foundIn at hf
  obtain ⟨h1, q, hq, h2⟩ := scanA_found m false c.length c [] 0 0 hc
  rcases List.mem_append.1 hf with h | h
  · rcases h1 f h with h | ⟨p, h3, h4, _⟩
    · exact absurd h (by simp)
    · exact ⟨p, h3, h4⟩
  · rw [h2] at h
    obtain ⟨k1, _⟩ := scanA_found m true (c.drop q).length (c.drop q) [] (scanA m false c.length c [] 0 0).2.2.1 (scanA m false c.length c [] 0 0).2.2.2 (bytes_drop hc q)
    rcases k1 f h with h | ⟨p, h3, h4, _⟩
    · exact absurd h (by simp)
    · rw [List.length_drop] at h3
      rw [List.drop_drop] at h4
      exact ⟨q + p, by omega, h4⟩
theorem look_dec {l : List Int} (h : lookN 1048576 l = 3) : decE l = 0 := by
  obtain ⟨e1, e2, e3, e4, e5, e6⟩ := lookN_3 h
  unfold decE
  rw [if_neg (by rw [e1]; simp), if_neg (by omega), if_neg (by rw [e3]; simp), if_neg (by omega), if_neg (by omega), if_neg (by rw [e6]; simp)]
/-- of what is refused no frame of its length is found -/
theorem found_short {c : List Int} {n : Nat} (hc : IsBytes c) (hl : c.length = n + 14) (hD : decE c ≠ 0) : ∀ f ∈ foundIn 1048576 c, f.2.length < n := by
  intro f hf
  obtain ⟨p, h1, h2⟩ := found_at hc f hf
  have hp : p ≠ 0 := fun h => by subst h; exact hD (look_dec h2)
  omega
theorem found_bare {c : List Int} (hc : IsBytes c) (hD : decE c ≠ 0) (hb : ∀ i, 1 ≤ i → i < c.length → c.getD i 0 ≠ 72) : foundIn 1048576 c = [] := by
  cases hL : foundIn 1048576 c with
  | nil => rfl
  | cons f fs =>
    exfalso
    obtain ⟨p, h1, h2⟩ := found_at (m := 1048576) hc f (by rw [hL]; simp)
    have hp : p ≠ 0 := fun h => by subst h; exact hD (look_dec h2)
    obtain ⟨e1, e2, _⟩ := lookN_3 h2
    rw [List.length_drop] at e2
    unfold frontB at e1
    rw [Bool.and_eq_true, decide_eq_false (by rw [List.length_drop]; omega), Bool.false_or, beq_iff_eq] at e1
    have e3 : (c.drop p).getD 0 0 = c.getD p 0 := by rw [List.getD_eq_getElem?_getD, List.getD_eq_getElem?_getD, List.getElem?_drop, Nat.add_zero]
    rw [e3] at e1
    exact hb p (by omega) (by omega) e1.1
end Go.Proofs.Ytilmmohkdgmhnaa
