/- Frames as bytes: what is encoded is decoded, what is decoded was encoded. No program in sight. -/
import Derived.Test.YtilmmohkdgmhnaaFrameM
namespace Go.Proofs.Ytilmmohkdgmhnaa
open Go.RowKit
set_option maxRecDepth 100000
set_option linter.unusedVariables false
theorem frame_holds_seal (l : List Int) : holdsB (sealB l) = true := by
  unfold holdsB sealB
  have h4 : (B4 (sumW l)).length = 4 := rfl
  have e : (l ++ B4 (sumW l)).length - 4 = l.length := by rw [List.length_append, h4]; omega
  rw [e, List.take_left, List.drop_left, decide_eq_true (by rw [List.length_append, h4]; omega : 4 ≤ (l ++ B4 (sumW l)).length), decide_eq_true rfl]
  rfl
theorem frame_seal_bytes {l : List Int} (h : IsBytes l) : IsBytes (sealB l) := bytes_append h (B4_bytes _)
/-- what holds is sealed -/
theorem seal_of_holds {l : List Int} {n : Nat} (hn : l.length = n + 4) (h : holdsB l = true) : l = sealB (l.take n) := by
  unfold holdsB at h
  rw [Bool.and_eq_true, decide_eq_true_iff, decide_eq_true_iff, show l.length - 4 = n by omega] at h
  unfold sealB
  rw [h.2, List.take_append_drop]
theorem getD_app {l m : List Int} {j : Nat} (h : j < l.length) : (l ++ m).getD j 0 = l.getD j 0 := getD_left h
theorem getD_take' {l : List Int} {j n : Nat} (h : j < n) : (l.take n).getD j 0 = l.getD j 0 := by
  rw [List.getD_eq_getElem?_getD, List.getD_eq_getElem?_getD, List.getElem?_take_of_lt h]
theorem enc_split (k : Int) (body : List Int) : encB k body = head6 k body.length ++ (B4 (sumW (head6 k body.length)) ++ (body ++ B4 (sumW (sealB (head6 k body.length) ++ body)))) := by
  unfold encB sealB
  simp only [List.append_assoc]
theorem enc_getD (k : Int) (body : List Int) (j : Nat) (hj : j < 6) : (encB k body).getD j 0 = (head6 k body.length).getD j 0 := by
  rw [enc_split]
  exact getD_app hj
theorem enc_len (k : Int) (body : List Int) : lenN (encB k body) = (body.length : Int) := by
  unfold lenN
  rw [enc_getD _ _ 3 (by omega), enc_getD _ _ 4 (by omega), enc_getD _ _ 5 (by omega)]
  show (body.length : Int) % 256 + (body.length : Int) / 256 % 256 * 256 + (body.length : Int) / 65536 * 65536 = _
  omega
theorem enc_take10 (k : Int) (body : List Int) : (encB k body).take 10 = sealB (head6 k body.length) := by
  unfold encB
  rw [show sealB (sealB (head6 k body.length) ++ body) = sealB (head6 k body.length) ++ (body ++ B4 (sumW (sealB (head6 k body.length) ++ body))) from List.append_assoc _ _ _]
  exact List.take_left' (by rw [sealB_length]; rfl)
theorem enc_body (k : Int) (body : List Int) : ((encB k body).drop 10).take body.length = body := by
  unfold encB
  rw [show sealB (sealB (head6 k body.length) ++ body) = sealB (head6 k body.length) ++ (body ++ B4 (sumW (sealB (head6 k body.length) ++ body))) from List.append_assoc _ _ _]
  rw [List.drop_left' (by rw [sealB_length]; rfl), List.take_left]
theorem enc_bytes {k : Int} {body : List Int} (hb : IsBytes body) (h1 : 1 ≤ k) (h2 : k ≤ 255) (hl : body.length ≤ 1048576) : IsBytes (encB k body) :=
  frame_seal_bytes (bytes_append (frame_seal_bytes (head6_bytes body.length hl (by omega) (by omega))) hb)
/-- of a frame's bytes, with anything behind them, Decode takes the frame -/
theorem dec_enc (k : Int) (body m : List Int) (h1 : 1 ≤ k) (hl : body.length ≤ 1048576) :
    decE (encB k body ++ m) = 0 ∧ decN (encB k body ++ m) = (body.length : Int) + 14 ∧ decK (encB k body ++ m) = k ∧ decBody (encB k body ++ m) = body := by
  have hL := encB_length k body
  have g : ∀ j, j < 6 → (encB k body ++ m).getD j 0 = (head6 k body.length).getD j 0 := fun j hj => by rw [getD_app (by omega), enc_getD _ _ _ hj]
  have gl : lenN (encB k body ++ m) = (body.length : Int) := by
    rw [← enc_len k body]
    unfold lenN
    rw [getD_app (by omega), getD_app (by omega), getD_app (by omega)]
  have hF : frontB (encB k body ++ m) = true := by
    unfold frontB
    rw [g 0 (by omega), g 1 (by omega)]
    have e0 : (head6 k body.length).getD 0 0 = 72 := rfl
    have e1 : (head6 k body.length).getD 1 0 = 87 := rfl
    rw [e0, e1]
    simp
  have hH : headB (encB k body ++ m) = true := by
    unfold headB
    rw [g 2 (by omega), List.take_append_of_le_length (by omega), enc_take10, frame_holds_seal]
    show (k != 0 && true) = true
    simp
    omega
  have hW : (encB k body ++ m).take (lenN (encB k body ++ m) + 14).toNat = encB k body := by
    rw [gl, show ((body.length : Int) + 14).toNat = (encB k body).length by omega, List.take_left]
  have hWt : holdsB (encB k body) = true := frame_holds_seal _
  have hE : decE (encB k body ++ m) = 0 := by
    unfold decE
    rw [if_neg (by rw [hF]; simp), if_neg (by rw [List.length_append]; omega), if_neg (by rw [hH]; simp), if_neg (by rw [gl]; omega), if_neg (by rw [gl, List.length_append]; omega), hW, if_neg (by rw [hWt]; simp)]
  refine ⟨hE, ?_, ?_, ?_⟩
  · unfold decN; rw [if_pos hE, gl]
  · unfold decK; rw [if_pos hE, g 2 (by omega)]; rfl
  · unfold decBody
    rw [if_pos hE, gl, List.drop_append_of_le_length (by omega), List.take_append_of_le_length (by rw [List.length_drop]; omega)]
    exact enc_body k body
theorem one_enc (k : Int) (body : List Int) (h1 : 1 ≤ k) (hl : body.length ≤ 1048576) : oneE (encB k body) = 0 ∧ oneK (encB k body) = k ∧ oneBody (encB k body) = body := by
  have h := dec_enc k body [] h1 hl
  rw [List.append_nil] at h
  obtain ⟨h1, h2, h3, h4⟩ := h
  have hE : oneE (encB k body) = 0 := by unfold oneE; rw [if_neg (by rw [h1]; simp), if_neg (by rw [h2, encB_length]; omega)]
  refine ⟨hE, ?_, ?_⟩
  · unfold oneK; rw [if_pos hE, h3]
  · unfold oneBody; rw [if_pos hE, h4]
/-- what Decode takes -/
theorem dec_ok {b : List Int} (hb : IsBytes b) (hE : decE b = 0) : ∃ N : Nat, lenN b = (N : Int) ∧ N ≤ 1048576 ∧ N + 14 ≤ b.length ∧ frontB b = true ∧ headB b = true ∧ holdsB (b.take (N + 14)) = true := by
  obtain ⟨N, hN, _⟩ := lenN_range hb
  unfold decE at hE
  by_cases hF : frontB b = false
  · rw [if_pos hF] at hE; omega
  rw [if_neg hF] at hE
  by_cases h10 : b.length < 10
  · rw [if_pos h10] at hE; omega
  rw [if_neg h10] at hE
  by_cases hH : headB b = false
  · rw [if_pos hH] at hE; omega
  rw [if_neg hH] at hE
  by_cases hL : 1048576 < lenN b
  · rw [if_pos hL] at hE; omega
  rw [if_neg hL] at hE
  by_cases hS : (b.length : Int) < lenN b + 14
  · rw [if_pos hS] at hE; omega
  rw [if_neg hS] at hE
  by_cases hW : holdsB (b.take (lenN b + 14).toNat) = false
  · rw [if_pos hW] at hE; omega
  rw [hN] at hL hS hW
  rw [show ((N : Int) + 14).toNat = N + 14 by omega] at hW
  exact ⟨N, hN, by omega, by omega, by simpa using hF, by simpa using hH, by simpa using hW⟩
theorem take6_head {b : List Int} (hb : IsBytes b) (h6 : 10 ≤ b.length) (hF : frontB b = true) {N : Nat} (hN : lenN b = N) : b.take 6 = head6 (b.getD 2 0) N := by
  obtain ⟨p3, q3⟩ := bytes_at hb 3
  obtain ⟨p4, q4⟩ := bytes_at hb 4
  obtain ⟨p5, q5⟩ := bytes_at hb 5
  unfold frontB at hF
  rw [decide_eq_false (by omega : ¬ b.length = 0), decide_eq_false (by omega : ¬ b.length < 2)] at hF
  simp only [Bool.false_or, Bool.and_eq_true, beq_iff_eq] at hF
  unfold lenN at hN
  apply List.ext_getElem?
  intro j
  by_cases hj : j < 6
  · rw [List.getElem?_take_of_lt hj]
    have hg : b[j]? = some (b.getD j 0) := by rw [List.getD_eq_getElem?_getD, List.getElem?_eq_getElem (by omega : j < b.length)]; rfl
    rw [hg]
    unfold head6
    match j, hj with
    | 0, _ => exact congrArg some hF.1
    | 1, _ => exact congrArg some hF.2
    | 2, _ => rfl
    | 3, _ => exact congrArg some (show b.getD 3 0 = (N : Int) % 256 by omega)
    | 4, _ => exact congrArg some (show b.getD 4 0 = (N : Int) / 256 % 256 by omega)
    | 5, _ => exact congrArg some (show b.getD 5 0 = (N : Int) / 65536 by omega)
  · rw [List.getElem?_eq_none (by rw [List.length_take]; omega), List.getElem?_eq_none (by show 6 ≤ j; omega)]
/-- what Decode takes is what Encode writes -/
theorem enc_dec {b : List Int} (hb : IsBytes b) (hE : decE b = 0) : 1 ≤ decK b ∧ decK b ≤ 255 ∧ ∃ N : Nat, decN b = (N : Int) + 14 ∧ (decBody b).length = N ∧ N ≤ 1048576 ∧ N + 14 ≤ b.length ∧ encB (decK b) (decBody b) = b.take (N + 14) := by
  obtain ⟨N, hN, hN1, hN2, hF, hH, hW⟩ := dec_ok hb hE
  have h2 := bytes_at hb 2
  have e1 : decN b = (N : Int) + 14 := by unfold decN; rw [if_pos hE, hN]
  have e2 : decK b = b.getD 2 0 := by unfold decK; rw [if_pos hE]
  have e3 : decBody b = (b.drop 10).take N := by unfold decBody; rw [if_pos hE, hN]; rfl
  have e4 : ((b.drop 10).take N).length = N := by rw [List.length_take, List.length_drop]; omega
  unfold headB at hH
  rw [Bool.and_eq_true] at hH
  have hk : b.getD 2 0 ≠ 0 := by simpa using hH.1
  rw [e1, e2, e3]
  refine ⟨by omega, by omega, N, rfl, e4, hN1, hN2, ?_⟩
  have s1 := seal_of_holds (n := 6) (by rw [List.length_take]; omega) hH.2
  rw [List.take_take, show min 6 10 = 6 from rfl, take6_head hb (by omega) hF hN] at s1
  have s2 := seal_of_holds (n := N + 10) (by rw [List.length_take]; omega) hW
  rw [List.take_take, Nat.min_eq_left (by omega)] at s2
  unfold encB
  rw [e4, ← s1, s2]
  congr 1
  rw [List.take_drop, Nat.add_comm 10 N]
  have := List.take_append_drop 10 (b.take (N + 10))
  rw [List.take_take, Nat.min_eq_left (by omega)] at this
  exact this
/-- of a beginning of it Decode takes nothing: it is short -/
theorem dec_short {b : List Int} (hb : IsBytes b) (hE : decE b = 0) {m : Nat} (hm : (m : Int) < decN b) : decE (b.take m) = 40 := by
  obtain ⟨N, hN, hN1, hN2, hF, hH, hW⟩ := dec_ok hb hE
  have e1 : decN b = (N : Int) + 14 := by unfold decN; rw [if_pos hE, hN]
  rw [e1] at hm
  have hl : (b.take m).length = m := by rw [List.length_take]; omega
  have hF2 : frontB (b.take m) = true := by
    unfold frontB at hF ⊢
    rw [decide_eq_false (by omega : ¬ b.length = 0), decide_eq_false (by omega : ¬ b.length < 2)] at hF
    simp only [Bool.false_or, Bool.and_eq_true, beq_iff_eq] at hF
    rw [hl]
    by_cases m0 : m = 0
    · subst m0; simp
    · rw [getD_take' (by omega), hF.1]
      by_cases m1 : m < 2
      · simp [m1]
      · rw [getD_take' (by omega), hF.2]; simp
  unfold decE
  rw [if_neg (by rw [hF2]; simp), hl]
  by_cases h10 : m < 10
  · rw [if_pos h10]
  · have hl2 : lenN (b.take m) = (N : Int) := by
      unfold lenN at hN ⊢
      rw [getD_take' (by omega), getD_take' (by omega), getD_take' (by omega)]
      exact hN
    have hH2 : headB (b.take m) = true := by
      unfold headB at hH ⊢
      rw [getD_take' (by omega), List.take_take, Nat.min_eq_left (by omega)]
      exact hH
    rw [if_neg h10, if_neg (by rw [hH2]; simp), if_neg (by rw [hl2]; omega), if_pos (by rw [hl2]; omega)]
end Go.Proofs.Ytilmmohkdgmhnaa
