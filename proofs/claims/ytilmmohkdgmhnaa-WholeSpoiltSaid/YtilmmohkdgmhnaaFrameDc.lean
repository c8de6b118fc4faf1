import Derived.Test.YtilmmohkdgmhnaaFrameDb
namespace Go.Proofs.Ytilmmohkdgmhnaa
open Go.RowKit
set_option maxRecDepth 100000
set_option linter.unusedVariables false
theorem look_enc {m k : Int} {body : List Int} (r : List Int) (hb : IsBytes body) (hr : IsBytes r) (hm : mayB m (k, body) = true) : lookN m (encB k body ++ r) = 3 := by
  unfold mayB at hm
  rw [Bool.and_eq_true, decide_eq_true_iff, decide_eq_true_iff] at hm
  obtain ⟨⟨h1, h2, h3⟩, h4⟩ := hm
  simp only at h1 h2 h3 h4
  have hB := enc_bytes hb h1 h2 h3
  obtain ⟨d1, _⟩ := dec_enc k body r h1 h3
  obtain ⟨N, e1, e2, e3, e4, e5, e6⟩ := dec_ok (bytes_append hB hr) d1
  have hN : (N : Int) = (body.length : Int) := by
    rw [← e1, len_app r (by rw [encB_length]; omega), enc_len]
  unfold lookN
  rw [if_neg (by rw [e4]; simp), if_neg (by omega), if_neg (by rw [e5]; simp), e1, if_neg (by omega), if_neg (by omega), if_neg (by rw [show ((N : Int) + 14).toNat = N + 14 by omega, e6]; simp)]
theorem scanA_junk (m : Int) (r : List Int) : ∀ (a : List Int) (fs : List (Int × List Int)) (j lo : Nat), (∀ x ∈ a, x ≠ 72) → scanA m false (a ++ r).length (a ++ r) fs j lo = scanA m false r.length r fs (j + a.length) lo
  | [], fs, j, lo, _ => rfl
  | x :: a, fs, j, lo, h => by
    have hx : x ≠ 72 := h x (by simp)
    have hF : frontB (x :: (a ++ r)) = false := by
      unfold frontB
      rw [decide_eq_false (by simp)]
      have : ((x :: (a ++ r)).getD 0 0 == 72) = false := by simpa using hx
      rw [this]
      rfl
    have hL : lookN m (x :: (a ++ r)) = 0 := by unfold lookN; rw [if_pos hF]
    have ih := scanA_junk m r a fs (j + 1) lo (fun y hy => h y (by simp [hy]))
    rw [List.cons_append, List.length_cons, scanA, if_neg (by simp), hL, if_neg (by decide), if_neg (by decide), if_neg (by simp)]
    rw [show (x :: (a ++ r)).drop 1 = a ++ r from rfl, ih, List.length_cons]
    congr 1
    omega
theorem scanA_frames (m : Int) : ∀ (S acc : List (Int × List Int)) (j lo : Nat), (∀ f ∈ S, mayB m f = true ∧ IsBytes f.2) → IsBytes (laidB S) ∧ scanA m false (laidB S).length (laidB S) acc j lo = (acc ++ S, [], j, lo)
  | [], acc, j, lo, _ => ⟨(by intro x hx; cases hx), (by rw [List.append_nil]; rfl)⟩
  | f :: S, acc, j, lo, h => by
    obtain ⟨k, body⟩ := f
    obtain ⟨hm, hb⟩ := h (k, body) (by simp)
    have e : laidB ((k, body) :: S) = encB k body ++ laidB S := by simp [laidB]
    obtain ⟨ihb, ih⟩ := scanA_frames m S (acc ++ [(k, body)]) j lo (fun y hy => h y (by simp [hy]))
    have hm' := hm
    unfold mayB at hm'
    rw [Bool.and_eq_true, decide_eq_true_iff, decide_eq_true_iff] at hm'
    obtain ⟨⟨h1, h2, h3⟩, h4⟩ := hm'
    have hB := enc_bytes hb h1 h2 h3
    have hL := encB_length k body
    refine ⟨by rw [e]; exact bytes_append hB ihb, ?_⟩
    rw [e]
    have hlen : (encB k body ++ laidB S).length = ((laidB S).length + body.length + 13) + 1 := by rw [List.length_append, hL]; omega
    have g2 : (encB k body ++ laidB S).getD 2 0 = k := by rw [getD_left (by omega), enc_getD _ _ 2 (by omega)]; rfl
    have g10 : ((encB k body ++ laidB S).drop 10).take body.length = body := by
      rw [List.drop_append_of_le_length (by omega), List.take_append_of_le_length (by rw [List.length_drop]; omega)]
      exact enc_body k body
    have gd : (encB k body ++ laidB S).drop (body.length + 14) = laidB S := List.drop_left' (by rw [hL])
    have gl : (lenN (encB k body ++ laidB S)).toNat = body.length := by rw [len_app _ (by omega), enc_len]; rfl
    rw [hlen, scanA, if_neg (by omega), if_pos (look_enc (laidB S) hb ihb hm), gl, g2, g10, gd, scanA_fuel m false _ (laidB S).length _ _ _ _ (by omega) (Nat.le_refl _), ih, List.append_assoc]
    rfl
theorem found_all {m : Int} {a : List Int} {S : List (Int × List Int)} (ha : ∀ x ∈ a, x ≠ 72) (hab : IsBytes a) (hS : ∀ f ∈ S, mayB m f = true ∧ IsBytes f.2) : feedA m [a, laidB S] ([], [], 0, 0) = (S, [], a.length, 0) := by
  obtain ⟨h1, h2⟩ := scanA_frames m S [] (0 + a.length) 0 hS
  rw [feedA_all m [a, laidB S] (by intro p hp; simp only [List.mem_cons, List.not_mem_nil, or_false] at hp; exact hp.elim (fun e => by rw [e]; exact hab) (fun e => by rw [e]; exact h1))]
  rw [show [a, laidB S].flatten = a ++ laidB S by simp, scanA_junk m _ a _ _ _ ha, h2, List.nil_append, Nat.zero_add]
theorem RdF.bytes {w W : World} {lv : Value} {fs : List (Int × List Int)} (h : RdF w W lv fs) : ∀ f ∈ fs, IsBytes f.2 := by
  intro f hf
  obtain ⟨j, hj, rfl⟩ := List.mem_iff_getElem.1 hf
  obtain ⟨vs, ⟨_, h2⟩, _⟩ := h
  obtain ⟨_, u, _, hu⟩ := h2 j hj
  have := hu.1
  rwa [List.getD_eq_getElem?_getD, List.getElem?_eq_getElem hj] at this
theorem rdl_two (va vb : Value) (a b : List Int) (w : World) (HA : Rd w va a) (HB : Rd w vb b) (h1 : va.oneCell' = true) (h2 : vb.oneCell' = true) : RdL (w.alloc (.cells #[va, vb] 24)) (.slice (some ⟨w.heap.size, 0, none⟩) 2 2) [a, b] := by
  have hb : Below w.heap.size w (w.alloc (.cells #[va, vb] 24)) := (Below.refl _ _).alloc (Nat.le_refl _) _
  refine ⟨[va, vb], rfl, ⟨rfl, _, _, rfl, Nat.le_refl _, by decide, (fun h => by cases h), fun j hj => ⟨_, 0, rfl, ?_⟩⟩, ?_, ?_⟩
  · rw [Nat.zero_add, World.cell?_alloc_new]
    simp
  · intro u hu
    simp only [List.mem_cons, List.not_mem_nil, or_false] at hu
    rcases hu with rfl | rfl
    · exact h1
    · exact h2
  · intro j hj
    have hj2 : j = 0 ∨ j = 1 := by simp at hj; omega
    rcases hj2 with rfl | rfl
    · exact HA.keep hb
    · exact HB.keep hb
theorem cnt_bulk : ∀ x : List (Int × List Int × Unit), cntN (x.map fun a => (a.1, a.2.1)) ≤ 5 * (x.map (fun a : Int × List Int × Unit => 1 + (a.2.1.length + 1 + 0) + 1)).sum
  | [] => Nat.le_refl _
  | a :: x => by
    have ih := cnt_bulk x
    simp only [cntN, List.map_cons, List.sum_cons, List.map_map] at ih ⊢
    omega
end Go.Proofs.Ytilmmohkdgmhnaa
