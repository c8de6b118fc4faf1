/- What a reader takes up, a writer lays down as the same bytes (pure); a writer and a reader side by side. -/
import Derived.Test.YtlaeiipiboabaaaMaR
import Derived.Test.YtlaeiipiboabaaaPrX
import Derived.Test.YtlaeiipiboabaaaLend
namespace Go.Proofs.Ytlaeiipiboabaaa
open Go.RowKit
set_option maxRecDepth 100000
set_option linter.unusedVariables false
theorem byL_strM {l : List Int} (h : IsBytes l) : byL (strOfNums l) = l := by
  unfold byL strOfNums
  simp only [List.map_map]
  conv => rhs; rw [← List.map_id l]
  apply List.map_congr_left
  intro b hb
  have := h b hb
  simp
  omega
/-- behind a reader's call: never back, and on only without an error -/
def AgOk (B : List Int) (a : Nat) (err : Int) (R : Nat × Int) : Prop := a ≤ R.1 ∧ R.1 ≤ B.length ∧ (R.2 ≠ 0 → R.1 = a) ∧ (R.2 = 0 → err = 0)
theorem take_on (B : List Int) (a k : Nat) (x : List Int) (h : (B.drop a).take k = x) : B.take a ++ x = B.take (a + k) := by rw [← h, List.take_add]
theorem ag_uint (B : List Int) (hB : IsBytes B) (a : Nat) (ha : a ≤ B.length) (err : Int) : AgOk B a err (rUint B a err).2 ∧ ((rUint B a err).2.2 = 0 → ∃ u : Nat, (rUint B a err).1 = (u : Int) ∧ u < 18446744073709551616 ∧ wUint (0, B.take a) u = (0, B.take (rUint B a err).2.1)) := by
  unfold rUint
  by_cases h0 : err = 0
  · rw [if_neg (by simpa using h0)]
    rcases numA_cases B hB a ha with ⟨E, hE, _, e⟩ | ⟨u, k, _, e, h1, h2, _, h3, h4⟩
    · rw [e, if_pos (by simp only; omega)]
      refine ⟨⟨Nat.le_refl _, ha, fun _ => rfl, fun h => h0⟩, fun h => ?_⟩
      simp only at h; omega
    · rw [e, if_neg (by simp)]
      refine ⟨⟨by simp only; omega, h1, fun h => absurd rfl h, fun _ => h0⟩, fun _ => ⟨u, rfl, h4, ?_⟩⟩
      unfold wUint wLay
      rw [if_pos rfl, Int.toNat_natCast, take_on B a k _ h3]
  · rw [if_pos h0]
    exact ⟨⟨Nat.le_refl _, ha, fun _ => rfl, fun h => h⟩, fun h => absurd h h0⟩
theorem ag_text (B : List Int) (hB : IsBytes B) (a : Nat) (ha : a ≤ B.length) (err most : Int) (hm : most < 9223372036854775808) : AgOk B a err (rText B a err most).2 ∧ ((rText B a err most).2.2 = 0 → IsBytes (rText B a err most).1 ∧ (rText B a err most).1.length + a ≤ B.length ∧ wText (0, B.take a) (rText B a err most).1 most = (0, B.take (rText B a err most).2.1)) := by
  unfold rText
  by_cases h0 : err = 0
  · rw [if_neg (by simpa using h0)]
    rcases textA_cases B hB a ha most hm with ⟨E, hE, e⟩ | ⟨n, k, _, e, h1, h2, h3, h4, h5, h6⟩
    · rw [e, if_pos (by simp only; omega)]
      refine ⟨⟨Nat.le_refl _, ha, fun _ => rfl, fun h => h0⟩, fun h => ?_⟩
      simp only at h; omega
    · rw [e, if_neg (by simp)]
      have hlen : ((B.drop (a + k)).take n).length = n := by rw [List.length_take, List.length_drop]; omega
      refine ⟨⟨by simp only; omega, h1, fun h => absurd rfl h, fun _ => h0⟩, fun _ => ⟨bytes_take (bytes_drop hB _) _, by simp only [hlen]; omega, ?_⟩⟩
      simp only
      unfold wText
      rw [if_neg (by simp), if_neg (by omega), if_neg (by rw [hlen]; omega), hlen]
      simp only
      rw [← List.append_assoc, take_on B a k _ h3, take_on B (a + k) n _ rfl]
  · rw [if_pos h0]
    exact ⟨⟨Nat.le_refl _, ha, fun _ => rfl, fun h => h⟩, fun h => absurd h h0⟩
theorem ag_flag (B : List Int) (hB : IsBytes B) (a : Nat) (ha : a ≤ B.length) (err : Int) : AgOk B a err (rFlag B a err).2 ∧ ((rFlag B a err).2.2 = 0 → wFlag (0, B.take a) (rFlag B a err).1 = (0, B.take (rFlag B a err).2.1)) := by
  unfold rFlag
  by_cases h0 : err = 0
  · rw [if_neg (by simpa using h0)]
    by_cases h1 : B.length ≤ a
    · rw [if_pos h1]
      exact ⟨⟨Nat.le_refl _, ha, fun _ => rfl, fun h => h0⟩, fun h => absurd h (by simp)⟩
    rw [if_neg h1]
    by_cases h2 : 1 < B.getD a 0
    · rw [if_pos h2]
      exact ⟨⟨Nat.le_refl _, ha, fun _ => rfl, fun h => h0⟩, fun h => absurd h (by simp)⟩
    rw [if_neg h2]
    refine ⟨⟨by simp only; omega, by simp only; omega, fun h => absurd rfl h, fun _ => h0⟩, fun _ => ?_⟩
    simp only
    have hlt : a < B.length := by omega
    have hb := hB _ (List.getElem_mem hlt)
    have hg : B.getD a 0 = B[a] := by rw [List.getD_eq_getElem?_getD, List.getElem?_eq_getElem hlt]; rfl
    rw [hg] at h2 ⊢
    have e1 : (B.drop a).take 1 = [B[a]] := by rw [List.drop_eq_getElem_cons hlt]; rfl
    unfold wFlag wLay
    rw [if_pos rfl]
    rw [← take_on B a 1 _ e1]
    have : (if decide (B[a] = 1) = true then (1 : Int) else 0) = B[a] := by
      by_cases h : B[a] = 1
      · simp [h]
      · rw [if_neg (by simpa using h)]; omega
    rw [this]
  · rw [if_pos h0]
    exact ⟨⟨Nat.le_refl _, ha, fun _ => rfl, fun h => h⟩, fun h => absurd h h0⟩
theorem ag_row (B : List Int) (hB : IsBytes B) (a : Nat) (ha : a ≤ B.length) (err : Int) : AgOk B a err (rRow B a err).2 ∧ ((rRow B a err).2.2 = 0 → ∃ m : Nat, (rRow B a err).1.2.2 = (m : Int) ∧ 1 ≤ m ∧ m ≤ 1152921504606846976 ∧ (rRow B a err).1.1 ≠ [] ∧ (rRow B a err).1.1.length ≤ 1024 ∧ (rRow B a err).1.2.1.length ≤ 65536 ∧
    IsBytes (rRow B a err).1.1 ∧ IsBytes (rRow B a err).1.2.1 ∧ a + (rRow B a err).1.1.length + (rRow B a err).1.2.1.length ≤ B.length ∧
    B.take a ++ (lebB (rRow B a err).1.1.length ++ (rRow B a err).1.1) ++ (lebB (rRow B a err).1.2.1.length ++ (rRow B a err).1.2.1) ++ lebB m = B.take (rRow B a err).2.1) := by
  unfold rRow
  by_cases h0 : err = 0
  · rw [if_neg (by simpa using h0)]
    unfold rowA
    rcases textA_cases B hB a ha 1024 (by decide) with ⟨E, hE, e⟩ | ⟨n, k, _, e, h1, h2, h3, h4, h5, h6⟩
    · rw [if_pos (by rw [e]; simp only; omega), e]
      refine ⟨⟨Nat.le_refl _, ha, fun _ => rfl, fun h => h0⟩, fun h => ?_⟩
      simp only at h; omega
    rw [e, if_neg (by simp)]
    simp only
    rcases textA_cases B hB (a + k + n) h1 65536 (by decide) with ⟨E, hE, e2⟩ | ⟨n2, k2, _, e2, i1, i2, i3, i4, i5, i6⟩
    · rw [if_pos (by rw [e2]; simp only; omega), e2]
      refine ⟨⟨Nat.le_refl _, ha, fun _ => rfl, fun h => h0⟩, fun h => ?_⟩
      simp only at h; omega
    rw [e2, if_neg (by simp)]
    simp only
    rcases uptoA_cases B hB (a + k + n + k2 + n2) i1 1152921504606846976 (by decide) with ⟨E, hE, e3⟩ | ⟨m, k3, e3, j1, j2, j3, j4, j5, j6⟩
    · rw [if_pos (by rw [e3]; simp only; omega), e3]
      refine ⟨⟨Nat.le_refl _, ha, fun _ => rfl, fun h => h0⟩, fun h => ?_⟩
      simp only at h; omega
    rw [e3, if_neg (by simp)]
    simp only
    have hlen : ((B.drop (a + k)).take n).length = n := by rw [List.length_take, List.length_drop]; omega
    have hlen2 : ((B.drop (a + k + n + k2)).take n2).length = n2 := by rw [List.length_take, List.length_drop]; omega
    by_cases hz : (B.drop (a + k)).take n = [] ∨ (m : Int) = 0
    · rw [if_pos hz]
      exact ⟨⟨Nat.le_refl _, ha, fun _ => rfl, fun h => h0⟩, fun h => absurd h (by simp)⟩
    rw [if_neg hz]
    refine ⟨⟨by simp only; omega, j1, fun h => absurd rfl h, fun _ => h0⟩, fun _ => ⟨m, rfl, ?_, by omega, fun h => hz (.inl h), by rw [hlen]; omega, by rw [hlen2]; omega, bytes_take (bytes_drop hB _) _, bytes_take (bytes_drop hB _) _, by rw [hlen, hlen2]; omega, ?_⟩⟩
    · have : ¬ (m : Int) = 0 := fun h => hz (.inr h)
      omega
    · rw [hlen, hlen2]
      simp only [← List.append_assoc]
      rw [take_on B a k _ h3, take_on B (a + k) n _ rfl, take_on B (a + k + n) k2 _ i3, take_on B (a + k + n + k2) n2 _ rfl, take_on B (a + k + n + k2 + n2) k3 _ j3]
  · rw [if_pos h0]
    exact ⟨⟨Nat.le_refl _, ha, fun _ => rfl, fun h => h⟩, fun h => absurd h h0⟩
end Go.Proofs.Ytlaeiipiboabaaa
