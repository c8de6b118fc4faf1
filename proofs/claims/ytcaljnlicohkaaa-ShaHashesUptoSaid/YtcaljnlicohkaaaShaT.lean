/- SHA-256: pieces (pure). -/
import Derived.Test.YtcaljnlicohkaaaShaS
namespace Go.Proofs.Ytcaljnlicohkaaa
open Go.RowKit
set_option maxRecDepth 100000
set_option linter.unusedVariables false
theorem blk_front (s : List W32) (D M : List Int) (h : 64 ≤ D.length) : blk s (D ++ M) = blk s D := by
  rw [← blk_take s (D ++ M), List.take_append_of_le_length h, blk_take]
theorem blkN_front (s : List W32) (L M : List Int) : ∀ k, 64 * k ≤ L.length → blkN s (L ++ M) k = blkN s L k
  | 0, _ => rfl
  | k + 1, h => by
    rw [blkN, blkN, blkN_front s L M k (by omega), List.drop_append_of_le_length (by omega), blk_front _ _ _ (by rw [List.length_drop]; omega)]
theorem blkN_add (s : List W32) (L : List Int) (j : Nat) : ∀ k, blkN s L (j + k) = blkN (blkN s L j) (L.drop (64 * j)) k
  | 0 => rfl
  | k + 1 => by
    rw [← Nat.add_assoc, blkN, blkN, blkN_add s L j k, List.drop_drop]
    congr 2
    omega
theorem wrR_length (L : List Int) : (wrR L).length = L.length % 64 := by unfold wrR; rw [List.length_drop]; omega
theorem wr_whole (L M : List Int) : L ++ M = L.take (64 * (L.length / 64)) ++ (wrR L ++ M) := by
  unfold wrR
  rw [← List.append_assoc, List.take_append_drop]
theorem wr_count (L M : List Int) : (L ++ M).length / 64 = L.length / 64 + (wrR L ++ M).length / 64 := by
  rw [List.length_append, List.length_append, wrR_length]; omega
theorem drop_whole (L M : List Int) : (L ++ M).drop (64 * (L.length / 64)) = wrR L ++ M := by
  unfold wrR
  rw [List.drop_append_of_le_length (by omega)]
theorem wrS_comp (s : List W32) (L M : List Int) : wrS (wrS s L) (wrR L ++ M) = wrS s (L ++ M) := by
  have h : wrS s (L ++ M) = blkN s (L ++ M) (L.length / 64 + (wrR L ++ M).length / 64) := by rw [← wr_count]; rfl
  rw [h, blkN_add, blkN_front s L M _ (by omega), drop_whole]
  rfl
theorem wrR_comp (L M : List Int) : wrR (wrR L ++ M) = wrR (L ++ M) := by
  have h : wrR (L ++ M) = (L ++ M).drop (64 * (L.length / 64 + (wrR L ++ M).length / 64)) := by rw [← wr_count]; rfl
  rw [h, Nat.mul_add, ← List.drop_drop, drop_whole]
  rfl
theorem wrS_nil (s : List W32) : wrS s [] = s := rfl
theorem wrS_short (s : List W32) (L : List Int) (h : L.length < 64) : wrS s L = s := by unfold wrS; rw [Nat.div_eq_of_lt h]; rfl
theorem wrR_short (L : List Int) (h : L.length < 64) : wrR L = L := by unfold wrR; rw [Nat.div_eq_of_lt h]; rfl
def W64 : Nat := 18446744073709551616
/-- the digest of a list -/
def digL (L : List Int) : List Int := sumL (wrS beginL L) (wrR L) (L.length % 18446744073709551616)
theorem digL_length (L : List Int) : (digL L).length = 32 := by unfold digL sumL; rw [layS_length]
/-- a hasher that has taken the bytes L -/
def HsL (W : World) (g : Nat) (L : List Int) : Prop := ∃ v, Hs W g (wrS beginL L) v (wrR L) (L.length % 18446744073709551616)
theorem HsL.keep {w w1 : World} {g : Nat} {L : List Int} (h : HsL w g L) (hb : Below w.heap.size w w1) : HsL w1 g L := by
  obtain ⟨v, h⟩ := h
  exact ⟨v, h.keep hb⟩
theorem HsL.write {w : World} {g : Nat} {L : List Int} (h : HsL w g L) (y : Value) (B : List Int) (HR : Rd w y B) (hB : B.length ≤ 140737488351232) (hy : B ≠ [] → y.ownBlock ≠ some g) :
    Calls Try.prog 22 #[.pointer (some ⟨g, 0, none⟩), y] w fun e w' => e = .returned (.tuple #[]) ∧ HsL w' g (L ++ B) ∧ Chg (fun k => k = g) w w' := by
  obtain ⟨v, h⟩ := h
  refine (sha_Write_any g _ v _ _ y B w h (Nat.mod_lt _ (by decide)) (by rw [wrR_length]; omega) HR hB hy).mono ?_
  rintro e w' ⟨rfl, v', h', hc, _⟩
  refine ⟨rfl, ⟨v', ?_⟩, hc⟩
  rw [wrS_comp, wrR_comp] at h'
  rw [List.length_append]
  rw [Nat.mod_add_mod] at h'
  exact h'
theorem HsL.sum {w : World} {g : Nat} {L : List Int} (h : HsL w g L) :
    Calls Try.prog 21 #[.pointer (some ⟨g, 0, none⟩)] w fun e w' => e = .returned (.agg (u8A (digL L))) ∧ Below w.heap.size w w' := by
  obtain ⟨v, h⟩ := h
  exact sha_HSum_any g _ v _ _ w h (Nat.mod_lt _ (by decide)) (by rw [wrR_length]; omega)
theorem HsL.new (w : World) :
    Calls Try.prog 20 #[] w fun e w' => ∃ g, e = .returned (.pointer (some ⟨g, 0, none⟩)) ∧ HsL w' g [] ∧ w.heap.size ≤ g ∧ Below w.heap.size w w' := by
  refine (sha_New_any w).mono ?_
  rintro e w' ⟨g, rfl, h, hg, hb⟩
  exact ⟨g, rfl, ⟨_, h⟩, hg, hb⟩
end Go.Proofs.Ytcaljnlicohkaaa
