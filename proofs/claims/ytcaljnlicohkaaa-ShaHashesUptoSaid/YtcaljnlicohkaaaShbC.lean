/- SHA-256: what was saved is loaded again (pure); a hasher of the bytes L saved and loaded. -/
import Derived.Test.YtcaljnlicohkaaaShbB
import Derived.Test.YtcaljnlicohkaaaShaT
namespace Go.Proofs.Ytcaljnlicohkaaa
open Go.RowKit
set_option maxRecDepth 100000
set_option linter.unusedVariables false
theorem layS_eight (a b c d e f g i : W32) : layS [a, b, c, d, e, f, g, i] 8 = [by0 a, by1 a, by2 a, by3 a, by0 b, by1 b, by2 b, by3 b, by0 c, by1 c, by2 c, by3 c, by0 d, by1 d, by2 d, by3 d, by0 e, by1 e, by2 e, by3 e, by0 f, by1 f, by2 f, by3 f, by0 g, by1 g, by2 g, by3 g, by0 i, by1 i, by2 i, by3 i] := by kernel_rfl
theorem eight_ext {s t : List W32} (h : s.length = 8) (h2 : t.length = 8) (hg : ∀ i, i < 8 → s.getD i 0#32 = t.getD i 0#32) : s = t := by
  refine List.ext_getElem (by omega) fun i h1 h3 => ?_
  have := hg i (by omega)
  rw [List.getD_eq_getElem?_getD, List.getD_eq_getElem?_getD, List.getElem?_eq_getElem h1, List.getElem?_eq_getElem h3] at this
  exact this
theorem ldW_layS {s : List W32} (h : s.length = 8) (r : List Int) : ldW (layS s 8 ++ r) 32 = s := by
  refine eight_ext (ldW_length _ _) h fun i hi => ?_
  rw [ldW_get _ i hi]
  obtain ⟨a, b, c, d, e, f, g, k, rfl⟩ := eight h
  rw [layS_eight]
  have : i = 0 ∨ i = 1 ∨ i = 2 ∨ i = 3 ∨ i = 4 ∨ i = 5 ∨ i = 6 ∨ i = 7 := by omega
  rcases this with rfl | rfl | rfl | rfl | rfl | rfl | rfl | rfl <;> exact beW_by _
theorem load_save {s : List W32} (h : s.length = 8) (rest : List Int) (n : Nat) (hn : n ≤ 1152921504606846976) (hr : rest.length = n % 64) : loadR (saveL s rest n) = some (s, rest, n) := by
  have hD : lebD ((saveL s rest n).drop 2) 10 0 = ((n : Int), ((lebB n).length : Int), 0) := by
    have e : (saveL s rest n).drop 2 = lebB n ++ (layS s 8 ++ rest) := by unfold saveL; simp
    rw [e]
    exact lebD_lebB n (by omega) _
  have hR : ((saveL s rest n).drop 2).drop (lebB n).length = layS s 8 ++ rest := by
    have e : (saveL s rest n).drop 2 = lebB n ++ (layS s 8 ++ rest) := by unfold saveL; simp
    rw [e, List.drop_left]
  have hl : (layS s 8 ++ rest).length = 32 + n % 64 := by rw [List.length_append, layS_length, hr]
  have hy := load_yes (l := saveL s rest n) (q := (n : Int)) (k := ((lebB n).length : Int)) (by
    unfold saveL
    rintro (h1 | h1 | h1)
    · simp at h1; omega
    · exact h1 rfl
    · exact h1 rfl) hD (by
    rw [Int.toNat_natCast, Int.toNat_natCast, hR, hl]
    rintro (h1 | h1)
    · omega
    · exact h1 rfl)
  rw [Int.toNat_natCast, Int.toNat_natCast, hR, ldW_layS h] at hy
  rw [hy, show (layS s 8 ++ rest).drop 32 = rest from by rw [List.drop_append_of_le_length (by rw [layS_length]; exact Nat.le_refl _), List.drop_eq_nil_of_le (by rw [layS_length]; exact Nat.le_refl _), List.nil_append]]
/-- the bytes of a saved hasher of L -/
def savedL (L : List Int) : List Int := saveL (wrS beginL L) (wrR L) (L.length % 18446744073709551616)
theorem savedL_length (L : List Int) : (savedL L).length ≤ 120 := by
  have h1 := lebB_10 (v := L.length % 18446744073709551616) (Nat.mod_lt _ (by decide))
  have h2 := wrR_length L
  unfold savedL saveL
  simp only [List.length_append, layS_length, List.length_cons, List.length_nil]
  omega
theorem HsL.save {w : World} {g : Nat} {L : List Int} (h : HsL w g L) : Calls Try.prog 25 #[.pointer (some ⟨g, 0, none⟩)] w (RetF w (savedL L)) := by
  obtain ⟨v, h⟩ := h
  exact sha_Save_any g _ v _ _ w h (Nat.mod_lt _ (by decide)) (by rw [wrR_length]; omega)
theorem HsL.len {w : World} {g : Nat} {L : List Int} (h : HsL w g L) (hl : L.length < 9223372036854775808) : Calls Try.prog 24 #[.pointer (some ⟨g, 0, none⟩)] w fun e w' => e = .returned (.int .i64 (L.length : Int)) ∧ w = w' := by
  obtain ⟨v, h⟩ := h
  refine (sha_Len_any g _ v _ _ w h).mono ?_
  rintro e w' ⟨rfl, rfl⟩
  refine ⟨?_, rfl⟩
  rw [Nat.mod_eq_of_lt (by omega)]
  have hw : wrap64 (L.length : Int) = (L.length : Int) := by unfold wrap64; omega
  rw [hw]
theorem HsL.load {w : World} {L : List Int} (y : Value) (HR : Rd w y (savedL L)) (hl : L.length ≤ 1152921504606846976) : Calls Try.prog 31 #[y] w fun e w' => ∃ g, e = .returned (.tuple #[.pointer (some ⟨g, 0, none⟩), .int .i64 0]) ∧ HsL w' g L ∧ w.heap.size ≤ g ∧ Below w.heap.size w w' := by
  refine (sha_Load_any y _ w HR (by have := savedL_length L; omega)).mono ?_
  have hls : loadR (savedL L) = some (wrS beginL L, wrR L, L.length % 18446744073709551616) := load_save (blkN_length rfl L _) _ _ (by rw [Nat.mod_eq_of_lt (by omega)]; exact hl) (by rw [wrR_length]; omega)
  rintro e w' (⟨h, _⟩ | ⟨s, rest, n, g, v, h, rfl, hs, hg, _, hb⟩)
  · rw [hls] at h; cases h
  · rw [hls] at h
    injection h with h
    injection h with h1 h2
    injection h2 with h2 h3
    subst h1; subst h2; subst h3
    exact ⟨g, rfl, ⟨v, hs⟩, hg, hb⟩
end Go.Proofs.Ytcaljnlicohkaaa
