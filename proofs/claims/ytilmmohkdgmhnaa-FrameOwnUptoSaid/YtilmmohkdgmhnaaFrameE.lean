import Derived.Test.YtilmmohkdgmhnaaFrameD
namespace Go.Proofs.Ytilmmohkdgmhnaa
open Go.RowKit
set_option maxRecDepth 100000
set_option linter.unusedVariables false
def marks : List Int := [211, 212, 213, 214, 215, 216, 217, 218, 219, 220, 221, 222, 223, 224, 225, 226]
theorem marks_bytes : IsBytes marks := by intro b hb; simp [marks] at hb; omega
/-- what was read is a beginning of it -/
theorem Rd.front {w : World} {A : Option Addr} {cap : Nat} {l m : List Int} {n : Nat} (h : Rd w (.slice A n cap) (l ++ m)) (hn : n = (l ++ m).length) : Rd w (.slice A l.length cap) l := by
  subst hn
  obtain ⟨hb, hl, A', cap', hv, h1, h2, h3, h4⟩ := h
  injection hv with e1 _ e2
  subst e1; subst e2
  rw [List.length_append] at h1
  refine ⟨fun b hb' => hb b (List.mem_append_left _ hb'), by rw [nums8_length, Nat.mul_one], _, _, rfl, by omega, h2, h3, fun j hj => ?_⟩
  rw [nums8_length] at hj
  obtain ⟨b, off, ha, hc⟩ := h4 j (by rw [nums8_length, List.length_append]; omega)
  refine ⟨b, off, ha, ?_⟩
  rw [hc, nums8_append, List.getElem?_append_left (by rw [nums8_length]; exact hj)]
theorem roomy_any (v : Value) (l : List Int) (w : World) (HR : Rd w v l) (hl : l.length ≤ 140737488351232) :
    Calls Try.prog 19 #[v] w fun e w' => ∃ g cap, e = .returned (.slice (some ⟨g, 0, none⟩) l.length cap) ∧ Own w' w.heap.size 5 (.slice (some ⟨g, 0, none⟩) (l.length + 16) cap) (l ++ marks) ∧ Below w.heap.size w w' := by
  have hlen := HR.2.len (P := Try.prog) 24 5 3 Try.underlying24
  go_enter Try.func19, Try.ntmps19
  go_upto_region 2 with (first
    | (at_builtin; (refine app_bytes (w0 := w) w.heap.size rfl _ _ 24 5 rfl Try.underlying24 info8 (.slice none 0 0) v [] l rfl rfl (own_nil8 _ _ _) HR (Below.refl _ _) (Nat.le_refl _) (by simp; omega) ?_); intro v1 w1 HO1 HB1 hg1 hat1; rw [List.nil_append] at HO1)
    | (at_builtin; (refine app_bytes (w0 := w) w.heap.size rfl _ _ 24 5 rfl Try.underlying24 info8 v1 _ l marks rfl rfl (HO1.keep (al1 (Below.refl _ _) _)) (rd_new marks rfl rfl marks_bytes (by decide)) (al1 HB1 _) (al1 HB1 _).size (by simp [marks]; omega) ?_); intro v2 w2 HO2 HB2 hg2 hat2))
  obtain ⟨g, cap, rfl, hgb, hle, hcap, _, _⟩ := HO2.slot (by simp [marks])
  have hlm : (l ++ marks).length = l.length + 16 := by rw [List.length_append]; rfl
  rw [hlm] at HO2 hle ⊢
  go_wp2
  go_ret
  exact ⟨g, cap, rfl, HO2, HB2⟩
theorem kept_any (v : Value) (l : List Int) (g cap : Nat) (w : World) (HR : Rd w v l) (HS : Rd w (.slice (some ⟨g, 0, none⟩) (l.length + 16) cap) (l ++ marks)) :
    Calls Try.prog 22 #[.slice (some ⟨g, 0, none⟩) l.length cap, v] w fun e w' => e = .returned (.bool true) ∧ w = w' := by
  have hlm : (l ++ marks).length = l.length + 16 := by rw [List.length_append]; rfl
  have HF := HS.front hlm.symm
  have h1 := HR.str (P := Try.prog) 24 5 9 Try.underlying24 Try.underlying5 Try.underlying9
  have h2 := HF.str (P := Try.prog) 24 5 9 Try.underlying24 Try.underlying5 Try.underlying9
  have h3 : ((strOfNums l).toList != (strOfNums l).toList) = false := bne_self_eq_false _
  obtain ⟨A', cap', he, k1, k2, _, hc⟩ := HS.form
  rw [hlm] at k1 he
  simp at he
  obtain ⟨rfl, rfl⟩ := he
  unfold maxLen at k2
  go_enter Try.func22, Try.ntmps22
  go_wp2
  go_loop [6] (fun vi => ∃ k : Nat, k ≤ 16 ∧ vi = .int .i64 k) (fun i => 16 - (intOf i).toNat)
  case atStart => exact ⟨0, by omega, rfl⟩
  case round =>
    obtain ⟨k, hk, rfl⟩ := hrel
    by_cases hlt : k < 16
    · obtain ⟨b, off, he, hcell⟩ := hc (l.length + k) (by rw [hlm]; omega)
      simp only [Option.some.injEq, Addr.mk.injEq, and_true] at he
      obtain ⟨rfl, rfl⟩ := he
      have hm : (l ++ marks).getD (l.length + k) 0 = 211 + (k : Int) := by
        rw [List.getD_eq_getElem?_getD, List.getElem?_append_right (by omega), Nat.add_sub_cancel_left]
        have : ∀ k : Nat, k < 16 → (marks[k]?).getD 0 = 211 + (k : Int) := by decide
        exact this k hlt
      rw [hm, Nat.zero_add] at hcell
      have hne : ((211 + (k : Int)) != (211 + (k : Int))) = false := bne_self_eq_false _
      clear hc hm
      go_wp2
      go_round
      case rel => exact ⟨k + 1, by omega, by go_num⟩
      case measure => (simp [intOf]; try omega)
    · obtain rfl : k = 16 := by omega
      clear hc
      go_wp2
      go_ret
      exact ⟨rfl, rfl⟩
end Go.Proofs.Ytilmmohkdgmhnaa
