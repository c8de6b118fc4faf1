/- The law ShaKnown. -/
import Derived.Test.YtcaljnlicohkaaaShaU
import Derived.Test.YtcaljnlicohkaaaShaP
import Derived.Test.YtcaljnlicohkaaaLit
import Derived.Lib.SlBytesConst
namespace Go.Proofs.Ytcaljnlicohkaaa
open Go.RowKit
set_option maxRecDepth 100000
set_option linter.unusedVariables false
def abcD : List Int := [186, 120, 22, 191, 143, 1, 207, 234, 65, 65, 64, 222, 93, 174, 34, 35, 176, 3, 97, 163, 150, 23, 122, 156, 180, 16, 255, 97, 242, 0, 21, 173]
theorem dig_abc : digL [97, 98, 99] = abcD := by kernel_rfl
theorem dig_nil : digL [] = [227, 176, 196, 66, 152, 252, 28, 20, 154, 251, 244, 200, 153, 111, 185, 36, 39, 174, 65, 228, 100, 155, 147, 76, 164, 149, 153, 27, 120, 82, 184, 85] := by kernel_rfl
theorem abc_text : strOfNums (hexL abcD) = { data := #[98, 97, 55, 56, 49, 54, 98, 102, 56, 102, 48, 49, 99, 102, 101, 97, 52, 49, 52, 49, 52, 48, 100, 101, 53, 100, 97, 101, 50, 50, 50, 51, 98, 48, 48, 51, 54, 49, 97, 51, 57, 54, 49, 55, 55, 97, 57, 99, 98, 52, 49, 48, 102, 102, 54, 49, 102, 50, 48, 48, 49, 53, 97, 100] } := by kernel_rfl
theorem rdl_nil (W : World) : RdL W (.slice none 0 0) [] := ⟨[], rfl, ⟨rfl, none, 0, rfl, Nat.le_refl _, by decide, fun _ => rfl, fun j hj => absurd hj (by simp)⟩, fun u hu => absurd hu (by simp), fun j hj => absurd hj (by simp)⟩
theorem dig_nil_bytes : IsBytes (digL []) := by rw [dig_nil]; intro b hb; simp at hb; omega
theorem dig_abc_bytes : IsBytes (digL [97, 98, 99]) := by rw [dig_abc]; unfold abcD; intro b hb; simp at hb; omega
theorem nil_text : strOfNums (hexL (digL [])) = { data := #[101, 51, 98, 48, 99, 52, 52, 50, 57, 56, 102, 99, 49, 99, 49, 52, 57, 97, 102, 98, 102, 52, 99, 56, 57, 57, 54, 102, 98, 57, 50, 52, 50, 55, 97, 101, 52, 49, 101, 52, 54, 52, 57, 98, 57, 51, 52, 99, 97, 52, 57, 53, 57, 57, 49, 98, 55, 56, 53, 50, 98, 56, 53, 53] } := by rw [dig_nil]; exact empty_text
theorem abc_text2 : strOfNums (hexL (digL [97, 98, 99])) = { data := #[98, 97, 55, 56, 49, 54, 98, 102, 56, 102, 48, 49, 99, 102, 101, 97, 52, 49, 52, 49, 52, 48, 100, 101, 53, 100, 97, 101, 50, 50, 50, 51, 98, 48, 48, 51, 54, 49, 97, 51, 57, 54, 49, 55, 55, 97, 57, 99, 98, 52, 49, 48, 102, 102, 54, 49, 102, 50, 48, 48, 49, 53, 97, 100] } := by rw [dig_abc]; exact abc_text
theorem sha_Sum_none (w : World) : Calls Try.prog 17 #[.slice none 0 0] w fun e w' => e = .returned (.agg (u8A (digL []))) ∧ Below w.heap.size w w' :=
  sha_Sum_any _ [] w (rdl_nil w) (fun xs h => absurd h (by simp))
theorem Print_nil (w : World) : Calls Try.prog 12 #[.agg (u8A (digL []))] w fun e w' => e = .returned (.string { data := #[101, 51, 98, 48, 99, 52, 52, 50, 57, 56, 102, 99, 49, 99, 49, 52, 57, 97, 102, 98, 102, 52, 99, 56, 57, 57, 54, 102, 98, 57, 50, 52, 50, 55, 97, 101, 52, 49, 101, 52, 54, 52, 57, 98, 57, 51, 52, 99, 97, 52, 57, 53, 57, 57, 49, 98, 55, 56, 53, 50, 98, 56, 53, 53] }) ∧ Below w.heap.size w w' := by
  refine (sha_Print_any (digL []) (digL_length _) dig_nil_bytes w).mono ?_
  rintro e w1 ⟨rfl, hb⟩
  rw [nil_text]
  exact ⟨rfl, hb⟩
theorem Print_abc (w : World) : Calls Try.prog 12 #[.agg (u8A (digL [97, 98, 99]))] w fun e w' => e = .returned (.string { data := #[98, 97, 55, 56, 49, 54, 98, 102, 56, 102, 48, 49, 99, 102, 101, 97, 52, 49, 52, 49, 52, 48, 100, 101, 53, 100, 97, 101, 50, 50, 50, 51, 98, 48, 48, 51, 54, 49, 97, 51, 57, 54, 49, 55, 55, 97, 57, 99, 98, 52, 49, 48, 102, 102, 54, 49, 102, 50, 48, 48, 49, 53, 97, 100] }) ∧ Below w.heap.size w w' := by
  refine (sha_Print_any (digL [97, 98, 99]) (digL_length _) dig_abc_bytes w).mono ?_
  rintro e w1 ⟨rfl, hb⟩
  rw [abc_text2]
  exact ⟨rfl, hb⟩
theorem abc_rdl (w : World) : RdL (((w.alloc (.cells #[.int .u8 97] 5 (1, 2))).alloc (.cells #[.int .u8 98, .int .u8 99] 5 (2, 3))).alloc (.cells #[.slice (some ⟨w.heap.size, 0, none⟩) 1 1, .slice none 0 0, .slice (some ⟨w.heap.size + 1, 0, none⟩) 2 2] 34)) (.slice (some ⟨w.heap.size + 2, 0, none⟩) 3 3) [[97], [], [98, 99]] ∧
    Below w.heap.size w (((w.alloc (.cells #[.int .u8 97] 5 (1, 2))).alloc (.cells #[.int .u8 98, .int .u8 99] 5 (2, 3))).alloc (.cells #[.slice (some ⟨w.heap.size, 0, none⟩) 1 1, .slice none 0 0, .slice (some ⟨w.heap.size + 1, 0, none⟩) 2 2] 34)) := by
  have h1 : Rd (w.alloc (.cells #[.int .u8 97] 5 (1, 2))) (.slice (some ⟨w.heap.size, 0, none⟩) 1 1) [97] := rd_new [97] rfl rfl (by intro b hb; simp at hb; omega) (by decide)
  have h2 : Rd ((w.alloc (.cells #[.int .u8 97] 5 (1, 2))).alloc (.cells #[.int .u8 98, .int .u8 99] 5 (2, 3))) (.slice (some ⟨(w.alloc (.cells #[.int .u8 97] 5 (1, 2))).heap.size, 0, none⟩) 2 2) [98, 99] := rd_new [98, 99] rfl rfl (by intro b hb; simp at hb; omega) (by decide)
  have e1 : (w.alloc (.cells #[.int .u8 97] 5 (1, 2))).heap.size = w.heap.size + 1 := by simp
  rw [e1] at h2
  have h3 := rdl_three (t := 34) (h1.keep (al1 (Below.refl _ _) (.cells #[.int .u8 98, .int .u8 99] 5 (2, 3)))) (own_nil8 _ 0 0).rd h2
  have e2 : ((w.alloc (.cells #[.int .u8 97] 5 (1, 2))).alloc (.cells #[.int .u8 98, .int .u8 99] 5 (2, 3))).heap.size = w.heap.size + 2 := by simp
  rw [e2] at h3
  exact ⟨h3, al1 (al1 (al1 (Below.refl _ _) _) _) _⟩
theorem sha_Sum_abc (w : World) : Calls Try.prog 17 #[.slice (some ⟨w.heap.size + 2, 0, none⟩) 3 3] (((w.alloc (.cells #[.int .u8 97] 5 (1, 2))).alloc (.cells #[.int .u8 98, .int .u8 99] 5 (2, 3))).alloc (.cells #[.slice (some ⟨w.heap.size, 0, none⟩) 1 1, .slice none 0 0, .slice (some ⟨w.heap.size + 1, 0, none⟩) 2 2] 34)) fun e w' => e = .returned (.agg (u8A (digL [97, 98, 99]))) ∧ Below w.heap.size w w' := by
  obtain ⟨h, hb⟩ := abc_rdl w
  refine (sha_Sum_any _ _ _ h (by intro xs hx; simp at hx; rcases hx with rfl | rfl | rfl <;> decide)).mono ?_
  rintro e w1 ⟨rfl, hb1⟩
  exact ⟨rfl, bel_trans hb hb1⟩
set_option maxHeartbeats 1000000 in
theorem law_ShaKnown (w : World) :
    Calls Try.prog 7 #[] w fun e w' => e = .returned (.bool true) ∧ Below w.heap.size w w' := by
  have kc := fun (w : World) (C : Array Value) (n c : Nat) => Lib.run_convert_bytes_const (P := Try.prog) w 34 5 C n c Try.underlying34 Try.underlying5
  have kc2 : ∀ (w : World) (o : Obj) (C : Array Value) (n c : Nat), (convert 34 34 (.slice (some ⟨w.heap.size + 1, 0, none⟩) n c)).run Try.prog ((w.alloc o).alloc (.cells C 5)) = .ok (.slice (some ⟨w.heap.size + 1, 0, none⟩) n c) ((w.alloc o).alloc (.cells C 5 (C.size, C.size + 1))) := fun w o C n c => by
    have := kc (w.alloc o) C n c
    rw [show (w.alloc o).heap.size = w.heap.size + 1 by simp] at this
    exact this
  go_enter Try.func7, Try.ntmps7
  go_wp2_with (first
    | (go_at_call 17; with_reducible refine (sha_Sum_none _).mono ?_; rintro e w1 ⟨rfl, HB1⟩)
    | (go_at_call 17; with_reducible refine (sha_Sum_abc _).mono ?_; rintro e w3 ⟨rfl, HB3⟩)
    | (go_at_call 12; with_reducible refine (Print_abc _).mono ?_; rintro e w4 ⟨rfl, HB4⟩)
    | (go_at_call 20; with_reducible refine (HsL.new _).mono ?_; rintro e w5 ⟨g, rfl, hH, hg, HB5⟩)
    | (go_at_call 21; with_reducible refine (hH.sum).mono ?_; rintro e w6 ⟨rfl, HB6⟩)
    | (go_at_call 12; with_reducible refine (Print_nil _).mono ?_; rintro e w7 ⟨rfl, HB7⟩))
  go_ret
  exact ⟨rfl, bel_trans HB1 (bel_trans (by assumption) (bel_trans HB3 (bel_trans HB4 (bel_trans HB5 (bel_trans HB6 HB7)))))⟩
end Go.Proofs.Ytcaljnlicohkaaa
