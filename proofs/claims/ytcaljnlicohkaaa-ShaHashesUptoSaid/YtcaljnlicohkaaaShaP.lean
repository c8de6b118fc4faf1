/- The law ShaNames. -/
import Derived.Test.YtcaljnlicohkaaaShaO
namespace Go.Proofs.Ytcaljnlicohkaaa
open Go.RowKit
set_option maxRecDepth 100000
set_option linter.unusedVariables false
theorem empty_text : strOfNums (hexL [227, 176, 196, 66, 152, 252, 28, 20, 154, 251, 244, 200, 153, 111, 185, 36, 39, 174, 65, 228, 100, 155, 147, 76, 164, 149, 153, 27, 120, 82, 184, 85]) = { data := #[101, 51, 98, 48, 99, 52, 52, 50, 57, 56, 102, 99, 49, 99, 49, 52, 57, 97, 102, 98, 102, 52, 99, 56, 57, 57, 54, 102, 98, 57, 50, 52, 50, 55, 97, 101, 52, 49, 101, 52, 54, 52, 57, 98, 57, 51, 52, 99, 97, 52, 57, 53, 57, 57, 49, 98, 55, 56, 53, 50, 98, 56, 53, 53] } := by kernel_rfl
set_option maxHeartbeats 1000000 in
theorem law_ShaNames (w : World) :
    Calls Try.prog 6 #[] w fun e w' => e = .returned (.bool true) ∧ Below w.heap.size w w' := by
  have hE := hd_ empty_text
  have hl : ([227, 176, 196, 66, 152, 252, 28, 20, 154, 251, 244, 200, 153, 111, 185, 36, 39, 174, 65, 228, 100, 155, 147, 76, 164, 149, 153, 27, 120, 82, 184, 85] : List Int).length = 32 := rfl
  have hb : IsBytes [227, 176, 196, 66, 152, 252, 28, 20, 154, 251, 244, 200, 153, 111, 185, 36, 39, 174, 65, 228, 100, 155, 147, 76, 164, 149, 153, 27, 120, 82, 184, 85] := by intro b hb; simp at hb; omega
  have HLB := hd_ (And.intro hl hb)
  clear hl hb
  go_enter Try.func6, Try.ntmps6
  go_wp2_with (first
    | (go_at_call 17; refine (sha_Sum_nil _).mono ?_; rintro e w1 ⟨rfl, HB1⟩)
    | (go_at_call 12; refine (sha_Print_any [227, 176, 196, 66, 152, 252, 28, 20, 154, 251, 244, 200, 153, 111, 185, 36, 39, 174, 65, 228, 100, 155, 147, 76, 164, 149, 153, 27, 120, 82, 184, 85] HLB.out.1 HLB.out.2 _).mono ?_; rintro e w2 ⟨rfl, HB2⟩; rw [hE.out]))
  go_ret
  exact ⟨rfl, bel_trans HB1 HB2⟩
end Go.Proofs.Ytcaljnlicohkaaa
