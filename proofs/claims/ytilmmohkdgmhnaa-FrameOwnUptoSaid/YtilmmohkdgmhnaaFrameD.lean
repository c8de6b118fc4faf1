import Derived.Test.YtilmmohkdgmhnaaFrameC
import Derived.Test.YtilmmohkdgmhnaaOpen2
namespace Go.Proofs.Ytilmmohkdgmhnaa
open Go.RowKit
set_option maxRecDepth 100000
set_option linter.unusedVariables false
theorem frame_num_any (a : Int) (w : World) : Calls Try.prog 17 #[.int .i64 a] w fun e w' => e = .returned (.int .i64 a) ∧ w = w' := by
  go_enter Try.func17, Try.ntmps17
  go_wp2
  go_ret
  exact ⟨rfl, rfl⟩
theorem sealB_length (l : List Int) : (sealB l).length = l.length + 4 := by unfold sealB; rw [List.length_append]; rfl
theorem encB_length (k : Int) (body : List Int) : (encB k body).length = body.length + 14 := by
  unfold encB
  rw [sealB_length, List.length_append, sealB_length]
  show 6 + 4 + body.length + 4 = _
  omega
theorem encB_take (k : Int) (body : List Int) : (encB k body).take 6 = head6 k body.length := by
  unfold encB sealB
  rw [List.append_assoc, List.append_assoc]
  exact List.take_left' rfl
theorem law_FrameNames (w : World) :
    Calls Try.prog 3 #[] w fun e w' => e = .returned (.bool true) ∧ Below w.heap.size w w' := by
  have hnil : Rd w (.slice none 0 0) [] := (own_nil8 w 0 0).rd
  go_enter Try.func3, Try.ntmps3
  go_upto_region 3 with (first
    | (go_at_call 17; refine (frame_num_any _ _).mono ?_; rintro e w' ⟨rfl, rfl⟩)
    | (go_at_call 18; refine (frame_Encode_ok 1 (.slice none 0 0) [] _ hnil (by decide) (by decide) (by decide)).mono ?_; rintro e w1 ⟨v1, rfl, HO1, HB1⟩))
  have hlen := HO1.rd.2.len (P := Try.prog) 24 5 3 Try.underlying24
  rw [encB_length] at hlen
  obtain ⟨u1, hs1, hR1⟩ := HO1.rd.sl_h Try.underlying24 info8 6 (by rw [encB_length]; decide)
  rw [encB_take] at hR1
  have hs1 : ∀ (W : World), Sem.run Try.prog (Instr.slice 24 v1 none (some (Value.int IntKind.i64 6)) none) W = Result.ok u1 W := hs1
  have hst := hR1.str (P := Try.prog) 24 5 9 Try.underlying24 Try.underlying5 Try.underlying9
  have hc : strOfNums (head6 1 0) = ⟨#[72, 87, 1, 0, 0, 0]⟩ := by decide
  have hst : Sem.run Try.prog (convert 24 9 u1) w1 = Result.ok (Value.string ⟨#[72, 87, 1, 0, 0, 0]⟩) w1 := by rw [← hc]; exact hst
  have hq : ((strOfNums (head6 1 0)).toList == ([72, 87, 1, 0, 0, 0] : List UInt8)) = true := by
    rw [ByteArray.toList_eq]
    decide
  clear hR1 HO1 hc
  go_wp2
  go_ret
  exact ⟨rfl, HB1⟩
end Go.Proofs.Ytilmmohkdgmhnaa
