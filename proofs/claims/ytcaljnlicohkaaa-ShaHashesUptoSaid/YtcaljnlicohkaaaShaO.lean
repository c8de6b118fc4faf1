/- SHA-256: the digest of nothing. -/
import Derived.Test.YtcaljnlicohkaaaShaN
namespace Go.Proofs.Ytcaljnlicohkaaa
open Go.RowKit
set_option maxRecDepth 100000
set_option linter.unusedVariables false
theorem sum_nil : sumL beginL [] 0 = [227, 176, 196, 66, 152, 252, 28, 20, 154, 251, 244, 200, 153, 111, 185, 36, 39, 174, 65, 228, 100, 155, 147, 76, 164, 149, 153, 27, 120, 82, 184, 85] := by kernel_rfl
set_option maxHeartbeats 1000000 in
theorem sha_Sum_nil (w : World) :
    Calls Try.prog 17 #[.slice none 0 0] w fun e w' => e = .returned (.agg (u8A [227, 176, 196, 66, 152, 252, 28, 20, 154, 251, 244, 200, 153, 111, 185, 36, 39, 174, 65, 228, 100, 155, 147, 76, 164, 149, 153, 27, 120, 82, 184, 85])) ∧ Below w.heap.size w w' := by
  have hb1 := Box.new w (u8A zd32) 24
  have hB1 := al1 (Below.refl w.heap.size w) (.cells (u8A zd32) 24)
  have hs := sum_nil
  have hi8 : (Try.prog.info? 24).map (·.size) = some (u8A (sumL beginL [] 0)).size := by unfold sumL; rw [u8A_size, layS_length]; kernel_rfl
  have hz8 : (u8A zd32).size = (u8A (sumL beginL [] 0)).size := by unfold sumL; rw [u8A_size, u8A_size, layS_length]; rfl
  rw [← hs]
  clear hs
  have h1 := u8A_one (sumL beginL [] 0)
  obtain ⟨S, hS⟩ : ∃ S, S = u8A (sumL beginL [] 0) := ⟨_, rfl⟩
  rw [← hS] at hi8 hz8 h1 ⊢
  have HS := hd_ hS
  clear hS
  go_enter Try.func17, Try.ntmps17
  go_upto_region 1 with fail
  simp only [zd32_lit]
  generalize w.alloc (.cells (u8A zd32) 24) = W0 at *
  go_upto_region 3 with (go_at_call 20; refine (sha_New_any _).mono ?_; rintro e w2 ⟨g, rfl, HH, hg, HB2⟩)
  go_loopw [9] (fun vi wr => vi = .int .i64 0 ∧ w2 = wr) (fun _ _ => 0)
  case atStart => exact ⟨rfl, rfl⟩
  case round =>
    obtain ⟨rfl, rfl⟩ := hrel
    go_wp2_with (first
      | (go_at_call 21; (with_reducible refine (sha_HSum_any g beginL (.slice none 0 0) [] 0 _ HH (by decide) (by decide)).mono ?_); rintro e w3 ⟨rfl, HB3⟩; rw [← HS.out]; have hb3 := (hb1.keep HB2).keep HB3)
      | (refine store_box rfl 24 _ _ rfl w.heap.size 24 _ S rfl rfl hb3 hi8 hz8 h1 ?_; intro w9 hb9 hg9))
    have HF := bel_trans hB1 (bel_trans HB2 HB3)
    refine bodyPost_ret (results_cell1 rfl _ _ _ rfl (run_load_box _ _ _ _ _ hb9 Try.underlying24 rfl hi8)) rfl ⟨rfl, below_row HF hg9 (Nat.le_refl _) HF.size⟩
end Go.Proofs.Ytcaljnlicohkaaa
