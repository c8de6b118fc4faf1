import Derived.Test.YtdmogbkfmeihfaaCrcH
import Derived.Test.YtdmogbkfmeihfaaMem2
namespace Go.Proofs.Ytdmogbkfmeihfaa
open Go.RowKit
set_option maxRecDepth 100000
set_option linter.unusedVariables false
attribute [local go_sem] u32_signed not_I xorOnes_I xor_I
def sealB (l : List Int) : List Int := l ++ B4 (sumW l)
set_option maxHeartbeats 1000000 in
theorem crc_Seal_any (v : Value) (l : List Int) (w : World) (HR : Rd w v l) (hl : l.length ≤ 140737488355320) : Calls Try.prog 48 #[v] w (RetOwn 5 w (sealB l)) := by
  obtain ⟨A, cap, rfl, hn, hm, _, _⟩ := HR.form
  have hbase : w.heap.size ≤ w.heap.size := Nat.le_refl _
  go_enter Try.func48, Try.ntmps48
  go_upto_region 3 with (first
    | (at_make; refine make0_bytes (w0 := w) w.heap.size rfl _ _ 22 5 rfl Try.underlying22 info8 _ _ _ (l.length + 4) rfl rfl (by omega) (by omega) (Below.refl _ _) hbase ?_; intro v1 w1 HO1 HB1 hg1 hat1)
    | (at_builtin; refine app_bytes (w0 := w) w.heap.size rfl _ _ 22 5 rfl Try.underlying22 info8 v1 _ [] l rfl rfl HO1 (HR.keep HB1) HB1 HB1.size (by simp; omega) ?_; intro v2 w2 HO2 HB2 hg2 hat2))
  clear HO1 HB1 hg1 hat1
  have hr2 := crc_Sum_one _ _ w2 (HR.keep HB2) rfl
  rw [List.nil_append] at HO2
  have hlB : l.length + (B4 (sumW l)).length ≤ 140737488355328 := by show l.length + 4 ≤ _; omega
  go_wp2_with (first
    | (go_at_call 79; refine (crc_Sum_any _ _ _ hr2).mono ?_; rintro e w3 ⟨rfl, hb3⟩; have K3 := bel_trans ((Below.refl _ _).alloc (Nat.le_refl _) _) hb3; have H3 := bel_trans HB2 K3; rw [List.flatten_singleton])
    | (go_at_call 78; refine (crc_laid_any _ _).mono ?_; rintro e w' ⟨rfl, rfl⟩)
    | (at_builtin; refine app_box (w0 := w) w.heap.size rfl _ _ 22 5 rfl Try.underlying22 info8 v2 l (B4 (sumW l)) rfl _ 4 4 rfl rfl (Nat.le_refl _) (by omega) (B4_bytes _) (fun j hj => (World.cell?_alloc_at _ _ _ j (by simp)).trans (B4_cell _ j hj)) (HO2.keep (al1 (al1 K3 _) _)) (al1 (al1 H3 _) _) (al1 (al1 H3 _) _).size hlB ?_; intro v5 w5 HO5 HB5 hg5 hat5))
  go_ret
  exact ⟨_, rfl, HO5, HB5⟩
end Go.Proofs.Ytdmogbkfmeihfaa
