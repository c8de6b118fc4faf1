import Derived.Test.YtilmmohkdgmhnaaCrcH
import Derived.Test.YtilmmohkdgmhnaaMem2
namespace Go.Proofs.Ytilmmohkdgmhnaa
open Go.RowKit
set_option maxRecDepth 100000
set_option linter.unusedVariables false
attribute [local go_sem] u32_signed not_I xorOnes_I xor_I
def sealB (l : List Int) : List Int := l ++ B4 (sumW l)
set_option maxHeartbeats 1000000 in
theorem ref_Seal_any (v : Value) (l : List Int) (w : World) (HR : Rd w v l) (hl : l.length ≤ 140737488355320) : Calls Try.prog 60 #[v] w (RetOwn 5 w (sealB l)) := by
  obtain ⟨A, cap, rfl, hn, hm, _, _⟩ := HR.form
  have hbase : w.heap.size ≤ w.heap.size := Nat.le_refl _
  go_enter Try.func60, Try.ntmps60
  go_upto_region 4 with (first
    | (at_builtin; refine app_bytes (w0 := w) w.heap.size rfl _ _ 24 5 rfl Try.underlying24 info8 (.slice none 0 0) _ [] l rfl rfl (own_nil8 _ _ _) HR (Below.refl _ _) hbase (by simp; omega) ?_; intro v2 w2 HO2 HB2 hg2 hat2; rw [List.nil_append] at HO2)
    | (go_at_call 63; refine (ref_Sum_any _ _ _ (HR.keep HB2) (by omega)).mono ?_; rintro e w' ⟨rfl, rfl⟩) | (go_at_call 62; refine (ref_Low_any _ _).mono ?_; rintro e w' ⟨rfl, rfl⟩))
  have K2 : Below w2.heap.size w2 ((w2.alloc (.cells #[.int .u8 (I (sumW l) % 256), .int .u8 (I (sumW l) / 256 % 256), .int .u8 (I (sumW l) / 65536 % 256), .int .u8 (I (sumW l) / 16777216 % 256)] 97)).alloc (.cells #[.int .u8 (I (sumW l) % 256), .int .u8 (I (sumW l) / 256 % 256), .int .u8 (I (sumW l) / 65536 % 256), .int .u8 (I (sumW l) / 16777216 % 256)] 97)) := al1 (al1 (Below.refl _ _) _) _
  have htab0 : Hid (∀ k, k < 4 → ((w2.alloc (.cells #[.int .u8 (I (sumW l) % 256), .int .u8 (I (sumW l) / 256 % 256), .int .u8 (I (sumW l) / 65536 % 256), .int .u8 (I (sumW l) / 16777216 % 256)] 97)).alloc (.cells #[.int .u8 (I (sumW l) % 256), .int .u8 (I (sumW l) / 256 % 256), .int .u8 (I (sumW l) / 65536 % 256), .int .u8 (I (sumW l) / 16777216 % 256)] 97)).cell? ⟨w2.heap.size + 1, k, none⟩ = some (.int .u8 ((B4 (sumW l)).getD k 0))) :=
    fun k hk => (World.cell?_alloc_at _ _ _ k (by simp)).trans (B4_cell _ k hk)
  have hlt0 := HO2.2.lt
  have hO0 := HO2.keep K2
  have hs0 := hd_ (show w2.heap.size + 1 < ((w2.alloc (.cells #[.int .u8 (I (sumW l) % 256), .int .u8 (I (sumW l) / 256 % 256), .int .u8 (I (sumW l) / 65536 % 256), .int .u8 (I (sumW l) / 16777216 % 256)] 97)).alloc (.cells #[.int .u8 (I (sumW l) % 256), .int .u8 (I (sumW l) / 256 % 256), .int .u8 (I (sumW l) / 65536 % 256), .int .u8 (I (sumW l) / 16777216 % 256)] 97)).heap.size from by simp)
  have hne0 : v2.ownBlock ≠ some (w2.heap.size + 1) := fun h => by have := (hlt0 _ h).2; omega
  have HB0 := bel_trans HB2 K2
  clear hlt0 K2 HO2 HB2 hg2 hat2
  generalize w2.heap.size + 1 = g at *
  generalize ((w2.alloc (.cells #[.int .u8 (I (sumW l) % 256), .int .u8 (I (sumW l) / 256 % 256), .int .u8 (I (sumW l) / 65536 % 256), .int .u8 (I (sumW l) / 16777216 % 256)] 97)).alloc (.cells #[.int .u8 (I (sumW l) % 256), .int .u8 (I (sumW l) / 256 % 256), .int .u8 (I (sumW l) / 65536 % 256), .int .u8 (I (sumW l) / 16777216 % 256)] 97)) = W0 at *
  go_wp2
  go_loopw [3, 5] (fun vo vi wr => ∃ k : Nat, k ≤ 4 ∧ vi = .int .i64 k ∧ Own wr w.heap.size 5 vo (l ++ (B4 (sumW l)).take k) ∧ Below w.heap.size w wr ∧ Hid (∀ k, k < 4 → wr.cell? ⟨g, k, none⟩ = some (.int .u8 ((B4 (sumW l)).getD k 0))) ∧ Hid (vo.ownBlock ≠ some g) ∧ Hid (g < wr.heap.size)) (fun _ i _ => 4 - (intOf i).toNat)
  case atStart => exact ⟨0, Nat.zero_le _, rfl, by rw [List.take_zero, List.append_nil]; exact hO0, HB0, htab0, hne0, hs0⟩
  case round =>
    clear hO0 HB0 htab0 hne0 hs0
    obtain ⟨k, hk, rfl, HO, hbel, htab, hne, hgs⟩ := hrel
    by_cases hlt : k < 4
    · have hcell := htab.out k hlt
      have hbyte := byte_at (B4_bytes (sumW l)) (show k < (B4 (sumW l)).length from hlt)
      have hE := hd_ (show (B4 (sumW l)).take (k + 1) = (B4 (sumW l)).take k ++ [(B4 (sumW l)).getD k 0] from by
        rw [List.take_add_one, List.getD_eq_getElem?_getD, List.getElem?_eq_getElem (show k < (B4 (sumW l)).length from hlt)]; rfl)
      have hlen : (l ++ (B4 (sumW l)).take k).length + 1 ≤ 140737488355328 := by rw [List.length_append, List.length_take]; omega
      generalize hc : (B4 (sumW l)).getD k 0 = c at hcell hbyte hE
      clear hc
      have hB1 := al1 (Below.refl wr.heap.size wr) (.cells #[.int .u8 c] 5)
      have hB2 := bel_trans hbel hB1
      have hR1 : Rd (wr.alloc (.cells #[.int .u8 c] 5)) (.slice (some ⟨wr.heap.size, 0, none⟩) 1 1) [c] := rd_new [c] rfl rfl (fun b hb => by simp at hb; subst hb; exact hbyte) (by decide)
      have hO1 := HO.keep hB1
      have HH := hd_ hB1
      clear hB1
      go_wp2_with (at_builtin; refine app_bytes (w0 := w) w.heap.size rfl _ _ 24 5 rfl Try.underlying24 info8 _ _ _ [c] rfl rfl hO1 hR1 hB2 hB2.size hlen ?_; intro v5 w5 HO5 HB5 hg5 hat5)
      go_roundw
      case rel =>
        refine ⟨k + 1, by omega, by go_num, by rw [hE.out, ← List.append_assoc]; exact HO5, HB5, fun j hj => ?_, fun h => ?_, ?_⟩
        · exact hg5.cell (cell_keep HH.out (htab.out j hj)) (fun h => hne.out h.symm)
        · rcases hat5 with h1 | h1
          · rw [h1] at h; exact hne.out h
          · rw [h1] at h
            have := hgs.out
            simp at h
            omega
        · have h1 := hgs.out
          have h2 := hg5.size
          have h3 := HH.out.size
          exact Nat.lt_of_lt_of_le h1 (Nat.le_trans h3 h2)
      case measure => (simp [intOf]; try omega)
    · obtain rfl : k = 4 := by omega
      clear htab
      go_wp2
      go_ret
      exact ⟨_, rfl, HO, hbel⟩
end Go.Proofs.Ytilmmohkdgmhnaa
