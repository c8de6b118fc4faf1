/- The document's hasher: its digest. -/
import Derived.Test.YtcaljnlicohkaaaShaX
import Derived.Test.YtcaljnlicohkaaaShbC
namespace Go.Proofs.Ytcaljnlicohkaaa
open Go.RowKit
set_option maxRecDepth 100000
set_option linter.unusedVariables false
set_option linter.unusedSimpArgs false
theorem u8_num {b : Int} (h0 : 0 ≤ b) (h1 : b < 256) : (((UInt8.ofNat b.toNat).toNat : Nat) : Int) = b := by
  rw [UInt8.toNat_ofNat']
  omega
theorem Copy_any (v : Value) (l : List Int) (w : World) (HR : Rd w v l) : Calls Try.prog 41 #[v] w (RetF w l) := by
  have h1 := HR.str (P := Try.prog) 34 5 9 Try.underlying34 Try.underlying5 Try.underlying9
  have hsz : (strOfNums l).size = l.length := by simp [strOfNums, ByteArray.size]
  have h2 := run_bytes_of_string (P := Try.prog) w 9 34 5 (strOfNums l) Try.underlying9 Try.underlying34 Try.underlying5
  rw [hsz] at h2
  have hge := grownCap_ge w l.length 0 5
  have hle := grownCap_le_maxLen w l.length 0 5 (by obtain ⟨_, cp, _, k1, k2, _⟩ := HR.form; omega)
  generalize grownCap w l.length 0 5 = cap at *
  have hC : (bytesRow (strOfNums l) cap).size = cap := by
    unfold bytesRow
    rw [Array.size_append, Array.size_map, Array.size_replicate]
    show (strOfNums l).size + (cap - (strOfNums l).size) = cap
    rw [hsz]; omega
  rw [hC] at h2
  have hF : OwnF (w.drew.alloc (.cells (bytesRow (strOfNums l) cap) 5 (cap, cap + 1))) w.heap.size (.slice (some ⟨w.heap.size, 0, none⟩) l.length cap) l := by
    have hh := heap_alloc_new w.drew (.cells (bytesRow (strOfNums l) cap) 5 (cap, cap + 1))
    have hhs : w.drew.heap.size = w.heap.size := rfl
    rw [hhs] at hh
    refine ⟨HR.1, _, _, rfl, Nat.le_refl _, by simp, hge, hle, fun j hj => ?_, fun j hj => ?_, fun j hj => ?_⟩
    · obtain ⟨b0, b1⟩ := byte_at HR.1 hj
      unfold World.cell?
      simp only [hh]
      unfold bytesRow
      have hj2 : j < ((strOfNums l).data.map fun b => Value.int .u8 (b.toNat : Int)).size := by rw [Array.size_map]; show j < (strOfNums l).size; omega
      show (Array.map _ (strOfNums l).data ++ _)[j]? = _
      rw [Array.getElem?_append_left hj2, Array.getElem?_map]
      have e : (strOfNums l).data[j]? = some (UInt8.ofNat (l.getD j 0).toNat) := by
        rw [← Array.getElem?_toList, strOfNums_data, List.getElem?_map, List.getElem?_eq_getElem hj, List.getD_eq_getElem?_getD, List.getElem?_eq_getElem hj]
        rfl
      rw [e]
      show some (Value.int .u8 _) = _
      rw [u8_num b0 b1]
    · unfold World.cell?
      simp only [hh]
      show ((bytesRow (strOfNums l) cap)[j]?).isSome = true
      rw [Array.getElem?_eq_getElem (by omega)]
      rfl
    · unfold World.frozen?
      simp only [hh]
      simp
      omega
  have hB : Below w.heap.size w (w.drew.alloc (.cells (bytesRow (strOfNums l) cap) 5 (cap, cap + 1))) := al1 (Below.refl w.heap.size w).drew _
  have HF := hd_ hF
  have HB := hd_ hB
  clear hF hB hC hsz
  generalize strOfNums l = S at *
  go_enter Try.func41, Try.ntmps41
  go_wp2
  go_ret
  exact ⟨_, rfl, HF.out, HB.out⟩
/-- a digest, laid byte by byte -/
def layI (s : List W32) : Nat → List Int
  | 0 => List.replicate 32 0
  | i + 1 => (layI s i).set i (I (s.getD (i / 4) 0#32) / 2 ^ (24 - 8 * (i % 4)) % 256)
theorem layI_length (s : List W32) : ∀ k, (layI s k).length = 32
  | 0 => by simp [layI]
  | k + 1 => by simp only [layI, List.length_set]; exact layI_length s k
theorem by0_m (x : W32) : I x / 2 ^ 24 % 256 = by0 x := by
  have := I_lo x
  have := I_hi x
  unfold by0
  omega
theorem by1_m (x : W32) : I x / 2 ^ 16 % 256 = by1 x := by unfold by1; omega
theorem by2_m (x : W32) : I x / 2 ^ 8 % 256 = by2 x := by unfold by2; omega
theorem by3_m (x : W32) : I x / 2 ^ 0 % 256 = by3 x := by unfold by3; omega
theorem layI_eight (a b c d e f g i : W32) : layI [a, b, c, d, e, f, g, i] 32 = [I a / 2 ^ 24 % 256, I a / 2 ^ 16 % 256, I a / 2 ^ 8 % 256, I a / 2 ^ 0 % 256, I b / 2 ^ 24 % 256, I b / 2 ^ 16 % 256, I b / 2 ^ 8 % 256, I b / 2 ^ 0 % 256, I c / 2 ^ 24 % 256, I c / 2 ^ 16 % 256, I c / 2 ^ 8 % 256, I c / 2 ^ 0 % 256, I d / 2 ^ 24 % 256, I d / 2 ^ 16 % 256, I d / 2 ^ 8 % 256, I d / 2 ^ 0 % 256, I e / 2 ^ 24 % 256, I e / 2 ^ 16 % 256, I e / 2 ^ 8 % 256, I e / 2 ^ 0 % 256, I f / 2 ^ 24 % 256, I f / 2 ^ 16 % 256, I f / 2 ^ 8 % 256, I f / 2 ^ 0 % 256, I g / 2 ^ 24 % 256, I g / 2 ^ 16 % 256, I g / 2 ^ 8 % 256, I g / 2 ^ 0 % 256, I i / 2 ^ 24 % 256, I i / 2 ^ 16 % 256, I i / 2 ^ 8 % 256, I i / 2 ^ 0 % 256] := by kernel_rfl
theorem layI_layS {s : List W32} (h : s.length = 8) : layI s 32 = layS s 8 := by
  obtain ⟨a, b, c, d, e, f, g, k, rfl⟩ := eight h
  rw [layI_eight, layS_eight]
  simp only [by0_m, by1_m, by2_m, by3_m]
theorem padL_mod (rest : List Int) (n : Nat) : padL rest (n % 18446744073709551616) = padL rest n := by
  unfold padL
  congr 2
  rw [Nat.mod_mul_mod]
theorem sumL_mod (s : List W32) (rest : List Int) (n : Nat) : sumL s rest (n % 18446744073709551616) = sumL s rest n := by unfold sumL; rw [padL_mod]
end Go.Proofs.Ytcaljnlicohkaaa
