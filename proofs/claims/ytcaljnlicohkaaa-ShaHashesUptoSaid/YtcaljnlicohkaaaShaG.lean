/- SHA-256: the two turns, the words as numbers. -/
import Derived.Test.YtcaljnlicohkaaaMem10
import Derived.Test.YtcaljnlicohkaaaCrcD
import Derived.Test.YtcaljnlicohkaaaRegMid
namespace Go.Proofs.Ytcaljnlicohkaaa
open Go.RowKit
set_option maxRecDepth 100000
set_option linter.unusedVariables false
def rot (x : W32) (n : Nat) : W32 := (x >>> n) ||| (x <<< (32 - n))
theorem or_I (x y : W32) : bits .or .u32 (I x) (I y) = I (x ||| y) := by rw [or_i, b32_I, b32_I]
theorem and_I (x y : W32) : bits .and .u32 (I x) (I y) = I (x &&& y) := by rw [and_i, b32_I, b32_I]
theorem shr_I (x : W32) (n : Nat) : I x / (2 : Int) ^ n = I (x >>> n) := by rw [div_i (I_lo _) (I_hi _), b32_I]
theorem shl_I (x : W32) (n : Nat) : I x * (2 : Int) ^ n % 4294967296 = I (x <<< n) := by
  unfold I
  rw [BitVec.toNat_shiftLeft, Nat.shiftLeft_eq, Int.natCast_emod, Int.natCast_mul, Int.natCast_pow]
  rfl
theorem add_I (x y : W32) : (I x + I y) % 4294967296 = I (x + y) := by
  unfold I
  rw [BitVec.toNat_add, Int.natCast_emod, Int.natCast_add]
  rfl
theorem mul_I (x y : W32) : (I x * I y) % 4294967296 = I (x * y) := by
  unfold I
  rw [BitVec.toNat_mul, Int.natCast_emod, Int.natCast_mul]
  rfl
theorem rot_i (x : W32) (n : Nat) : bits .or .u32 (I x / (2 : Int) ^ n) (I x * (2 : Int) ^ (32 - n) % 4294967296) = I (rot x n) := by
  rw [shr_I, shl_I, or_I]; rfl
theorem sha_turn_any (x : W32) (n : Nat) (h0 : n < 32) (w : World) :
    Calls Try.prog 46 #[.int .u32 (I x), .int .i64 (n : Int)] w fun e w' => e = .returned (.int .u32 (I (rot x n))) ∧ ∃ m, w' = w.drewN m := by
  have hr := rot_i x n
  go_enter Try.func46, Try.ntmps46
  go_wp2
  go_quiet (fail)
  go_wp2
  go_ret
  exact ⟨rfl, _, rfl⟩
theorem ref_turn_any (x : W32) (n : Nat) (h0 : n < 32) (w : World) :
    Calls Try.prog 49 #[.int .u32 (I x), .int .i64 (n : Int)] w fun e w' => e = .returned (.int .u32 (I (rot x n))) ∧ ∃ m, w' = w.drewN m := by
  have hr := rot_i x n
  go_enter Try.func49, Try.ntmps49
  go_wp2
  go_quiet (fail)
  go_wp2
  go_ret
  exact ⟨rfl, _, rfl⟩
def beginL : List W32 := [0x6a09e667, 0xbb67ae85, 0x3c6ef372, 0xa54ff53a, 0x510e527f, 0x9b05688c, 0x1f83d9ab, 0x5be0cd19]
def roundsL : List W32 := [0x428a2f98, 0x71374491, 0xb5c0fbcf, 0xe9b5dba5, 0x3956c25b, 0x59f111f1, 0x923f82a4, 0xab1c5ed5, 0xd807aa98, 0x12835b01, 0x243185be, 0x550c7dc3, 0x72be5d74, 0x80deb1fe, 0x9bdc06a7, 0xc19bf174, 0xe49b69c1, 0xefbe4786, 0x0fc19dc6, 0x240ca1cc, 0x2de92c6f, 0x4a7484aa, 0x5cb0a9dc, 0x76f988da, 0x983e5152, 0xa831c66d, 0xb00327c8, 0xbf597fc7, 0xc6e00bf3, 0xd5a79147, 0x06ca6351, 0x14292967, 0x27b70a85, 0x2e1b2138, 0x4d2c6dfc, 0x53380d13, 0x650a7354, 0x766a0abb, 0x81c2c92e, 0x92722c85, 0xa2bfe8a1, 0xa81a664b, 0xc24b8b70, 0xc76c51a3, 0xd192e819, 0xd6990624, 0xf40e3585, 0x106aa070, 0x19a4c116, 0x1e376c08, 0x2748774c, 0x34b0bcb5, 0x391c0cb3, 0x4ed8aa4a, 0x5b9cca4f, 0x682e6ff3, 0x748f82ee, 0x78a5636f, 0x84c87814, 0x8cc70208, 0x90befffa, 0xa4506ceb, 0xbef9a3f7, 0xc67178f2]
/-- words as cells -/
def wv (x : W32) : Value := .int .u32 (I x)
def wA (l : List W32) : Array Value := (l.map wv).toArray
theorem wA_size (l : List W32) : (wA l).size = l.length := by unfold wA; simp
theorem wA_get (l : List W32) (i : Nat) (h : i < l.length) : (wA l)[i]? = some (wv (l.getD i 0#32)) := by
  unfold wA
  rw [List.getElem?_toArray, List.getElem?_map, List.getElem?_eq_getElem h, List.getD_eq_getElem?_getD, List.getElem?_eq_getElem h]; rfl
theorem wA_set (l : List W32) (i : Nat) (x : W32) : (wA l).setIfInBounds i (wv x) = wA (l.set i x) := by
  unfold wA
  rw [List.setIfInBounds_toArray, List.map_set]
theorem wA_one (l : List W32) : (wA l).all (·.oneCell') = true := by
  rw [Array.all_eq_true_iff_forall_mem]
  intro x hx
  unfold wA at hx
  rw [List.mem_toArray, List.mem_map] at hx
  obtain ⟨n, _, rfl⟩ := hx
  rfl
theorem wA_load {W : World} {g : Nat} {t : TypeId} {l : List W32} (h : Box W g t (wA l)) (i : Nat) (hi : i < l.length) : W.cell? ⟨g, i, none⟩ = some (.int .u32 (I (l.getD i 0#32))) := h.cell i (wA_get l i hi)
theorem infoW : (Try.prog.info? 47).map (·.size) = some 8 := by kernel_rfl
theorem infoK : (Try.prog.info? 87).map (·.size) = some 64 := by kernel_rfl
theorem infoW8 : (Try.prog.info? 46).map (·.size) = some 8 := by kernel_rfl
theorem sha_begin_any (w : World) :
    Calls Try.prog 35 #[] w fun e w' => e = .returned (.agg (wA beginL)) ∧ Below w.heap.size w w' := by
  have hb := Box.new w (wA beginL) 47
  have hB := al1 (Below.refl w.heap.size w) (.cells (wA beginL) 47)
  go_enter Try.func35, Try.ntmps35
  go_wp2
  exact bodyPost_ret (results_cell1 rfl _ _ _ rfl (run_load_box _ _ _ _ _ hb Try.underlying47 rfl infoW)) rfl ⟨rfl, hB⟩
theorem ref_begin_any (w : World) :
    Calls Try.prog 39 #[] w fun e w' => e = .returned (.agg (wA beginL)) ∧ Below w.heap.size w w' := by
  have hb := Box.new w (wA beginL) 46
  have hB := al1 (Below.refl w.heap.size w) (.cells (wA beginL) 46)
  go_enter Try.func39, Try.ntmps39
  go_wp2
  exact bodyPost_ret (results_cell1 rfl _ _ _ rfl (run_load_box _ _ _ _ _ hb Try.underlying46 rfl infoW8)) rfl ⟨rfl, hB⟩
end Go.Proofs.Ytcaljnlicohkaaa
