import Derived.Test.YtdifppahpihhpaaCrcK
namespace Go.Proofs.Ytdifppahpihhpaa
open Go.RowKit
set_option maxRecDepth 100000
set_option linter.unusedVariables false
attribute [local go_sem] u32_signed not_I xorOnes_I xor_I
/-! ### Turned -/
theorem wf_u8' {n : Int} (h : (Lit.int .u8 n).wf = true) : 0 ≤ n ∧ n ≤ 255 := by have := wf_u8 h; omega
def turnedW (x : W32) (n k m : Int) : W32 := x ^^^ mul (upn 8 (byteW m)) (xpow (8 * (n - 1 - k).toNat))
theorem crc_Turned_arg (x m n k : Int) (h : n < 0) (w : World) : Calls Try.prog 47 #[.int .u32 x, .int .i64 n, .int .i64 k, .int .u8 m] w fun e w' => e = .returned (.tuple #[.int .u32 0, .int .i64 1]) ∧ w = w' := by
  go_enter Try.func47, Try.ntmps47
  go_wp2
  go_ret2
  exact ⟨rfl, rfl⟩
theorem ref_Turned_arg (x m n k : Int) (h : n < 0) (w : World) : Calls Try.prog 48 #[.int .u32 x, .int .i64 n, .int .i64 k, .int .u8 m] w fun e w' => e = .returned (.tuple #[.int .u32 0, .int .i64 1]) ∧ w = w' := by
  go_enter Try.func48, Try.ntmps48
  go_wp2
  go_ret2
  exact ⟨rfl, rfl⟩
theorem crc_Turned_out (x m n k : Int) (h : 0 ≤ n) (hk : k < 0 ∨ n ≤ k) (w : World) : Calls Try.prog 47 #[.int .u32 x, .int .i64 n, .int .i64 k, .int .u8 m] w fun e w' => e = .returned (.tuple #[.int .u32 0, .int .i64 20]) ∧ w = w' := by
  by_cases h1 : k < 0
  · clear hk
    go_enter Try.func47, Try.ntmps47
    go_wp2
    go_ret2
    exact ⟨rfl, rfl⟩
  · have h2 : n ≤ k := by omega
    clear hk
    go_enter Try.func47, Try.ntmps47
    go_wp2
    go_ret2
    exact ⟨rfl, rfl⟩
theorem ref_Turned_out (x m n k : Int) (h : 0 ≤ n) (hk : k < 0 ∨ n ≤ k) (w : World) : Calls Try.prog 48 #[.int .u32 x, .int .i64 n, .int .i64 k, .int .u8 m] w fun e w' => e = .returned (.tuple #[.int .u32 0, .int .i64 20]) ∧ w = w' := by
  by_cases h1 : k < 0
  · clear hk
    go_enter Try.func48, Try.ntmps48
    go_wp2
    go_ret2
    exact ⟨rfl, rfl⟩
  · have h2 : n ≤ k := by omega
    clear hk
    go_enter Try.func48, Try.ntmps48
    go_wp2
    go_ret2
    exact ⟨rfl, rfl⟩
theorem run_one (y : W32) (b : Int) : run y [b] = upn 8 (y ^^^ byteW b) := rfl
theorem b32_byteW (m : Int) : b32 m = byteW m := rfl
theorem byte0 : byteW 0 = 0#32 := by decide
theorem crc_Turned_in (x : W32) (m n k : Int) (m0 : 0 ≤ m) (m1 : m ≤ 255) (h : 0 ≤ n) (hn : n ≤ 9223372036854775807) (h1 : 0 ≤ k) (h2 : k < n) (w : World) :
    Calls Try.prog 47 #[.int .u32 (I x), .int .i64 n, .int .i64 k, .int .u8 m] w fun e w' => e = .returned (.tuple #[.int .u32 (I (turnedW x n k m)), .int .i64 0]) ∧ Below w.heap.size w w' := by
  have hr : Rd (w.alloc (.cells #[.int .u8 0] 5)) (.slice (some ⟨w.heap.size, 0, none⟩) 1 1) [0] := rd_new [0] rfl rfl (by intro b hb; simp at hb; omega) (by decide)
  have hB := hd_ (al1 (Below.refl w.heap.size w) (.cells #[.int .u8 0] 5))
  go_enter Try.func47, Try.ntmps47
  go_wp2_with (first
    | (go_at_call 49; refine (crc_run_any _ (by omega) (by omega) _ _ _ hr).mono ?_; rintro e w1 ⟨rfl, hb1⟩)
    | (go_at_call 55; refine (crc_shift_int _ (by omega) (by omega) _).mono ?_; rintro e w' ⟨rfl, rfl⟩)
    | (go_at_call 24; refine (crc_Mul_any _ _ (I_lo _) (I_hi _) (I_lo _) (I_hi _) _).mono ?_; rintro e w' ⟨rfl, rfl⟩))
  go_ret2
  exact ⟨by simp only [b32_I, run_one, byte0, BitVec.xor_zero]; rfl, bel_trans hB.out hb1⟩
theorem ref_Turned_in (x : W32) (m n k : Int) (m0 : 0 ≤ m) (m1 : m ≤ 255) (h : 0 ≤ n) (hn : n ≤ 9223372036854775807) (h1 : 0 ≤ k) (h2 : k < n) (w : World) :
    Calls Try.prog 48 #[.int .u32 (I x), .int .i64 n, .int .i64 k, .int .u8 m] w fun e w' => e = .returned (.tuple #[.int .u32 (I (turnedW x n k m)), .int .i64 0]) ∧ Below w.heap.size w w' := by
  have hr : Rd (w.alloc (.cells #[.int .u8 m] 5)) (.slice (some ⟨w.heap.size, 0, none⟩) 1 1) [m] := rd_new [m] rfl rfl (by intro b hb; simp at hb; omega) (by decide)
  have hB := hd_ (al1 (Below.refl w.heap.size w) (.cells #[.int .u8 m] 5))
  go_enter Try.func48, Try.ntmps48
  go_wp2_with (first
    | (go_at_call 50; refine (ref_rem_any _ _ _ hr (by simp)).mono ?_; rintro e w' ⟨rfl, rfl⟩)
    | (go_at_call 56; refine (ref_eights_any _ (by omega) (by omega) _).mono ?_; rintro e w' ⟨rfl, rfl⟩)
    | (go_at_call 25; refine (ref_Mul_any _ _ (I_lo _) (I_hi _) (I_lo _) (I_hi _) _).mono ?_; rintro e w' ⟨rfl, rfl⟩))
  go_ret2
  exact ⟨by simp only [b32_I, run_one, BitVec.zero_xor]; rfl, hB.out⟩
theorem law_CrcTails (w : World) (a : Int) (ha : (Lit.int .u32 a).wf = true) (b : Int) (hb : (Lit.int .u32 b).wf = true) :
    Calls Try.prog 8 #[.int .u32 a, .int .u32 b] w fun e w' => e = .returned (.bool true) ∧ Below w.heap.size w w' := by
  obtain ⟨a0, a1⟩ := wf_u32 ha
  obtain ⟨b0, b1⟩ := wf_u32 hb
  obtain ⟨x, rfl⟩ := word_of a0 a1
  obtain ⟨y, rfl⟩ := word_of b0 b1
  clear ha hb a0 a1 b0 b1
  have heq := fun (a0 a1 a2 a3 : Int) (W : World) => (eq4 a0 a1 a2 a3 a0 a1 a2 a3 W).trans (by rw [show eqL [a0, a1, a2, a3] [a0, a1, a2, a3] = true from decide_eq_true rfl] : _ = Result.ok true W)
  have hmt := more_tail x y
  go_enter Try.func8, Try.ntmps8
  go_upto_region 2 with (first | (go_at_call 35; refine (crc_Tail_any _ _ _).mono ?_; rintro e w1 ⟨rfl, hb1⟩))
  have hr : Rd (w1.alloc (.cells #[.int .u8 (I (tailW x y) % 256), .int .u8 (I (tailW x y) / 256 % 256), .int .u8 (I (tailW x y) / 65536 % 256), .int .u8 (I (tailW x y) / 16777216 % 256)] 42)) (.slice (some ⟨w1.heap.size, 0, none⟩) 4 4) (B4 (tailW x y)) := rd_new (B4 (tailW x y)) rfl rfl (B4_bytes _) (by decide)
  have hB := al1 hb1 (.cells #[.int .u8 (I (tailW x y) % 256), .int .u8 (I (tailW x y) / 256 % 256), .int .u8 (I (tailW x y) / 65536 % 256), .int .u8 (I (tailW x y) / 16777216 % 256)] 42)
  have hc : ∀ j, j < 4 → (w1.alloc (.cells #[.int .u8 (I (tailW x y) % 256), .int .u8 (I (tailW x y) / 256 % 256), .int .u8 (I (tailW x y) / 65536 % 256), .int .u8 (I (tailW x y) / 16777216 % 256)] 42)).cell? ⟨w1.heap.size, j, none⟩ = some (.int .u8 ((B4 (tailW x y)).getD j 0)) := fun j hj => (World.cell?_alloc_at _ _ _ j rfl).trans (B4_cell _ j hj)
  have k0 := hc 0 (by omega)
  have k1 := hc 1 (by omega)
  have k2 := hc 2 (by omega)
  have k3 := hc 3 (by omega)
  clear hc
  change _ = some (Value.int .u8 (I (tailW x y) % 256)) at k0
  change _ = some (Value.int .u8 (I (tailW x y) / 256 % 256)) at k1
  change _ = some (Value.int .u8 (I (tailW x y) / 65536 % 256)) at k2
  change _ = some (Value.int .u8 (I (tailW x y) / 16777216 % 256)) at k3
  generalize w1.heap.size = g at *
  generalize (w1.alloc (.cells #[.int .u8 (I (tailW x y) % 256), .int .u8 (I (tailW x y) / 256 % 256), .int .u8 (I (tailW x y) / 65536 % 256), .int .u8 (I (tailW x y) / 16777216 % 256)] 42)) = W0 at *
  have KS : ∀ w', Below W0.heap.size W0 w' → (Below W0.heap.size W0 w' ∧ w'.cell? ⟨g, 0, none⟩ = some (.int .u8 (I (tailW x y) % 256)) ∧ w'.cell? ⟨g, 1, none⟩ = some (.int .u8 (I (tailW x y) / 256 % 256)) ∧ w'.cell? ⟨g, 2, none⟩ = some (.int .u8 (I (tailW x y) / 65536 % 256)) ∧ w'.cell? ⟨g, 3, none⟩ = some (.int .u8 (I (tailW x y) / 16777216 % 256))) :=
    fun w' hw => ⟨hw, cell_keep hw k0, cell_keep hw k1, cell_keep hw k2, cell_keep hw k3⟩
  go_region_held3 (fun w' => Below W0.heap.size W0 w' ∧ w'.cell? ⟨g, 0, none⟩ = some (.int .u8 (I (tailW x y) % 256)) ∧ w'.cell? ⟨g, 1, none⟩ = some (.int .u8 (I (tailW x y) / 256 % 256)) ∧ w'.cell? ⟨g, 2, none⟩ = some (.int .u8 (I (tailW x y) / 65536 % 256)) ∧ w'.cell? ⟨g, 3, none⟩ = some (.int .u8 (I (tailW x y) / 16777216 % 256)))
    (first | exact KS _ (Below.refl _ _).drew | exact KS _ (bel_trans (And.left (by assumption)) (by assumption)))
    (first | (go_at_call 36; refine (ref_Tail_any _ _ _).mono ?_; rintro e w2 ⟨rfl, hb2⟩) | (go_at_call 21; refine (crc_More_any _ (I_lo _) (I_hi _) _ _ _ (hr.keep (And.left (by assumption)))).mono ?_; rintro e w3 ⟨rfl, hb3⟩))
  all_goals
    go_wp2
    go_ret
    exact ⟨by simp only [b32_I, hmt, beq_self_eq_true]; rfl, bel_trans hB (And.left (by assumption))⟩
end Go.Proofs.Ytdifppahpihhpaa
