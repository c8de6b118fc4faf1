/- SHA-256: hashers that no call made; the law ShaMade. -/
import Derived.Test.YtcaljnlicohkaaaShaP
namespace Go.Proofs.Ytcaljnlicohkaaa
open Go.RowKit
set_option maxRecDepth 100000
set_option linter.unusedVariables false
/-- a hasher of no call -/
def hz : Array Value := #[.int .u32 0, .int .u32 0, .int .u32 0, .int .u32 0, .int .u32 0, .int .u32 0, .int .u32 0, .int .u32 0, .slice none 0 0, .int .u64 0, .bool false]
theorem infoDz : (Try.prog.info? 24).map (·.size) = some (u8A zd32).size := by rw [u8A_size]; kernel_rfl
theorem sha_Write_nil (v : Value) (w : World) : Calls Try.prog 22 #[.pointer none, v] w fun e w' => e = .returned (.tuple #[]) ∧ w = w' := by
  go_enter Try.func22, Try.ntmps22
  go_wp2
  exact bodyPost_ret (results_none rfl _ _ _) rfl ⟨rfl, rfl⟩
theorem sha_Write_z (g : Nat) (v : Value) (w : World) (h : Box w g 50 hz) : Calls Try.prog 22 #[.pointer (some ⟨g, 0, none⟩), v] w fun e w' => e = .returned (.tuple #[]) ∧ w = w' := by
  have q10 : w.cell? ⟨g, 10, none⟩ = some (.bool false) := h.cell 10 rfl
  go_enter Try.func22, Try.ntmps22
  go_wp2
  exact bodyPost_ret (results_none rfl _ _ _) rfl ⟨rfl, rfl⟩
theorem sha_Reset_nil (w : World) : Calls Try.prog 23 #[.pointer none] w fun e w' => e = .returned (.tuple #[]) ∧ w = w' := by
  go_enter Try.func23, Try.ntmps23
  go_wp2
  go_end0
  exact ⟨rfl, rfl⟩
theorem sha_Reset_z (g : Nat) (w : World) (h : Box w g 50 hz) : Calls Try.prog 23 #[.pointer (some ⟨g, 0, none⟩)] w fun e w' => e = .returned (.tuple #[]) ∧ w = w' := by
  have q10 : w.cell? ⟨g, 10, none⟩ = some (.bool false) := h.cell 10 rfl
  go_enter Try.func23, Try.ntmps23
  go_wp2
  go_end0
  exact ⟨rfl, rfl⟩
theorem sha_Len_nil (w : World) : Calls Try.prog 24 #[.pointer none] w fun e w' => e = .returned (.int .i64 0) ∧ w = w' := by
  go_enter Try.func24, Try.ntmps24
  go_wp2
  go_ret
  exact ⟨rfl, rfl⟩
theorem sha_Len_z (g : Nat) (w : World) (h : Box w g 50 hz) : Calls Try.prog 24 #[.pointer (some ⟨g, 0, none⟩)] w fun e w' => e = .returned (.int .i64 0) ∧ w = w' := by
  have q9 : w.cell? ⟨g, 9, none⟩ = some (.int .u64 0) := h.cell 9 rfl
  go_enter Try.func24, Try.ntmps24
  go_wp2
  go_ret
  exact ⟨rfl, rfl⟩
theorem sha_Save_nil (w : World) : Calls Try.prog 25 #[.pointer none] w fun e w' => e = .returned (.slice none 0 0) ∧ w = w' := by
  go_enter Try.func25, Try.ntmps25
  go_wp2
  go_ret
  exact ⟨rfl, rfl⟩
theorem sha_Save_z (g : Nat) (w : World) (h : Box w g 50 hz) : Calls Try.prog 25 #[.pointer (some ⟨g, 0, none⟩)] w fun e w' => e = .returned (.slice none 0 0) ∧ w = w' := by
  have q10 : w.cell? ⟨g, 10, none⟩ = some (.bool false) := h.cell 10 rfl
  go_enter Try.func25, Try.ntmps25
  go_wp2
  go_ret
  exact ⟨rfl, rfl⟩
theorem sha_HSum_nil (w : World) : Calls Try.prog 21 #[.pointer none] w fun e w' => e = .returned (.agg (u8A zd32)) ∧ Below w.heap.size w w' := by
  have hb1 := Box.new w (u8A zd32) 24
  have hB1 := al1 (Below.refl w.heap.size w) (.cells (u8A zd32) 24)
  have hi := infoDz
  go_enter Try.func21, Try.ntmps21
  go_upto_region 1 with fail
  simp only [zd32_lit]
  have hE := zd32_lit
  have h1 := u8A_one zd32
  generalize hZE : u8A zd32 = Z at *
  generalize w.alloc (.cells Z 24) = W0 at *
  go_wp2_with (refine store_box rfl 24 _ _ rfl w.heap.size 24 Z Z rfl (by rw [← hE]; rfl) hb1 hi rfl h1 ?_; intro w9 hb9 hg9)
  exact bodyPost_ret (results_cell1 rfl _ _ _ rfl (run_load_box _ _ _ _ _ hb9 Try.underlying24 rfl hi)) rfl ⟨by rw [hZE], below_row hB1 hg9 (Nat.le_refl _) hB1.size⟩
theorem sha_HSum_z (g : Nat) (w : World) (h : Box w g 50 hz) : Calls Try.prog 21 #[.pointer (some ⟨g, 0, none⟩)] w fun e w' => e = .returned (.agg (u8A zd32)) ∧ Below w.heap.size w w' := by
  have hb1 := Box.new w (u8A zd32) 24
  have hB1 := al1 (Below.refl w.heap.size w) (.cells (u8A zd32) 24)
  have hi := infoDz
  have q10 : (w.alloc (.cells (u8A zd32) 24)).cell? ⟨g, 10, none⟩ = some (.bool false) := (h.keep hB1).cell 10 rfl
  clear h
  go_enter Try.func21, Try.ntmps21
  go_upto_region 1 with fail
  simp only [zd32_lit]
  have hE := zd32_lit
  have h1 := u8A_one zd32
  generalize hZE : u8A zd32 = Z at *
  generalize w.alloc (.cells Z 24) = W0 at *
  go_wp2_with (refine store_box rfl 24 _ _ rfl w.heap.size 24 Z Z rfl (by rw [← hE]; rfl) hb1 hi rfl h1 ?_; intro w9 hb9 hg9)
  exact bodyPost_ret (results_cell1 rfl _ _ _ rfl (run_load_box _ _ _ _ _ hb9 Try.underlying24 rfl hi)) rfl ⟨by rw [hZE], below_row hB1 hg9 (Nat.le_refl _) hB1.size⟩
theorem eqDg (a b : List Int) (ha : a.length = 32) (hb : b.length = 32) (W : World) : Sem.run Try.prog (Op.equalIn 10000 24 (.agg (u8A a)) (.agg (u8A b))) W = .ok (decide (a = b)) W := by
  obtain ⟨i0, hi, _⟩ := info_parts info8
  exact eqArr Try.underlying5 (by kernel_rfl) 9998 W Try.underlying24 hi a b ha hb
set_option maxHeartbeats 2000000 in
theorem law_ShaMade (w : World) (v : Value) (B : List Int) (HR : Rd w v B) (hl : B.length ≤ 140737488351232) :
    Calls Try.prog 8 #[v] w fun e w' => e = .returned (.bool true) ∧ Below w.heap.size w w' := by
  have hbz := Box.new w hz 50
  have hBz := al1 (Below.refl w.heap.size w) (.cells hz 50)
  have hE := hd_ empty_text
  have hLB := hd_ (show ([227, 176, 196, 66, 152, 252, 28, 20, 154, 251, 244, 200, 153, 111, 185, 36, 39, 174, 65, 228, 100, 155, 147, 76, 164, 149, 153, 27, 120, 82, 184, 85] : List Int).length = 32 ∧ IsBytes [227, 176, 196, 66, 152, 252, 28, 20, 154, 251, 244, 200, 153, 111, 185, 36, 39, 174, 65, 228, 100, 155, 147, 76, 164, 149, 153, 27, 120, 82, 184, 85] from ⟨rfl, by intro b hb; simp at hb; omega⟩)
  have heq := eqDg zd32 zd32 rfl rfl
  rw [decide_eq_true rfl] at heq
  have heq2 : ∀ W, Sem.run Try.prog (Op.equalIn 10000 24 (.agg (u8A zd32)) (.agg #[.int .u8 0, .int .u8 0, .int .u8 0, .int .u8 0, .int .u8 0, .int .u8 0, .int .u8 0, .int .u8 0, .int .u8 0, .int .u8 0, .int .u8 0, .int .u8 0, .int .u8 0, .int .u8 0, .int .u8 0, .int .u8 0, .int .u8 0, .int .u8 0, .int .u8 0, .int .u8 0, .int .u8 0, .int .u8 0, .int .u8 0, .int .u8 0, .int .u8 0, .int .u8 0, .int .u8 0, .int .u8 0, .int .u8 0, .int .u8 0, .int .u8 0, .int .u8 0])) W = .ok true W := by rw [zd32_lit]; exact heq
  clear HR hl heq
  go_enter Try.func8, Try.ntmps8
  go_upto_region 3 with fail
  have hzE : (#[.int .u32 0, .int .u32 0, .int .u32 0, .int .u32 0, .int .u32 0, .int .u32 0, .int .u32 0, .int .u32 0, .slice none 0 0, .int .u64 0, .bool false] : Array Value) = hz := rfl
  rw [hzE]
  clear hzE
  generalize hZ : hz = Z at *
  generalize w.alloc (.cells Z 50) = W0 at *
  subst hZ
  go_upto_region 7 with (first
    | (go_at_call 22; first
      | ((with_reducible refine (sha_Write_nil v _).mono ?_); rintro e w' ⟨rfl, rfl⟩)
      | ((with_reducible refine (sha_Write_z w.heap.size v _ hbz).mono ?_); rintro e w' ⟨rfl, rfl⟩))
    | (go_at_call 23; first
      | ((with_reducible refine (sha_Reset_nil _).mono ?_); rintro e w' ⟨rfl, rfl⟩)
      | ((with_reducible refine (sha_Reset_z w.heap.size _ hbz).mono ?_); rintro e w' ⟨rfl, rfl⟩)))
  have hbz' := hd_ hbz
  go_wp2_with (first
    | (go_at_call 21; first
      | ((with_reducible refine (sha_HSum_nil _).mono ?_); rintro e w1 ⟨rfl, HB1⟩; have hb1 := hbz'.out.keep HB1)
      | ((with_reducible refine (sha_HSum_z w.heap.size _ hb1).mono ?_); rintro e w2 ⟨rfl, HB2⟩; have hb2 := hb1.keep HB2))
    | (go_at_call 24; first
      | ((with_reducible refine (sha_Len_nil _).mono ?_); rintro e w' ⟨rfl, rfl⟩)
      | ((with_reducible refine (sha_Len_z w.heap.size _ hb2).mono ?_); rintro e w' ⟨rfl, rfl⟩))
    | (go_at_call 25; first
      | ((with_reducible refine (sha_Save_nil _).mono ?_); rintro e w' ⟨rfl, rfl⟩)
      | ((with_reducible refine (sha_Save_z w.heap.size _ hb2).mono ?_); rintro e w' ⟨rfl, rfl⟩))
    | (go_at_call 17; refine (sha_Sum_nil _).mono ?_; rintro e w3 ⟨rfl, HB3⟩)
    | (go_at_call 12; refine (sha_Print_any [227, 176, 196, 66, 152, 252, 28, 20, 154, 251, 244, 200, 153, 111, 185, 36, 39, 174, 65, 228, 100, 155, 147, 76, 164, 149, 153, 27, 120, 82, 184, 85] hLB.out.1 hLB.out.2 _).mono ?_; rintro e w4 ⟨rfl, HB4⟩; rw [hE.out]))
  go_ret
  exact ⟨rfl, bel_trans hBz (bel_trans HB1 (bel_trans HB2 (bel_trans HB3 HB4)))⟩
end Go.Proofs.Ytcaljnlicohkaaa
