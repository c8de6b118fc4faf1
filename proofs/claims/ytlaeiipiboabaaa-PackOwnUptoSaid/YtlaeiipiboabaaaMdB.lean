/- A reader that no call made: Digest, Row; a writer that is nil. -/
import Derived.Test.YtlaeiipiboabaaaMdA
namespace Go.Proofs.Ytlaeiipiboabaaa
open Go.RowKit
set_option maxRecDepth 100000
set_option linter.unusedVariables false
set_option maxHeartbeats 1000000 in
theorem N_Digest (r : Value) (w : World) (h : NoR w r) : Calls Try.prog 78 #[r] w fun e w' => e = .returned (.agg (u8A (List.replicate 32 0))) ∧ Below w.heap.size w w' := by
  have hb1 : Box ((w.alloc (.cells #[.int .u8 0, .int .u8 0, .int .u8 0, .int .u8 0, .int .u8 0, .int .u8 0, .int .u8 0, .int .u8 0, .int .u8 0, .int .u8 0, .int .u8 0, .int .u8 0, .int .u8 0, .int .u8 0, .int .u8 0, .int .u8 0, .int .u8 0, .int .u8 0, .int .u8 0, .int .u8 0, .int .u8 0, .int .u8 0, .int .u8 0, .int .u8 0, .int .u8 0, .int .u8 0, .int .u8 0, .int .u8 0, .int .u8 0, .int .u8 0, .int .u8 0, .int .u8 0] 99)).alloc (.cells #[.int .u8 0, .int .u8 0, .int .u8 0, .int .u8 0, .int .u8 0, .int .u8 0, .int .u8 0, .int .u8 0, .int .u8 0, .int .u8 0, .int .u8 0, .int .u8 0, .int .u8 0, .int .u8 0, .int .u8 0, .int .u8 0, .int .u8 0, .int .u8 0, .int .u8 0, .int .u8 0, .int .u8 0, .int .u8 0, .int .u8 0, .int .u8 0, .int .u8 0, .int .u8 0, .int .u8 0, .int .u8 0, .int .u8 0, .int .u8 0, .int .u8 0, .int .u8 0] 99)) w.heap.size 99 (u8A (List.replicate 32 0)) := (Box.new w #[.int .u8 0, .int .u8 0, .int .u8 0, .int .u8 0, .int .u8 0, .int .u8 0, .int .u8 0, .int .u8 0, .int .u8 0, .int .u8 0, .int .u8 0, .int .u8 0, .int .u8 0, .int .u8 0, .int .u8 0, .int .u8 0, .int .u8 0, .int .u8 0, .int .u8 0, .int .u8 0, .int .u8 0, .int .u8 0, .int .u8 0, .int .u8 0, .int .u8 0, .int .u8 0, .int .u8 0, .int .u8 0, .int .u8 0, .int .u8 0, .int .u8 0, .int .u8 0] 99).keep (al1 (Below.refl _ _) _)
  have hb2 : Box ((w.alloc (.cells #[.int .u8 0, .int .u8 0, .int .u8 0, .int .u8 0, .int .u8 0, .int .u8 0, .int .u8 0, .int .u8 0, .int .u8 0, .int .u8 0, .int .u8 0, .int .u8 0, .int .u8 0, .int .u8 0, .int .u8 0, .int .u8 0, .int .u8 0, .int .u8 0, .int .u8 0, .int .u8 0, .int .u8 0, .int .u8 0, .int .u8 0, .int .u8 0, .int .u8 0, .int .u8 0, .int .u8 0, .int .u8 0, .int .u8 0, .int .u8 0, .int .u8 0, .int .u8 0] 99)).alloc (.cells #[.int .u8 0, .int .u8 0, .int .u8 0, .int .u8 0, .int .u8 0, .int .u8 0, .int .u8 0, .int .u8 0, .int .u8 0, .int .u8 0, .int .u8 0, .int .u8 0, .int .u8 0, .int .u8 0, .int .u8 0, .int .u8 0, .int .u8 0, .int .u8 0, .int .u8 0, .int .u8 0, .int .u8 0, .int .u8 0, .int .u8 0, .int .u8 0, .int .u8 0, .int .u8 0, .int .u8 0, .int .u8 0, .int .u8 0, .int .u8 0, .int .u8 0, .int .u8 0] 99)) (w.alloc (.cells #[.int .u8 0, .int .u8 0, .int .u8 0, .int .u8 0, .int .u8 0, .int .u8 0, .int .u8 0, .int .u8 0, .int .u8 0, .int .u8 0, .int .u8 0, .int .u8 0, .int .u8 0, .int .u8 0, .int .u8 0, .int .u8 0, .int .u8 0, .int .u8 0, .int .u8 0, .int .u8 0, .int .u8 0, .int .u8 0, .int .u8 0, .int .u8 0, .int .u8 0, .int .u8 0, .int .u8 0, .int .u8 0, .int .u8 0, .int .u8 0, .int .u8 0, .int .u8 0] 99)).heap.size 99 (u8A (List.replicate 32 0)) := Box.new _ #[.int .u8 0, .int .u8 0, .int .u8 0, .int .u8 0, .int .u8 0, .int .u8 0, .int .u8 0, .int .u8 0, .int .u8 0, .int .u8 0, .int .u8 0, .int .u8 0, .int .u8 0, .int .u8 0, .int .u8 0, .int .u8 0, .int .u8 0, .int .u8 0, .int .u8 0, .int .u8 0, .int .u8 0, .int .u8 0, .int .u8 0, .int .u8 0, .int .u8 0, .int .u8 0, .int .u8 0, .int .u8 0, .int .u8 0, .int .u8 0, .int .u8 0, .int .u8 0] 99
  have hB0 := al1 (al1 (Below.refl w.heap.size w) (.cells #[.int .u8 0, .int .u8 0, .int .u8 0, .int .u8 0, .int .u8 0, .int .u8 0, .int .u8 0, .int .u8 0, .int .u8 0, .int .u8 0, .int .u8 0, .int .u8 0, .int .u8 0, .int .u8 0, .int .u8 0, .int .u8 0, .int .u8 0, .int .u8 0, .int .u8 0, .int .u8 0, .int .u8 0, .int .u8 0, .int .u8 0, .int .u8 0, .int .u8 0, .int .u8 0, .int .u8 0, .int .u8 0, .int .u8 0, .int .u8 0, .int .u8 0, .int .u8 0] 99)) (.cells #[.int .u8 0, .int .u8 0, .int .u8 0, .int .u8 0, .int .u8 0, .int .u8 0, .int .u8 0, .int .u8 0, .int .u8 0, .int .u8 0, .int .u8 0, .int .u8 0, .int .u8 0, .int .u8 0, .int .u8 0, .int .u8 0, .int .u8 0, .int .u8 0, .int .u8 0, .int .u8 0, .int .u8 0, .int .u8 0, .int .u8 0, .int .u8 0, .int .u8 0, .int .u8 0, .int .u8 0, .int .u8 0, .int .u8 0, .int .u8 0, .int .u8 0, .int .u8 0] 99)
  rw [World.size_alloc] at hb2
  have hS0 := h.keep hB0
  clear h
  go_enter Try.func78, Try.ntmps78
  go_upto_region 2 with fail
  generalize (w.alloc (.cells #[.int .u8 0, .int .u8 0, .int .u8 0, .int .u8 0, .int .u8 0, .int .u8 0, .int .u8 0, .int .u8 0, .int .u8 0, .int .u8 0, .int .u8 0, .int .u8 0, .int .u8 0, .int .u8 0, .int .u8 0, .int .u8 0, .int .u8 0, .int .u8 0, .int .u8 0, .int .u8 0, .int .u8 0, .int .u8 0, .int .u8 0, .int .u8 0, .int .u8 0, .int .u8 0, .int .u8 0, .int .u8 0, .int .u8 0, .int .u8 0, .int .u8 0, .int .u8 0] 99)).alloc (.cells #[.int .u8 0, .int .u8 0, .int .u8 0, .int .u8 0, .int .u8 0, .int .u8 0, .int .u8 0, .int .u8 0, .int .u8 0, .int .u8 0, .int .u8 0, .int .u8 0, .int .u8 0, .int .u8 0, .int .u8 0, .int .u8 0, .int .u8 0, .int .u8 0, .int .u8 0, .int .u8 0, .int .u8 0, .int .u8 0, .int .u8 0, .int .u8 0, .int .u8 0, .int .u8 0, .int .u8 0, .int .u8 0, .int .u8 0, .int .u8 0, .int .u8 0, .int .u8 0] 99) = W0 at *
  have hQ := hd_ (N_well_quiet r W0 hS0)
  go_quiet ((go_at_call 68; exact Calls.quiet_of_same (hQ.out _)))
  rename_i nq
  have hB1 := below_drewN (Below.refl W0.heap.size W0) nq
  have HB1 := hd_ hB1
  have hb1' := hb1.keep hB1
  have hb2' := hb2.keep hB1
  have hS1 := hd_ (hS0.keep hB1)
  clear hQ hb1 hb2 hB1 hS0
  have HBB := hd_ (bel_trans hB0 HB1.out)
  clear HB1 hB0
  generalize W0.drewN nq = W1 at *
  go_wp2_with (first
    | (refine load_box rfl 99 _ rfl (w.heap.size + 1) 99 (u8A (List.replicate 32 0)) _ rfl hb2' Try.underlying99 rfl infoDg ?_)
    | (refine store_box rfl 99 _ _ rfl w.heap.size 99 _ (u8A (List.replicate 32 0)) rfl rfl hb1' infoDg rfl (u8A_one _) ?_; intro w9 hb9 hg9))
  refine bodyPost_ret (results_cell1 rfl _ _ _ rfl (run_load_box _ _ _ _ _ hb9 Try.underlying99 rfl infoDg)) rfl ⟨rfl, ?_⟩
  exact below_row HBB.out hg9 (Nat.le_refl _) HBB.out.size
set_option maxHeartbeats 1000000 in
theorem N_Row (r : Value) (w : World) (h : NoR w r) : Calls Try.prog 42 #[r] w fun e w' => e = .returned (.agg #[.string ⟨#[]⟩, .string ⟨#[]⟩, .int .i64 0]) ∧ Below w.heap.size w w' := by
  have hb1 := Box.new w #[.string ⟨#[]⟩, .string ⟨#[]⟩, .int .i64 0] 51
  have hB0 := al1 (Below.refl w.heap.size w) (.cells #[.string ⟨#[]⟩, .string ⟨#[]⟩, .int .i64 0] 51)
  have hS0 := hd_ (h.keep hB0)
  clear h
  go_enter Try.func42, Try.ntmps42
  go_upto_region 1 with fail
  generalize w.alloc (.cells #[.string ⟨#[]⟩, .string ⟨#[]⟩, .int .i64 0] 51) = W0 at *
  go_wp2_with (first
    | (go_at_call 68; (with_reducible refine (N_well _ _ hS0.out).mono ?_); rintro e w' ⟨rfl, rfl⟩)
    | (refine store_box rfl 51 _ _ rfl w.heap.size 51 _ #[.string ⟨#[]⟩, .string ⟨#[]⟩, .int .i64 0] rfl rfl hb1 infoRw rfl (rowC_one _ _ _) ?_; intro w9 hb9 hg9))
  refine bodyPost_ret (results_cell1 rfl _ _ _ rfl (run_load_box _ _ _ _ _ hb9 Try.underlying51 rfl infoRw)) rfl ⟨rfl, ?_⟩
  exact below_row hB0 hg9 (Nat.le_refl _) hB0.size
theorem Z_Fail (x : Int) (w : World) : Calls Try.prog 65 #[.pointer none, .int .i64 x] w fun e w' => e = .returned (.tuple #[]) ∧ Below w.heap.size w w' := by
  go_enter Try.func65, Try.ntmps65
  go_wp2
  go_end0
  exact ⟨rfl, Below.refl _ _⟩
theorem Z_lay (v : Value) (w : World) : Calls Try.prog 55 #[.pointer none, v] w fun e w' => e = .returned (.tuple #[]) ∧ Below w.heap.size w w' := by
  go_enter Try.func55, Try.ntmps55
  go_wp2
  go_end0
  exact ⟨rfl, Below.refl _ _⟩
theorem Z_Uint (u : Nat) (hu : u < 18446744073709551616) (w : World) : Calls Try.prog 22 #[.pointer none, .int .u64 (u : Int)] w fun e w' => e = .returned (.tuple #[]) ∧ Below w.heap.size w w' := by
  have hbx := box_one w (.int .u64 (u : Int)) 22
  have hB0 := al1 (Below.refl w.heap.size w) (.cells #[.int .u64 (u : Int)] 22)
  go_enter Try.func22, Try.ntmps22
  go_wp2_with (first
    | (go_at_call 56; refine (leb_Encode_any _ u _ hbx hu).mono ?_; rintro e w1 ⟨v1, rfl, HO1, HB1⟩)
    | (go_at_call 55; (with_reducible refine (Z_lay _ _).mono ?_); rintro e w2 ⟨rfl, HB2⟩))
  go_end0
  exact ⟨rfl, bel_trans (bel_trans hB0 HB1) HB2⟩
theorem Z_Int (x most : Int) (w : World) : Calls Try.prog 59 #[.pointer none, .int .i64 x, .int .i64 most] w fun e w' => e = .returned (.tuple #[]) ∧ Below w.heap.size w w' := by
  go_enter Try.func59, Try.ntmps59
  go_wp2
  go_end0
  exact ⟨rfl, Below.refl _ _⟩
theorem Z_Text (s : ByteArray) (most : Int) (w : World) : Calls Try.prog 39 #[.pointer none, .string s, .int .i64 most] w fun e w' => e = .returned (.tuple #[]) ∧ Below w.heap.size w w' := by
  go_enter Try.func39, Try.ntmps39
  go_wp2
  go_end0
  exact ⟨rfl, Below.refl _ _⟩
theorem Z_Row (v : Array Value) (w : World) : Calls Try.prog 43 #[.pointer none, .agg v] w fun e w' => e = .returned (.tuple #[]) ∧ Below w.heap.size w w' := by
  have hB0 := hd_ (al1 (Below.refl w.heap.size w) (.cells v 51))
  go_enter Try.func43, Try.ntmps43
  go_upto_region 1 with fail
  go_quiet (fail)
  go_wp2
  refine bodyPost_ret (results_none rfl _ _ _) rfl ⟨rfl, ?_⟩
  exact below_drewN hB0.out _
theorem Z_Flag (f : Bool) (w : World) : Calls Try.prog 41 #[.pointer none, .bool f] w fun e w' => e = .returned (.tuple #[]) ∧ Below w.heap.size w w' := by
  cases f
  · have hB0 := hd_ (al1 (Below.refl w.heap.size w) (.cells #[.int .u8 0] 5))
    go_enter Try.func41, Try.ntmps41
    go_wp2_with (go_at_call 55; (with_reducible refine (Z_lay _ _).mono ?_); rintro e w2 ⟨rfl, HB2⟩)
    go_end0
    exact ⟨rfl, bel_trans hB0.out HB2⟩
  · have hB0 := hd_ (al1 (Below.refl w.heap.size w) (.cells #[.int .u8 1] 5))
    go_enter Try.func41, Try.ntmps41
    go_wp2_with (go_at_call 55; (with_reducible refine (Z_lay _ _).mono ?_); rintro e w2 ⟨rfl, HB2⟩)
    go_end0
    exact ⟨rfl, bel_trans hB0.out HB2⟩
theorem Z_Digest (C : Array Value) (hsz : C.size = 32) (w : World) : Calls Try.prog 62 #[.pointer none, .agg C] w fun e w' => e = .returned (.tuple #[]) ∧ Below w.heap.size w w' := by
  have hB0 := hd_ (al1 (Below.refl w.heap.size w) (.cells C 99))
  go_enter Try.func62, Try.ntmps62
  go_wp2_with (go_at_call 55; (with_reducible refine (Z_lay _ _).mono ?_); rintro e w2 ⟨rfl, HB2⟩)
  go_end0
  exact ⟨rfl, bel_trans hB0.out HB2⟩
theorem Z_Size (w : World) : Calls Try.prog 47 #[.pointer none] w fun e w' => e = .returned (.int .i64 0) ∧ Below w.heap.size w w' := by
  go_enter Try.func47, Try.ntmps47
  go_wp2
  go_ret
  exact ⟨rfl, Below.refl _ _⟩
theorem Z_Bytes (w : World) : Calls Try.prog 23 #[.pointer none] w fun e w' => e = .returned (.tuple #[.slice none 0 0, .int .i64 2]) ∧ Below w.heap.size w w' := by
  go_enter Try.func23, Try.ntmps23
  go_wp2
  exact bodyPost_ret (results_tmp2 rfl _ _ _) rfl ⟨rfl, Below.refl _ _⟩
end Go.Proofs.Ytlaeiipiboabaaa
