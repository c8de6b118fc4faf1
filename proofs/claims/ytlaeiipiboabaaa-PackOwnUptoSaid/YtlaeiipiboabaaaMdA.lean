/- Readers that no call made. -/
import Derived.Test.YtlaeiipiboabaaaPrX
namespace Go.Proofs.Ytlaeiipiboabaaa
open Go.RowKit
set_option maxRecDepth 100000
set_option linter.unusedVariables false
/-- a reader that no call made: nil, or of zeros -/
def NoR (W : World) (r : Value) : Prop := r = .pointer none ∨ ∃ g, r = .pointer (some ⟨g, 0, none⟩) ∧ Box W g 86 #[.int .i64 0, .slice none 0 0, .int .i64 0, .bool false]
theorem NoR.keep {w w1 : World} {r : Value} (h : NoR w r) (hb : Below w.heap.size w w1) : NoR w1 r := by
  rcases h with h | ⟨g, h, hx⟩
  · exact .inl h
  · exact .inr ⟨g, h, hx.keep hb⟩
theorem N_well (r : Value) (w : World) (h : NoR w r) : Calls Try.prog 68 #[r] w fun e w' => e = .returned (.bool false) ∧ w = w' := by
  rcases h with rfl | ⟨g, rfl, hb⟩
  · go_enter Try.func68, Try.ntmps68
    go_wp2
    go_ret
    exact ⟨rfl, rfl⟩
  · have q3 : w.cell? ⟨g, 3, none⟩ = some (.bool false) := hb.cell 3 rfl
    clear hb
    go_enter Try.func68, Try.ntmps68
    go_wp2
    go_ret
    exact ⟨rfl, rfl⟩
theorem N_well_quiet (r : Value) (w : World) (h : NoR w r) (m : Nat) : Calls Try.prog 68 #[r] (w.drewN m) fun e w' => e = .returned (.bool false) ∧ w' = w.drewN m :=
  (N_well r _ (h.keep (below_drewN (Below.refl _ _) m))).mono fun _ _ h => ⟨h.1, h.2.symm⟩
theorem N_Fail (r : Value) (x : Int) (w : World) (h : NoR w r) : Calls Try.prog 81 #[r, .int .i64 x] w fun e w' => e = .returned (.tuple #[]) ∧ w = w' := by
  rcases h with rfl | ⟨g, rfl, hb⟩
  · go_enter Try.func81, Try.ntmps81
    go_wp2
    go_end0
    exact ⟨rfl, rfl⟩
  · have q3 : w.cell? ⟨g, 3, none⟩ = some (.bool false) := hb.cell 3 rfl
    clear hb
    go_enter Try.func81, Try.ntmps81
    go_wp2
    go_end0
    exact ⟨rfl, rfl⟩
theorem N_number (r : Value) (w : World) (h : NoR w r) : Calls Try.prog 49 #[r] w fun e w' => e = .returned (.tuple #[.int .u64 0, .int .i64 0, .bool false]) ∧ Below w.heap.size w w' := by
  have hN := hd_ h
  clear h
  go_enter Try.func49, Try.ntmps49
  go_wp2_with (go_at_call 68; (with_reducible refine (N_well _ _ hN.out).mono ?_); rintro e w1 ⟨rfl, rfl⟩)
  go_ret3
  exact ⟨rfl, Below.refl _ _⟩
theorem N_bounded (r : Value) (most : Int) (w : World) (h : NoR w r) : Calls Try.prog 69 #[r, .int .i64 most] w fun e w' => e = .returned (.tuple #[.int .i64 0, .int .i64 0, .bool false]) ∧ Below w.heap.size w w' := by
  have hN := hd_ h
  clear h
  go_enter Try.func69, Try.ntmps69
  go_wp2_with (go_at_call 68; (with_reducible refine (N_well _ _ hN.out).mono ?_); rintro e w1 ⟨rfl, rfl⟩)
  go_ret3
  exact ⟨rfl, Below.refl _ _⟩
theorem N_text (r : Value) (most : Int) (w : World) (h : NoR w r) : Calls Try.prog 67 #[r, .int .i64 most] w fun e w' => e = .returned (.tuple #[.string ⟨#[]⟩, .int .i64 0, .bool false]) ∧ Below w.heap.size w w' := by
  have hN := hd_ h
  clear h
  go_enter Try.func67, Try.ntmps67
  go_upto_region 2 with (go_at_call 69; (with_reducible refine (N_bounded _ most _ hN.out).mono ?_); rintro e w1 ⟨rfl, HB1⟩)
  go_quiet (fail)
  go_wp2
  go_ret3
  exact ⟨rfl, bel_trans HB1 (below_drewN (Below.refl _ _) _)⟩
theorem N_Uint (r : Value) (w : World) (h : NoR w r) : Calls Try.prog 15 #[r] w fun e w' => e = .returned (.int .u64 0) ∧ Below w.heap.size w w' := by
  have hN := hd_ h
  clear h
  go_enter Try.func15, Try.ntmps15
  go_wp2_with (go_at_call 49; (with_reducible refine (N_number _ _ hN.out).mono ?_); rintro e w1 ⟨rfl, HB1⟩)
  go_ret
  exact ⟨rfl, HB1⟩
theorem N_Int (r : Value) (most : Int) (w : World) (h : NoR w r) : Calls Try.prog 70 #[r, .int .i64 most] w fun e w' => e = .returned (.int .i64 0) ∧ Below w.heap.size w w' := by
  have hN := hd_ h
  clear h
  go_enter Try.func70, Try.ntmps70
  go_wp2_with (go_at_call 69; (with_reducible refine (N_bounded _ most _ hN.out).mono ?_); rintro e w1 ⟨rfl, HB1⟩)
  go_ret
  exact ⟨rfl, HB1⟩
theorem N_Text (r : Value) (most : Int) (w : World) (h : NoR w r) : Calls Try.prog 28 #[r, .int .i64 most] w fun e w' => e = .returned (.string ⟨#[]⟩) ∧ Below w.heap.size w w' := by
  have hN := hd_ h
  clear h
  go_enter Try.func28, Try.ntmps28
  go_wp2_with (go_at_call 67; (with_reducible refine (N_text _ most _ hN.out).mono ?_); rintro e w1 ⟨rfl, HB1⟩)
  go_ret
  exact ⟨rfl, HB1⟩
theorem N_Flag (r : Value) (w : World) (h : NoR w r) : Calls Try.prog 40 #[r] w fun e w' => e = .returned (.bool false) ∧ Below w.heap.size w w' := by
  have hQ := hd_ (N_well_quiet r w h)
  clear h
  go_enter Try.func40, Try.ntmps40
  go_upto_region 1 with fail
  go_quiet ((go_at_call 68; exact Calls.quiet_of_same (hQ.out _)))
  go_wp2
  go_ret
  exact ⟨rfl, below_drewN (Below.refl _ _) _⟩
theorem N_Count (r : Value) (most : Int) (least : Int) (w : World) (h : NoR w r) : Calls Try.prog 29 #[r, .int .i64 most, .int .i64 least] w fun e w' => e = .returned (.int .i64 0) ∧ Below w.heap.size w w' := by
  have hN := hd_ h
  clear h
  go_enter Try.func29, Try.ntmps29
  go_wp2_with (go_at_call 68; (with_reducible refine (N_well _ _ hN.out).mono ?_); rintro e w1 ⟨rfl, rfl⟩)
  go_ret
  exact ⟨rfl, Below.refl _ _⟩
theorem N_At (r : Value) (w : World) (h : NoR w r) : Calls Try.prog 31 #[r] w fun e w' => e = .returned (.int .i64 0) ∧ Below w.heap.size w w' := by
  rcases h with rfl | ⟨g, rfl, hb⟩
  · go_enter Try.func31, Try.ntmps31
    go_wp2
    go_ret
    exact ⟨rfl, Below.refl _ _⟩
  · have q1 : w.cell? ⟨g, 1, none⟩ = some (.slice none 0 0) := hb.cell 1 rfl
    have q2 : w.cell? ⟨g, 2, none⟩ = some (.int .i64 0) := hb.cell 2 rfl
    have q3 : w.cell? ⟨g, 3, none⟩ = some (.bool false) := hb.cell 3 rfl
    clear hb
    go_enter Try.func31, Try.ntmps31
    go_wp2
    skip
    skip
    go_ret
    exact ⟨rfl, Below.refl _ _⟩
theorem N_Left (r : Value) (w : World) (h : NoR w r) : Calls Try.prog 30 #[r] w fun e w' => e = .returned (.int .i64 0) ∧ Below w.heap.size w w' := by
  rcases h with rfl | ⟨g, rfl, hb⟩
  · go_enter Try.func30, Try.ntmps30
    go_wp2
    go_ret
    exact ⟨rfl, Below.refl _ _⟩
  · have q1 : w.cell? ⟨g, 1, none⟩ = some (.slice none 0 0) := hb.cell 1 rfl
    have q2 : w.cell? ⟨g, 2, none⟩ = some (.int .i64 0) := hb.cell 2 rfl
    have q3 : w.cell? ⟨g, 3, none⟩ = some (.bool false) := hb.cell 3 rfl
    clear hb
    go_enter Try.func30, Try.ntmps30
    go_wp2
    go_quiet (fail)
    go_wp2
    go_ret
    exact ⟨rfl, below_drewN (Below.refl _ _) _⟩
theorem N_Err (r : Value) (w : World) (h : NoR w r) : Calls Try.prog 38 #[r] w fun e w' => e = .returned (.int .i64 2) ∧ Below w.heap.size w w' := by
  rcases h with rfl | ⟨g, rfl, hb⟩
  · go_enter Try.func38, Try.ntmps38
    go_wp2
    go_ret
    exact ⟨rfl, Below.refl _ _⟩
  · have q1 : w.cell? ⟨g, 1, none⟩ = some (.slice none 0 0) := hb.cell 1 rfl
    have q2 : w.cell? ⟨g, 2, none⟩ = some (.int .i64 0) := hb.cell 2 rfl
    have q3 : w.cell? ⟨g, 3, none⟩ = some (.bool false) := hb.cell 3 rfl
    clear hb
    go_enter Try.func38, Try.ntmps38
    go_wp2
    skip
    skip
    go_ret
    exact ⟨rfl, Below.refl _ _⟩
theorem N_End (r : Value) (w : World) (h : NoR w r) : Calls Try.prog 46 #[r] w fun e w' => e = .returned (.int .i64 2) ∧ Below w.heap.size w w' := by
  have hN := hd_ h
  clear h
  go_enter Try.func46, Try.ntmps46
  go_wp2_with (go_at_call 38; (with_reducible refine (N_Err _ _ hN.out).mono ?_); rintro e w1 ⟨rfl, HB1⟩)
  go_ret
  exact ⟨rfl, HB1⟩
end Go.Proofs.Ytlaeiipiboabaaa
