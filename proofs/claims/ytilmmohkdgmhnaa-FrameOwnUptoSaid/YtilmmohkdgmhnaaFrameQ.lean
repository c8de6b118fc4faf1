import Derived.Test.YtilmmohkdgmhnaaFrameP
namespace Go.Proofs.Ytilmmohkdgmhnaa
open Go.RowKit
set_option maxRecDepth 100000
set_option linter.unusedVariables false
theorem Feed_nil (v : Value) (w : World) : Calls Try.prog 29 #[.pointer none, v] w fun e w' => e = .returned (.slice none 0 0) ∧ w = w' := by
  go_enter Try.func29, Try.ntmps29
  go_wp2
  go_ret
  exact ⟨rfl, rfl⟩
theorem Feed_zero (g : Nat) (v : Value) (w : World) (h0 : w.cell? ⟨g, 0, none⟩ = some (.bool false)) : Calls Try.prog 29 #[.pointer (some ⟨g, 0, none⟩), v] w fun e w' => e = .returned (.slice none 0 0) ∧ w = w' := by
  go_enter Try.func29, Try.ntmps29
  go_wp2
  go_ret
  exact ⟨rfl, rfl⟩
theorem End_nil (w : World) : Calls Try.prog 30 #[.pointer none] w fun e w' => e = .returned (.slice none 0 0) ∧ w = w' := by
  go_enter Try.func30, Try.ntmps30
  go_wp2
  go_ret
  exact ⟨rfl, rfl⟩
theorem End_zero (g : Nat) (w : World) (h0 : w.cell? ⟨g, 0, none⟩ = some (.bool false)) : Calls Try.prog 30 #[.pointer (some ⟨g, 0, none⟩)] w fun e w' => e = .returned (.slice none 0 0) ∧ w = w' := by
  go_enter Try.func30, Try.ntmps30
  go_wp2
  go_ret
  exact ⟨rfl, rfl⟩
theorem Waits_nil (w : World) : Calls Try.prog 37 #[.pointer none] w fun e w' => e = .returned (.int .i64 0) ∧ w = w' := by
  go_enter Try.func37, Try.ntmps37
  go_wp2
  go_ret
  exact ⟨rfl, rfl⟩
theorem Waits_any (g : Nat) (v : Value) (l : List Int) (w : World) (h2 : w.cell? ⟨g, 2, none⟩ = some v) (HR : Rd w v l) : Calls Try.prog 37 #[.pointer (some ⟨g, 0, none⟩)] w fun e w' => e = .returned (.int .i64 l.length) ∧ w = w' := by
  have hlen := HR.2.len (P := Try.prog) 24 5 3 Try.underlying24
  go_enter Try.func37, Try.ntmps37
  go_wp2
  go_ret
  exact ⟨rfl, rfl⟩
theorem Junk_nil (w : World) : Calls Try.prog 38 #[.pointer none] w fun e w' => e = .returned (.int .i64 0) ∧ w = w' := by
  go_enter Try.func38, Try.ntmps38
  go_wp2
  go_ret
  exact ⟨rfl, rfl⟩
theorem Junk_any (g : Nat) (j : Int) (w : World) (h3 : w.cell? ⟨g, 3, none⟩ = some (.int .i64 j)) : Calls Try.prog 38 #[.pointer (some ⟨g, 0, none⟩)] w fun e w' => e = .returned (.int .i64 j) ∧ w = w' := by
  go_enter Try.func38, Try.ntmps38
  go_wp2
  go_ret
  exact ⟨rfl, rfl⟩
theorem Lost_nil (w : World) : Calls Try.prog 39 #[.pointer none] w fun e w' => e = .returned (.int .i64 0) ∧ w = w' := by
  go_enter Try.func39, Try.ntmps39
  go_wp2
  go_ret
  exact ⟨rfl, rfl⟩
theorem Lost_any (g : Nat) (j : Int) (w : World) (h4 : w.cell? ⟨g, 4, none⟩ = some (.int .i64 j)) : Calls Try.prog 39 #[.pointer (some ⟨g, 0, none⟩)] w fun e w' => e = .returned (.int .i64 j) ∧ w = w' := by
  go_enter Try.func39, Try.ntmps39
  go_wp2
  go_ret
  exact ⟨rfl, rfl⟩
theorem New_bad (m : Int) (hm : m < 0 ∨ 1048576 < m) (w : World) : Calls Try.prog 28 #[.int .i64 m] w fun e w' => e = .returned (.tuple #[.pointer none, .int .i64 1]) ∧ w = w' := by
  by_cases h : m < 0
  · go_enter Try.func28, Try.ntmps28
    go_wp2
    go_ret2
    exact ⟨rfl, rfl⟩
  · have h2 : 1048576 < m := by omega
    go_enter Try.func28, Try.ntmps28
    go_wp2
    go_ret2
    exact ⟨rfl, rfl⟩
theorem New_ok (m : Int) (h0 : 0 ≤ m) (h1 : m ≤ 1048576) (w : World) : Calls Try.prog 28 #[.int .i64 m] w fun e w' => e = .returned (.tuple #[.pointer (some ⟨w.heap.size, 0, none⟩), .int .i64 0]) ∧ Box w' w.heap.size 74 #[.bool true, .int .i64 m, .slice none 0 0, .int .i64 0, .int .i64 0] ∧ Below w.heap.size w w' := by
  have hb := Box.new w #[.bool true, .int .i64 m, .slice none 0 0, .int .i64 0, .int .i64 0] 74
  have hB := al1 (Below.refl w.heap.size w) (.cells #[.bool true, .int .i64 m, .slice none 0 0, .int .i64 0, .int .i64 0] 74)
  have HB := hd_ hB
  have HX := hd_ hb
  clear hB hb
  have h0' : ¬ m < 0 := by omega
  have h1' : ¬ 1048576 < m := by omega
  go_enter Try.func28, Try.ntmps28
  go_wp2
  go_ret2
  exact ⟨rfl, HX.out, HB.out⟩
set_option maxHeartbeats 1000000 in
theorem law_FrameNil (w : World) (v : Value) (l : List Int) (HR : Rd w v l) (hl : l.length ≤ 140737488351232) :
    Calls Try.prog 11 #[v] w fun e w' => e = .returned (.bool true) ∧ Below w.heap.size w w' := by
  have hZ := Box.new w #[.bool false, .int .i64 0, .slice none 0 0, .int .i64 0, .int .i64 0] 74
  have hB0 := al1 (Below.refl w.heap.size w) (.cells #[.bool false, .int .i64 0, .slice none 0 0, .int .i64 0, .int .i64 0] 74)
  go_enter Try.func11, Try.ntmps11
  go_upto_region 3 with fail
  generalize w.alloc (.cells #[.bool false, .int .i64 0, .slice none 0 0, .int .i64 0, .int .i64 0] 74) = W0 at *
  have hP := Box.new W0 #[.pointer none, .pointer (some ⟨w.heap.size, 0, none⟩)] 49
  have hB1 := al1 (Below.refl W0.heap.size W0) (.cells #[.pointer none, .pointer (some ⟨w.heap.size, 0, none⟩)] 49)
  have hZ1 := hZ.keep hB1
  have z0 := hZ1.cell 0 rfl
  have z2 := hZ1.cell 2 rfl
  have z3 := hZ1.cell 3 rfl
  have z4 := hZ1.cell 4 rfl
  have p0 := hP.cell 0 rfl
  have p1 := hP.cell 1 rfl
  have hB2 := bel_trans hB0 hB1
  go_wp2
  generalize W0.alloc (.cells #[.pointer none, .pointer (some ⟨w.heap.size, 0, none⟩)] 49) = W1 at *
  have hnil : Rd W1 (.slice none 0 0) [] := (own_nil8 _ 0 0).rd
  go_loop [14] (fun vi => ∃ k : Nat, k ≤ 2 ∧ vi = .int .i64 k) (fun i => 2 - (intOf i).toNat)
  case atStart => exact ⟨0, by omega, rfl⟩
  case round =>
    obtain ⟨k, hk, rfl⟩ := hrel
    have hk3 : k = 0 ∨ k = 1 ∨ k = 2 := by omega
    rcases hk3 with rfl | rfl | rfl
    · go_wp2_with (first
        | (go_at_call 29; refine (Feed_nil _ _).mono ?_; rintro e w' ⟨rfl, rfl⟩)
        | (go_at_call 30; refine (End_nil _).mono ?_; rintro e w' ⟨rfl, rfl⟩)
        | (go_at_call 37; refine (Waits_nil _).mono ?_; rintro e w' ⟨rfl, rfl⟩)
        | (go_at_call 38; refine (Junk_nil _).mono ?_; rintro e w' ⟨rfl, rfl⟩)
        | (go_at_call 39; refine (Lost_nil _).mono ?_; rintro e w' ⟨rfl, rfl⟩))
      go_round
      case rel => exact ⟨1, by omega, by go_num⟩
      case measure => (simp [intOf])
    · go_wp2_with (first
        | (go_at_call 29; refine (Feed_zero _ _ _ z0).mono ?_; rintro e w' ⟨rfl, rfl⟩)
        | (go_at_call 30; refine (End_zero _ _ z0).mono ?_; rintro e w' ⟨rfl, rfl⟩)
        | (go_at_call 37; refine (Waits_any _ _ [] _ z2 hnil).mono ?_; rintro e w' ⟨rfl, rfl⟩)
        | (go_at_call 38; refine (Junk_any _ 0 _ z3).mono ?_; rintro e w' ⟨rfl, rfl⟩)
        | (go_at_call 39; refine (Lost_any _ 0 _ z4).mono ?_; rintro e w' ⟨rfl, rfl⟩))
      go_round
      case rel => exact ⟨2, by omega, by go_num⟩
      case measure => (simp [intOf])
    · go_wp2_with (first
        | (go_at_call 28; refine (New_ok 3 (by decide) (by decide) _).mono ?_; rintro e w3 ⟨rfl, HX3, HB3⟩)
        | (go_at_call 17; refine (frame_num_any _ _).mono ?_; rintro e w' ⟨rfl, rfl⟩))
      go_ret
      exact ⟨rfl, bel_trans hB2 HB3⟩
end Go.Proofs.Ytilmmohkdgmhnaa
