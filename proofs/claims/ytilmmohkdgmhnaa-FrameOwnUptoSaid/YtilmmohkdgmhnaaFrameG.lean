import Derived.Test.YtilmmohkdgmhnaaFrameF
namespace Go.Proofs.Ytilmmohkdgmhnaa
open Go.RowKit
set_option maxRecDepth 100000
set_option linter.unusedVariables false
def RFrame := RAnd 0 1 (RInt .i64) (RAnd 1 1 RBytes RNil)
theorem frame_of {w : World} {cs : Array Value} (hs : cs.size = 2) {x : Int × List Int × Unit} (r : RFrame w cs.toList x) :
    ∃ k A c body, cs = #[.int .i64 k, .slice A body.length c] ∧ (Lit.int .i64 k).wf = true ∧ Rd w (.slice A body.length c) body ∧ body.length ≤ 140737488351232 := by
  obtain ⟨c0, c1, rfl⟩ := Go.Joins.array2 hs
  obtain ⟨⟨h0, w0⟩, ⟨v, h1, hR, hl⟩, _⟩ := r
  simp at h0 h1
  subst h0; subst h1
  obtain ⟨A, c, hv, _⟩ := hR.form
  rw [hv] at hR ⊢
  exact ⟨_, A, c, _, rfl, w0, hR, hl⟩
def encE (k : Int) (body : List Int) : Int := if k < 1 ∨ 255 < k then 42 else if 1048576 < body.length then 43 else 0
def encL (k : Int) (body : List Int) : List Int := if k < 1 ∨ 255 < k then [] else if 1048576 < body.length then [] else encB k body
theorem frame_Encode_any (k : Int) (u : Value) (body : List Int) (w : World) (HR : Rd w u body) :
    Calls Try.prog 18 #[.agg #[.int .i64 k, u]] w fun e w' => ∃ v1, e = .returned (.tuple #[v1, .int .i64 (encE k body)]) ∧ Own w' w.heap.size 5 v1 (encL k body) ∧ Below w.heap.size w w' := by
  unfold encE encL
  by_cases h1 : k < 1 ∨ 255 < k
  · rw [if_pos h1, if_pos h1]
    exact (frame_Encode_form k u w h1).mono fun e w' ⟨h2, h3⟩ => ⟨_, h2, own_nil8 _ _ _, h3⟩
  · rw [if_neg h1, if_neg h1]
    by_cases h2 : 1048576 < body.length
    · rw [if_pos h2, if_pos h2]
      exact (frame_Encode_long k u body w HR (by omega) (by omega) h2).mono fun e w' ⟨h2, h3⟩ => ⟨_, h2, own_nil8 _ _ _, h3⟩
    · rw [if_neg h2, if_neg h2]
      exact frame_Encode_ok k u body w HR (by omega) (by omega) (by omega)
theorem ref_Encode_any (k : Int) (u : Value) (body : List Int) (w : World) (HR : Rd w u body) :
    Calls Try.prog 20 #[.agg #[.int .i64 k, u]] w fun e w' => ∃ v1, e = .returned (.tuple #[v1, .int .i64 (encE k body)]) ∧ Rd w' v1 (encL k body) ∧ Below w.heap.size w w' := by
  unfold encE encL
  by_cases h1 : k < 1 ∨ 255 < k
  · rw [if_pos h1, if_pos h1]
    exact (ref_Encode_form k u w h1).mono fun e w' ⟨h2, h3⟩ => ⟨_, h2, (own_nil8 _ 0 0).rd, h3⟩
  · rw [if_neg h1, if_neg h1]
    by_cases h2 : 1048576 < body.length
    · rw [if_pos h2, if_pos h2]
      exact (ref_Encode_long k u body w HR (by omega) (by omega) h2).mono fun e w' ⟨h2, h3⟩ => ⟨_, h2, (own_nil8 _ 0 0).rd, h3⟩
    · rw [if_neg h2, if_neg h2]
      exact ref_Encode_ok k u body w HR (by omega) (by omega) (by omega)
set_option maxHeartbeats 1000000 in
theorem law_FrameEncodes (w : World) (cs : Array Value) (hs : cs.size = 2) (x : Int × List Int × Unit) (r : RFrame w cs.toList x) :
    Calls Try.prog 4 #[.agg cs] w fun e w' => e = .returned (.bool true) ∧ Below w.heap.size w w' := by
  obtain ⟨k, A, c, body, rfl, hk, hR, hl⟩ := frame_of hs r
  clear r hs x
  obtain ⟨k0, k1⟩ := wf_i64 hk
  clear hk
  have q0 : (w.alloc (.cells #[.int .i64 k, .slice A body.length c] 28)).cell? ⟨w.heap.size, 0, none⟩ = some (.int .i64 k) := World.cell?_alloc_at _ _ _ 0 rfl
  have q1 : (w.alloc (.cells #[.int .i64 k, .slice A body.length c] 28)).cell? ⟨w.heap.size, 1, none⟩ = some (.slice A body.length c) := World.cell?_alloc_at _ _ _ 1 rfl
  have hB := al1 (Below.refl w.heap.size w) (.cells #[.int .i64 k, .slice A body.length c] 28)
  go_enter Try.func4, Try.ntmps4
  go_upto_region 1 with fail
  generalize w.alloc (.cells #[.int .i64 k, .slice A body.length c] 28) = W0 at *
  have hR0 := hR.keep hB
  go_wp2_with fail
  refine (roomy_any _ body _ hR0 hl).mono ?_
  rintro e w1 ⟨g, cap, rfl, HO1, HB1⟩
  have r0 := cell_keep HB1 q0
  have r1 := cell_keep HB1 q1
  have HS1 := HO1.rd
  have HF1 := HS1.front (by rw [List.length_append]; rfl)
  have hB1 := bel_trans hB HB1
  go_wp2_with fail
  refine (frame_Encode_any k _ body _ HF1).mono ?_
  rintro e w2 ⟨v2, rfl, HO2, HB2⟩
  have s0 := cell_keep HB2 r0
  have s1 := cell_keep HB2 r1
  have hB2 := bel_trans hB1 HB2
  generalize hee : encE k body = E at *
  generalize hll : encL k body = L at *
  go_wp2_with fail
  refine (plain_any k A body.length c _).mono ?_
  rintro e w3 ⟨rfl, HB3⟩
  have hB3 := bel_trans hB2 HB3
  go_wp2_with fail
  refine (ref_Encode_any k _ body _ (hR.keep hB3)).mono ?_
  rintro e w4 ⟨v4, rfl, HR4, HB4⟩
  rw [hee]
  rw [hll] at HR4
  have hB4 := bel_trans hB3 HB4
  have t1 := cell_keep (bel_trans HB3 HB4) s1
  have h1 := (HO2.rd.keep (bel_trans HB3 HB4)).str (P := Try.prog) 24 5 9 Try.underlying24 Try.underlying5 Try.underlying9
  have h2 := HR4.str (P := Try.prog) 24 5 9 Try.underlying24 Try.underlying5 Try.underlying9
  have hS4 := HS1.keep (bel_trans HB2 (bel_trans HB3 HB4))
  have hR4 := hR.keep hB4
  go_wp2_with (first
    | (go_at_call 17; refine (frame_num_any _ _).mono ?_; rintro e w' ⟨rfl, rfl⟩)
    | (go_at_call 22; refine (kept_any _ body g cap _ hR4 hS4).mono ?_; rintro e w' ⟨rfl, rfl⟩))
  go_ret
  exact ⟨by simp, hB4⟩
end Go.Proofs.Ytilmmohkdgmhnaa
