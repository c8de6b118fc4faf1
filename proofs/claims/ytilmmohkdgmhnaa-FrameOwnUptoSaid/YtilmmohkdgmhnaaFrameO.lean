import Derived.Test.YtilmmohkdgmhnaaFrameN
namespace Go.Proofs.Ytilmmohkdgmhnaa
open Go.RowKit
set_option maxRecDepth 100000
set_option linter.unusedVariables false
theorem may_any (k : Int) (A : Option Addr) (n c : Nat) (hn : n ≤ 9223372036854775807) (w : World) :
    Calls Try.prog 34 #[.agg #[.int .i64 k, .slice A n c]] w fun e w' => e = .returned (.bool (decide (1 ≤ k ∧ k ≤ 255 ∧ n ≤ 1048576))) ∧ Below w.heap.size w w' := by
  have hB := hd_ (al1 (Below.refl w.heap.size w) (.cells #[.int .i64 k, .slice A n c] 28))
  by_cases h1 : 1 ≤ k
  · by_cases h2 : k ≤ 255
    · by_cases h3 : n ≤ 1048576
      · rw [decide_eq_true ⟨h1, h2, h3⟩]
        have h3' : (n : Int) ≤ 1048576 := by omega
        go_enter Try.func34, Try.ntmps34
        go_wp2
        go_ret
        exact ⟨rfl, hB.out⟩
      · rw [decide_eq_false (by omega)]
        have h3' : ¬ (n : Int) ≤ 1048576 := by omega
        go_enter Try.func34, Try.ntmps34
        go_wp2
        go_ret
        exact ⟨rfl, hB.out⟩
    · rw [decide_eq_false (by omega)]
      go_enter Try.func34, Try.ntmps34
      go_wp2
      go_ret
      exact ⟨rfl, hB.out⟩
  · rw [decide_eq_false (by omega)]
    go_enter Try.func34, Try.ntmps34
    go_wp2
    go_ret
    exact ⟨rfl, hB.out⟩
theorem is_true (k : Int) (A : Option Addr) (n c : Nat) (A2 : Option Addr) (n2 c2 : Nat) (l : List Int) (w : World) (HR : Rd w (.slice A n c) l) (HS : Rd w (.slice A2 n2 c2) l) :
    Calls Try.prog 35 #[.agg #[.int .i64 k, .slice A n c], .agg #[.int .i64 k, .slice A2 n2 c2]] w fun e w' => e = .returned (.bool true) ∧ Below w.heap.size w w' := by
  have hB := al1 (al1 (Below.refl w.heap.size w) (.cells #[.int .i64 k, .slice A n c] 28)) (.cells #[.int .i64 k, .slice A2 n2 c2] 28)
  have h1 := (HR.keep hB).str (P := Try.prog) 24 5 9 Try.underlying24 Try.underlying5 Try.underlying9
  have h2 := (HS.keep hB).str (P := Try.prog) 24 5 9 Try.underlying24 Try.underlying5 Try.underlying9
  have h3 : ((strOfNums l).toList == (strOfNums l).toList) = true := beq_self_eq_true _
  have HB := hd_ hB
  clear hB
  go_enter Try.func35, Try.ntmps35
  go_wp2
  go_ret
  exact ⟨rfl, HB.out⟩
set_option maxHeartbeats 2000000 in
theorem law_FrameRound (w : World) (cs : Array Value) (hs : cs.size = 2) (x : Int × List Int × Unit) (r : RFrame w cs.toList x) (v2 : Value) (m : List Int) (HR2 : Rd w v2 m) (hl2 : m.length ≤ 140737488351232) :
    Calls Try.prog 8 #[.agg cs, v2] w fun e w' => e = .returned (.bool true) ∧ Below w.heap.size w w' := by
  obtain ⟨k, A, c, body, rfl, hk, hR, hl⟩ := frame_of hs r
  clear r hs x
  obtain ⟨k0, k1⟩ := wf_i64 hk
  clear hk
  have hb63 := hR.lt63
  have q0 : (w.alloc (.cells #[.int .i64 k, .slice A body.length c] 28)).cell? ⟨w.heap.size, 0, none⟩ = some (.int .i64 k) := World.cell?_alloc_at _ _ _ 0 rfl
  have q1 : (w.alloc (.cells #[.int .i64 k, .slice A body.length c] 28)).cell? ⟨w.heap.size, 1, none⟩ = some (.slice A body.length c) := World.cell?_alloc_at _ _ _ 1 rfl
  have hB := al1 (Below.refl w.heap.size w) (.cells #[.int .i64 k, .slice A body.length c] 28)
  go_enter Try.func8, Try.ntmps8
  go_upto_region 1 with fail
  generalize w.alloc (.cells #[.int .i64 k, .slice A body.length c] 28) = W0 at *
  have hR0 := hR.keep hB
  go_wp2_with fail
  refine (frame_Encode_any k _ body _ hR0).mono ?_
  rintro e w1 ⟨v1, rfl, HO1, HB1⟩
  obtain ⟨A1, c1, rfl, _⟩ := own_slice HO1
  have r0 := cell_keep HB1 q0
  have r1 := cell_keep HB1 q1
  have hB1 := bel_trans hB HB1
  by_cases hm : 1 ≤ k ∧ k ≤ 255 ∧ body.length ≤ 1048576
  · have e1 : encE k body = 0 := by unfold encE; rw [if_neg (by omega), if_neg (by omega)]
    have e2 : encL k body = encB k body := by unfold encL; rw [if_neg (by omega), if_neg (by omega)]
    obtain ⟨d1, d2, d3, d4⟩ := dec_enc k body m hm.1 hm.2.2
    obtain ⟨o1, o2, o3⟩ := one_enc k body hm.1 hm.2.2
    have hL := encB_length k body
    rw [e1, e2]
    rw [e2] at HO1
    rw [hL] at HO1 ⊢
    have hBL := hd_ hL
    clear hL e1 e2
    generalize encB k body = B at *
    go_upto_region 6 with (go_at_call 34; refine (may_any k A body.length c hb63 _).mono ?_; rintro e w2 ⟨rfl, HB2⟩; rw [decide_eq_true hm]; have s1 := cell_keep HB2 r1; have s0 := cell_keep HB2 r0)
    have hRB := HO1.rd.keep HB2
    have hB2 := bel_trans hB1 HB2
    have hRM := HR2.keep hB2
    have hL1 : Hid (([] : List Int).length + B.length ≤ 140737488355328) := hd_ (by rw [List.length_nil, hBL.out]; omega)
    have hL2 : Hid (B.length + m.length ≤ 220000000000000) := hd_ (by rw [hBL.out]; omega)
    clear hBL
    go_wp2_with (first
      | (at_builtin; (refine app_bytes (w0 := w2) w2.heap.size rfl _ _ 24 5 rfl Try.underlying24 info8 (.slice none 0 0) _ [] B rfl rfl (own_nil8 _ _ _) hRB (Below.refl _ _) (Nat.le_refl _) hL1.out ?_); intro v3 w3 HO3 HB3 hg3 hat3; rw [List.nil_append] at HO3)
      | (at_builtin; (refine app_wide (w0 := w2) w2.heap.size rfl _ _ 24 5 rfl Try.underlying24 info8 v3 _ B m rfl rfl HO3 (hRM.keep HB3) HB3 HB3.size hL2.out ?_); intro v4 w4 HO4 HB4 hg4))
    refine (frame_Decode_any _ _ _ HO4.rd).mono ?_
    rintro e w5 ⟨v5, rfl, HO5, HB5⟩
    rw [d1, d2, d3]
    rw [d4] at HO5
    obtain ⟨A5, c5, rfl, _⟩ := own_slice HO5
    have hB5 := bel_trans (bel_trans hB2 HB4) HB5
    have s05 := cell_keep (bel_trans HB4 HB5) s0
    have s15 := cell_keep (bel_trans HB4 HB5) s1
    have hBX := al1 (Below.refl w5.heap.size w5) (.cells #[.int .i64 k, .slice A5 body.length c5] 28)
    have t0 : (w5.alloc (.cells #[.int .i64 k, .slice A5 body.length c5] 28)).cell? ⟨w5.heap.size, 0, none⟩ = some (.int .i64 k) := World.cell?_alloc_at _ _ _ 0 rfl
    have t1 : (w5.alloc (.cells #[.int .i64 k, .slice A5 body.length c5] 28)).cell? ⟨w5.heap.size, 1, none⟩ = some (.slice A5 body.length c5) := World.cell?_alloc_at _ _ _ 1 rfl
    have R5 := HO5.rd.keep hBX
    have hRB5 := hRB.keep (bel_trans HB4 (bel_trans HB5 hBX))
    have s06 := cell_keep hBX s05
    have s16 := cell_keep hBX s15
    have hB6 := bel_trans hB5 hBX
    clear d1 d2 d3 d4 hL1 hL2 HO3 HB3 hg3 hat3 HO4 hg4 hRM
    go_upto_region 7 with fail
    generalize w5.alloc (.cells #[.int .i64 k, .slice A5 body.length c5] 28) = W6 at *
    go_wp2_with fail
    refine (frame_One_any _ _ _ hRB5).mono ?_
    rintro e w7 ⟨v7, rfl, HO7, HB7⟩
    rw [o1, o2]
    rw [o3] at HO7
    obtain ⟨A7, c7, rfl, _⟩ := own_slice HO7
    have t07 := cell_keep HB7 t0
    have t17 := cell_keep HB7 t1
    have s07 := cell_keep HB7 s06
    have s17 := cell_keep HB7 s16
    have hB7 := bel_trans hB6 HB7
    have hBY := al1 (Below.refl w7.heap.size w7) (.cells #[.int .i64 k, .slice A7 body.length c7] 28)
    have u0 : (w7.alloc (.cells #[.int .i64 k, .slice A7 body.length c7] 28)).cell? ⟨w7.heap.size, 0, none⟩ = some (.int .i64 k) := World.cell?_alloc_at _ _ _ 0 rfl
    have u1 : (w7.alloc (.cells #[.int .i64 k, .slice A7 body.length c7] 28)).cell? ⟨w7.heap.size, 1, none⟩ = some (.slice A7 body.length c7) := World.cell?_alloc_at _ _ _ 1 rfl
    have R7 := HO7.rd.keep hBY
    have R57 := R5.keep (bel_trans HB7 hBY)
    have t08 := cell_keep hBY t07
    have t18 := cell_keep hBY t17
    have s08 := cell_keep hBY s07
    have s18 := cell_keep hBY s17
    have hB8 := bel_trans hB7 hBY
    have RV := hR.keep hB8
    clear o1 o2 o3 HO7 HO5 R5 hRB hRB5 HO1
    go_upto_region 8 with fail
    generalize w7.alloc (.cells #[.int .i64 k, .slice A7 body.length c7] 28) = W8 at *
    go_wp2_with fail
    refine (is_true k A body.length c A5 body.length c5 body _ RV R57).mono ?_
    rintro e w9 ⟨rfl, HB9⟩
    have u09 := cell_keep HB9 u0
    have u19 := cell_keep HB9 u1
    have s09 := cell_keep HB9 s08
    have s19 := cell_keep HB9 s18
    go_wp2_with fail
    refine (is_true k A body.length c A7 body.length c7 body _ (RV.keep HB9) (R7.keep HB9)).mono ?_
    rintro e w10 ⟨rfl, HB10⟩
    go_wp2
    go_ret
    exact ⟨rfl, bel_trans hB8 (bel_trans HB9 HB10)⟩
  · have e1 : (encE k body != 0) = true := by
      unfold encE
      by_cases h1 : k < 1 ∨ 255 < k
      · rw [if_pos h1]; rfl
      · rw [if_neg h1, if_pos (by omega)]; rfl
    have e2 : encL k body = [] := by
      unfold encL
      by_cases h1 : k < 1 ∨ 255 < k
      · rw [if_pos h1]
      · rw [if_neg h1, if_pos (by omega)]
    rw [e2]
    generalize encE k body = E at *
    go_wp2_with (go_at_call 34; refine (may_any k A body.length c hb63 _).mono ?_; rintro e w2 ⟨rfl, HB2⟩; rw [decide_eq_false hm])
    go_ret
    exact ⟨rfl, bel_trans hB1 HB2⟩
end Go.Proofs.Ytilmmohkdgmhnaa
