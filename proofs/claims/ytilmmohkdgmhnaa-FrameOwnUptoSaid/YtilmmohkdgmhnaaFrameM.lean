import Derived.Test.YtilmmohkdgmhnaaFrameK
namespace Go.Proofs.Ytilmmohkdgmhnaa
open Go.RowKit
set_option maxRecDepth 100000
set_option linter.unusedVariables false
set_option maxHeartbeats 1000000 in
theorem ref_One_any (v : Value) (l : List Int) (w : World) (HR : Rd w v l) :
    Calls Try.prog 33 #[v] w (OneRet w l) := by
  have hlen := HR.2.len (P := Try.prog) 24 5 3 Try.underlying24
  have hbx := Box.new w #[.int .i64 0, .slice none 0 0] 33
  have hB0 := al1 (Below.refl w.heap.size w) (.cells #[.int .i64 0, .slice none 0 0] 33)
  have hsz : w.heap.size < (w.alloc (.cells #[.int .i64 0, .slice none 0 0] 33)).heap.size := by simp
  have hR0 := HR.keep hB0
  go_enter Try.func33, Try.ntmps33
  go_upto_region 1 with fail
  generalize w.alloc (.cells #[.int .i64 0, .slice none 0 0] 33) = W0 at *
  have HSZ := hd_ hsz
  clear hsz
  go_wp2_with fail
  refine (ref_Decode_any _ _ _ hR0).mono ?_
  rintro e w1 ⟨vb, rfl, HO1, HB1⟩
  have hb1 := hbx.keep HB1
  have hB1 := bel_trans hB0 HB1
  obtain ⟨A, c, rfl, hA⟩ := own_slice HO1
  have HA := hd_ (hA _ HSZ.out)
  clear hA
  by_cases hE : decE l = 0
  · by_cases hN : decN l = (l.length : Int)
    · have h1 : oneE l = 0 := by unfold oneE; rw [if_neg (by rw [hE]; simp), if_neg (by rw [hN]; simp)]
      have H1 := hd_ h1
      clear h1
      rw [hE, hN]
      clear hE hN
      obtain ⟨K, hK⟩ : ∃ K, decK l = K := ⟨_, rfl⟩
      obtain ⟨T, hT⟩ : ∃ T, decBody l = T := ⟨_, rfl⟩
      rw [hT] at HO1 HA
      rw [hK, hT]
      have HK := hd_ hK
      have HT := hd_ hT
      clear hK hT
      have hB2 := al1 (Below.refl w1.heap.size w1) (.cells #[.int .i64 K, .slice A T.length c] 33)
      have hb2 := hb1.keep hB2
      have HO2 := HO1.keep hB2
      go_wp2_with (refine store_box rfl 33 _ _ rfl w.heap.size 33 _ #[.int .i64 K, .slice A T.length c] rfl rfl hb2 infoG rfl (one2 _ _ _ _ _) ?_; intro w9 hb9 hg9)
      exact bodyPost_ret (results_cell2 rfl _ _ _ rfl (run_load_box _ _ _ _ _ hb9 Try.underlying33 rfl infoG)) rfl (one_ret_ok H1.out HK.out HT.out rfl (own_base (HO2.kept hg9 (.inr HA.out)) hB0.size) (below_row (bel_trans hB1 hB2) hg9 (Nat.le_refl _) (bel_trans hB1 hB2).size))
    · have h1 : oneE l = 45 := by unfold oneE; rw [if_neg (by rw [hE]; simp), if_pos hN]
      rw [hE]
      generalize decK l = K at *
      generalize decBody l = T at *
      have hN2 : (decN l != (l.length : Int)) = true := by simpa using hN
      generalize decN l = D at *
      have hB2 := al1 (Below.refl w1.heap.size w1) (.cells #[.int .i64 K, .slice A T.length c] 33)
      have hb2 := hb1.keep hB2
      have H1 := hd_ h1
      clear h1 hE
      go_wp2_with (refine store_box rfl 33 _ _ rfl w.heap.size 33 _ #[.int .i64 0, .slice none 0 0] rfl rfl hb2 infoG rfl (one2 _ _ _ _ _) ?_; intro w9 hb9 hg9)
      exact bodyPost_ret (results_cell2 rfl _ _ _ rfl (run_load_box _ _ _ _ _ hb9 Try.underlying33 rfl infoG)) rfl (one_ret_bad H1.out (by decide) rfl (below_row (bel_trans hB1 hB2) hg9 (Nat.le_refl _) (bel_trans hB1 hB2).size))
  · have h1 : oneE l = decE l := by unfold oneE; rw [if_pos hE]
    generalize decK l = K at *
    generalize decBody l = T at *
    have hE2 : (decE l != 0) = true := by simpa using hE
    have H1 := hd_ h1
    have HE := hd_ hE
    clear h1
    generalize decN l = D at *
    generalize decE l = E at *
    have hB2 := al1 (Below.refl w1.heap.size w1) (.cells #[.int .i64 K, .slice A T.length c] 33)
    have hb2 := hb1.keep hB2
    go_wp2_with (refine store_box rfl 33 _ _ rfl w.heap.size 33 _ #[.int .i64 0, .slice none 0 0] rfl rfl hb2 infoG rfl (one2 _ _ _ _ _) ?_; intro w9 hb9 hg9)
    exact bodyPost_ret (results_cell2 rfl _ _ _ rfl (run_load_box _ _ _ _ _ hb9 Try.underlying33 rfl infoG)) rfl (one_ret_bad H1.out HE.out rfl (below_row (bel_trans hB1 hB2) hg9 (Nat.le_refl _) (bel_trans hB1 hB2).size))
set_option maxHeartbeats 1000000 in
theorem law_FrameDecodes (w : World) (v : Value) (l : List Int) (HR : Rd w v l) (hl : l.length ≤ 140737488351232) :
    Calls Try.prog 5 #[v] w fun e w' => e = .returned (.bool true) ∧ Below w.heap.size w w' := by
  go_enter Try.func5, Try.ntmps5
  go_wp2_with fail
  refine (roomy_any _ l _ HR hl).mono ?_
  rintro e w1 ⟨g, cap, rfl, HO1, HB1⟩
  have HS1 := HO1.rd
  have HF1 := HS1.front (by rw [List.length_append]; rfl)
  go_wp2_with fail
  refine (frame_Decode_any _ _ _ HF1).mono ?_
  rintro e w2 ⟨vb, rfl, HO2, HB2⟩
  obtain ⟨A2, c2, rfl, _⟩ := own_slice HO2
  obtain ⟨K, hK⟩ : ∃ K, decK l = K := ⟨_, rfl⟩
  obtain ⟨N, hN⟩ : ∃ N, decN l = N := ⟨_, rfl⟩
  obtain ⟨E, hE⟩ : ∃ E, decE l = E := ⟨_, rfl⟩
  obtain ⟨T, hT⟩ : ∃ T, decBody l = T := ⟨_, rfl⟩
  rw [hT] at HO2
  rw [hK, hN, hE, hT]
  have HK := hd_ hK
  have HN := hd_ hN
  have HE := hd_ hE
  have HT := hd_ hT
  clear hK hN hE hT
  have hBX := al1 (Below.refl w2.heap.size w2) (.cells #[.int .i64 K, .slice A2 T.length c2] 28)
  have q0 : (w2.alloc (.cells #[.int .i64 K, .slice A2 T.length c2] 28)).cell? ⟨w2.heap.size, 0, none⟩ = some (.int .i64 K) := World.cell?_alloc_at _ _ _ 0 rfl
  have q1 : (w2.alloc (.cells #[.int .i64 K, .slice A2 T.length c2] 28)).cell? ⟨w2.heap.size, 1, none⟩ = some (.slice A2 T.length c2) := World.cell?_alloc_at _ _ _ 1 rfl
  have hB2 := bel_trans HB1 HB2
  go_upto_region 3 with fail
  generalize w2.alloc (.cells #[.int .i64 K, .slice A2 T.length c2] 28) = W2 at *
  have hW2 := bel_trans hB2 hBX
  go_wp2_with fail
  refine (ref_Decode_any _ _ _ (HR.keep hW2)).mono ?_
  rintro e w3 ⟨vb3, rfl, HO3, HB3⟩
  obtain ⟨A3, c3, rfl, _⟩ := own_slice HO3
  rw [HT.out] at HO3
  rw [HK.out, HN.out, HE.out, HT.out]
  have q03 := cell_keep HB3 q0
  have q13 := cell_keep HB3 q1
  have hW3 := bel_trans hW2 HB3
  have hBY := al1 (Below.refl w3.heap.size w3) (.cells #[.int .i64 K, .slice A3 T.length c3] 33)
  have q04 := cell_keep hBY q03
  have q14 := cell_keep hBY q13
  have r0 : (w3.alloc (.cells #[.int .i64 K, .slice A3 T.length c3] 33)).cell? ⟨w3.heap.size, 0, none⟩ = some (.int .i64 K) := World.cell?_alloc_at _ _ _ 0 rfl
  have r1 : (w3.alloc (.cells #[.int .i64 K, .slice A3 T.length c3] 33)).cell? ⟨w3.heap.size, 1, none⟩ = some (.slice A3 T.length c3) := World.cell?_alloc_at _ _ _ 1 rfl
  go_upto_region 4 with fail
  generalize w3.alloc (.cells #[.int .i64 K, .slice A3 T.length c3] 33) = W3 at *
  have hX3 := bel_trans HB3 hBY
  have R2 := HO2.rd.keep (bel_trans hBX hX3)
  have R3 := HO3.rd.keep hBY
  have RS := HS1.keep (bel_trans HB2 (bel_trans hBX hX3))
  have RV := HR.keep (bel_trans hW2 hX3)
  have hB4 := bel_trans hW2 hX3
  clear HO2 HO3 HO1 HF1 HS1 hBX hBY q0 q1 q03 q13
  go_wp2_with (first
    | (go_at_call 17; refine (frame_num_any _ _).mono ?_; rintro e w' ⟨rfl, rfl⟩)
    | (go_at_call 25; refine (frame_same_true K A2 T.length c2 A3 T.length c3 T _ R2 R3).mono ?_; rintro e w5 ⟨rfl, HB5⟩; have RS5 := RS.keep HB5; have RV5 := RV.keep HB5; have hB5 := bel_trans hB4 HB5)
    | (go_at_call 22; refine (kept_any _ l g cap _ RV5 RS5).mono ?_; rintro e w' ⟨rfl, rfl⟩))
  go_ret
  exact ⟨rfl, hB5⟩
set_option maxHeartbeats 1000000 in
theorem law_FrameOnes (w : World) (v : Value) (l : List Int) (HR : Rd w v l) (hl : l.length ≤ 140737488351232) :
    Calls Try.prog 7 #[v] w fun e w' => e = .returned (.bool true) ∧ Below w.heap.size w w' := by
  go_enter Try.func7, Try.ntmps7
  go_wp2_with fail
  refine (roomy_any _ l _ HR hl).mono ?_
  rintro e w1 ⟨g, cap, rfl, HO1, HB1⟩
  have HS1 := HO1.rd
  have HF1 := HS1.front (by rw [List.length_append]; rfl)
  go_wp2_with fail
  refine (frame_One_any _ _ _ HF1).mono ?_
  rintro e w2 ⟨vb, rfl, HO2, HB2⟩
  obtain ⟨A2, c2, rfl, _⟩ := own_slice HO2
  obtain ⟨K, hK⟩ : ∃ K, oneK l = K := ⟨_, rfl⟩
  obtain ⟨E, hE⟩ : ∃ E, oneE l = E := ⟨_, rfl⟩
  obtain ⟨T, hT⟩ : ∃ T, oneBody l = T := ⟨_, rfl⟩
  rw [hT] at HO2
  rw [hK, hE, hT]
  have HK := hd_ hK
  have HE := hd_ hE
  have HT := hd_ hT
  clear hK hE hT
  have hBX := al1 (Below.refl w2.heap.size w2) (.cells #[.int .i64 K, .slice A2 T.length c2] 28)
  have q0 : (w2.alloc (.cells #[.int .i64 K, .slice A2 T.length c2] 28)).cell? ⟨w2.heap.size, 0, none⟩ = some (.int .i64 K) := World.cell?_alloc_at _ _ _ 0 rfl
  have q1 : (w2.alloc (.cells #[.int .i64 K, .slice A2 T.length c2] 28)).cell? ⟨w2.heap.size, 1, none⟩ = some (.slice A2 T.length c2) := World.cell?_alloc_at _ _ _ 1 rfl
  have hB2 := bel_trans HB1 HB2
  go_upto_region 3 with fail
  generalize w2.alloc (.cells #[.int .i64 K, .slice A2 T.length c2] 28) = W2 at *
  have hW2 := bel_trans hB2 hBX
  go_wp2_with fail
  refine (ref_One_any _ _ _ (HR.keep hW2)).mono ?_
  rintro e w3 ⟨vb3, rfl, HO3, HB3⟩
  obtain ⟨A3, c3, rfl, _⟩ := own_slice HO3
  rw [HT.out] at HO3
  rw [HK.out, HE.out, HT.out]
  have q03 := cell_keep HB3 q0
  have q13 := cell_keep HB3 q1
  have hW3 := bel_trans hW2 HB3
  have hBY := al1 (Below.refl w3.heap.size w3) (.cells #[.int .i64 K, .slice A3 T.length c3] 33)
  have q04 := cell_keep hBY q03
  have q14 := cell_keep hBY q13
  have r0 : (w3.alloc (.cells #[.int .i64 K, .slice A3 T.length c3] 33)).cell? ⟨w3.heap.size, 0, none⟩ = some (.int .i64 K) := World.cell?_alloc_at _ _ _ 0 rfl
  have r1 : (w3.alloc (.cells #[.int .i64 K, .slice A3 T.length c3] 33)).cell? ⟨w3.heap.size, 1, none⟩ = some (.slice A3 T.length c3) := World.cell?_alloc_at _ _ _ 1 rfl
  go_upto_region 4 with fail
  generalize w3.alloc (.cells #[.int .i64 K, .slice A3 T.length c3] 33) = W3 at *
  have hX3 := bel_trans HB3 hBY
  have R2 := HO2.rd.keep (bel_trans hBX hX3)
  have R3 := HO3.rd.keep hBY
  have RS := HS1.keep (bel_trans HB2 (bel_trans hBX hX3))
  have RV := HR.keep (bel_trans hW2 hX3)
  have hB4 := bel_trans hW2 hX3
  clear HO2 HO3 HO1 HF1 HS1 hBX hBY q0 q1 q03 q13
  go_wp2_with (first
    | (go_at_call 17; refine (frame_num_any _ _).mono ?_; rintro e w' ⟨rfl, rfl⟩)
    | (go_at_call 25; refine (frame_same_true K A2 T.length c2 A3 T.length c3 T _ R2 R3).mono ?_; rintro e w5 ⟨rfl, HB5⟩; have RS5 := RS.keep HB5; have RV5 := RV.keep HB5; have hB5 := bel_trans hB4 HB5)
    | (go_at_call 22; refine (kept_any _ l g cap _ RV5 RS5).mono ?_; rintro e w' ⟨rfl, rfl⟩))
  go_ret
  exact ⟨rfl, hB5⟩
end Go.Proofs.Ytilmmohkdgmhnaa
