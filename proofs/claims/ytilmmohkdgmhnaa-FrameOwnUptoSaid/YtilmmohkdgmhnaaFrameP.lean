import Derived.Test.YtilmmohkdgmhnaaFrameO
namespace Go.Proofs.Ytilmmohkdgmhnaa
open Go.RowKit
set_option maxRecDepth 100000
set_option linter.unusedVariables false
set_option maxHeartbeats 2000000 in
theorem law_FrameCanon (w : World) (v : Value) (l : List Int) (HR : Rd w v l) (hl : l.length ≤ 140737488351232) (q : Int) (hq : (Lit.int .u64 q).wf = true) :
    Calls Try.prog 9 #[v, .int .u64 q] w fun e w' => e = .returned (.bool true) ∧ Below w.heap.size w w' := by
  obtain ⟨Q, rfl, hQ⟩ := wf_u64 hq
  clear hq
  have hlen := HR.2.len (P := Try.prog) 24 5 3 Try.underlying24
  have hlt := HR.lt63
  go_enter Try.func9, Try.ntmps9
  go_wp2_with fail
  refine (frame_Decode_any _ _ _ HR).mono ?_
  rintro e w1 ⟨v1, rfl, HO1, HB1⟩
  obtain ⟨A1, c1, rfl, _⟩ := own_slice HO1
  by_cases hE : decE l = 0
  · obtain ⟨k1, k2, N, hN, hbl, hN1, hN2, henc⟩ := enc_dec HR.1 hE
    obtain ⟨mm, hmm⟩ : ∃ mm, mm = Q % (N + 14) := ⟨_, rfl⟩
    have hmlt : mm < N + 14 := by rw [hmm]; exact Nat.mod_lt _ (by omega)
    have hsh := dec_short HR.1 hE (m := mm) (by rw [hN]; omega)
    obtain ⟨z1, z2, z3⟩ := dec_bad hsh (by decide)
    obtain ⟨u1, hs1, hR1⟩ := HR.sl_hk Try.underlying24 info8 .u64 mm (by omega)
    obtain ⟨u2, hs2, hR2⟩ := HR.sl_h Try.underlying24 info8 (N + 14) hN2
    have eq1 : (mm : Int) = (Q : Int) % ((N : Int) + 14) := by rw [hmm]; exact Int.natCast_emod Q (N + 14)
    have hs1 : ∀ (W : World), Sem.run Try.prog (Instr.slice 24 v none (some (Value.int IntKind.u64 ((Q : Int) % ((N : Int) + 14)))) none) W = Result.ok u1 W := by rw [← eq1]; exact hs1
    have hs2 : ∀ (W : World), Sem.run Try.prog (Instr.slice 24 v none (some (Value.int IntKind.i64 ((N : Int) + 14))) none) W = Result.ok u2 W := hs2
    have eE : encE (decK l) (decBody l) = 0 := by unfold encE; rw [if_neg (by omega), if_neg (by omega)]
    have eL : encL (decK l) (decBody l) = l.take (N + 14) := by unfold encL; rw [if_neg (by omega), if_neg (by omega)]; exact henc
    rw [hE, hN, hbl]
    rw [hbl] at HO1
    have hNl : (N : Int) + 14 ≤ (l.length : Int) := by omega
    clear eq1 henc hmlt hmm
    obtain ⟨K, hK⟩ : ∃ K, decK l = K := ⟨_, rfl⟩
    obtain ⟨T, hT⟩ : ∃ T, decBody l = T := ⟨_, rfl⟩
    rw [hK, hT] at eE eL
    rw [hT] at HO1
    rw [hK]
    clear hK hT hbl
    have hBX := al1 (Below.refl w1.heap.size w1) (.cells #[.int .i64 K, .slice A1 N c1] 28)
    have t0 : (w1.alloc (.cells #[.int .i64 K, .slice A1 N c1] 28)).cell? ⟨w1.heap.size, 0, none⟩ = some (.int .i64 K) := World.cell?_alloc_at _ _ _ 0 rfl
    have t1 : (w1.alloc (.cells #[.int .i64 K, .slice A1 N c1] 28)).cell? ⟨w1.heap.size, 1, none⟩ = some (.slice A1 N c1) := World.cell?_alloc_at _ _ _ 1 rfl
    have hB2 := bel_trans HB1 hBX
    have R1 := HO1.rd.keep hBX
    go_upto_region 2 with fail
    generalize w1.alloc (.cells #[.int .i64 K, .slice A1 N c1] 28) = W2 at *
    go_wp2_with fail
    refine (frame_Encode_any K _ T _ R1).mono ?_
    rintro e w3 ⟨v3, rfl, HO3, HB3⟩
    rw [eE]
    rw [eL] at HO3
    have hB3 := bel_trans hB2 HB3
    go_wp2_with fail
    refine (frame_Decode_any _ _ _ (hR1.keep hB3)).mono ?_
    rintro e w4 ⟨v4, rfl, HO4, HB4⟩
    obtain ⟨A4, c4, rfl, _⟩ := own_slice HO4
    rw [hsh]
    rw [z1, z2]
    rw [z3] at HO4
    have hB4 := bel_trans hB3 HB4
    have hBY := al1 (Below.refl w4.heap.size w4) (.cells #[.int .i64 0, .slice A4 (decBody (l.take mm)).length c4] 28)
    have hBZ := bel_trans hB4 hBY
    have R3 := HO3.rd.keep (bel_trans HB4 hBY)
    have R2 := hR2.keep hBZ
    have heq : ((strOfNums (l.take (N + 14))).toList == (strOfNums (l.take (N + 14))).toList) = true := beq_self_eq_true _
    generalize (decBody (l.take mm)).length = nb at *
    clear HO1 HO3 HO4 R1 hR1 hR2 z1 z2 z3 eE eL hsh
    go_upto_region 11 with fail
    generalize w4.alloc (.cells #[.int .i64 0, .slice A4 nb c4] 28) = W4 at *
    have str1 := fun n : Nat => (R3.keep (below_drewN (Below.refl _ _) n)).str (P := Try.prog) 24 5 9 Try.underlying24 Try.underlying5 Try.underlying9
    have str2 := fun n : Nat => (R2.keep (below_drewN (Below.refl _ _) n)).str (P := Try.prog) 24 5 9 Try.underlying24 Try.underlying5 Try.underlying9
    clear R2 R3
    generalize strOfNums (l.take (N + 14)) = S at *
    go_quiet (fail)
    go_wp2
    go_ret
    exact ⟨rfl, below_drewN hBZ _⟩
  · obtain ⟨z1, z2, z3⟩ := dec_bad rfl hE
    have hne : (decE l != 0) = true := by simpa using hE
    rw [z1, z2, z3]
    rw [z3] at HO1
    have HE := hd_ hE
    clear hE z1 z2 z3
    generalize decE l = E at *
    have hBX := al1 (Below.refl w1.heap.size w1) (.cells #[.int .i64 0, .slice A1 0 c1] 28)
    have t0 : (w1.alloc (.cells #[.int .i64 0, .slice A1 0 c1] 28)).cell? ⟨w1.heap.size, 0, none⟩ = some (.int .i64 0) := World.cell?_alloc_at _ _ _ 0 rfl
    have t1 : (w1.alloc (.cells #[.int .i64 0, .slice A1 0 c1] 28)).cell? ⟨w1.heap.size, 1, none⟩ = some (.slice A1 0 c1) := World.cell?_alloc_at _ _ _ 1 rfl
    have hB2 := bel_trans HB1 hBX
    go_upto_region 2 with fail
    change Code.wp _ _ _ _ (w1.alloc (.cells #[.int .i64 0, .slice A1 0 c1] 28))
    generalize w1.alloc (.cells #[.int .i64 0, .slice A1 0 c1] 28) = W2 at *
    obtain ⟨o1, o2, o3⟩ := one_enc 9 [1] (by decide) (by decide)
    have eE : encE 9 [1] = 0 := by decide
    have eL : encL 9 [1] = encB 9 [1] := by unfold encL; rw [if_neg (by decide), if_neg (by decide)]
    generalize encB 9 [1] = B at *
    go_wp2_with fail
    refine (frame_Encode_any 9 _ [1] _ (rd_new [1] rfl rfl (by intro b hb; simp at hb; omega) (by decide))).mono ?_
    rintro e w3 ⟨v3, rfl, HO3, HB3⟩
    rw [eE]
    rw [eL] at HO3
    have hBW := bel_trans (al1 (Below.refl W2.heap.size W2) (.cells #[.int .u8 1] 5)) HB3
    have t03 := cell_keep hBW t0
    have t13 := cell_keep hBW t1
    have hB3 := bel_trans hB2 hBW
    go_wp2_with fail
    refine (frame_One_any _ _ _ HO3.rd).mono ?_
    rintro e w4 ⟨v4, rfl, HO4, HB4⟩
    rw [o1, o2]
    obtain ⟨A4, c4, rfl, _⟩ := own_slice HO4
    rw [o3]
    have t04 := cell_keep HB4 t03
    have t14 := cell_keep HB4 t13
    have hB4 := bel_trans hB3 HB4
    have hBY := al1 (Below.refl w4.heap.size w4) (.cells #[.int .i64 9, .slice A4 1 c4] 28)
    have t05 := cell_keep hBY t04
    have t15 := cell_keep hBY t14
    have u0 : (w4.alloc (.cells #[.int .i64 9, .slice A4 1 c4] 28)).cell? ⟨w4.heap.size, 0, none⟩ = some (.int .i64 9) := World.cell?_alloc_at _ _ _ 0 rfl
    go_upto_region 5 with fail
    change Code.wp _ _ _ _ (w4.alloc (.cells #[.int .i64 9, .slice A4 1 c4] 28))
    generalize w4.alloc (.cells #[.int .i64 9, .slice A4 1 c4] 28) = W5 at *
    go_wp2
    go_ret
    exact ⟨rfl, bel_trans hB4 hBY⟩
end Go.Proofs.Ytilmmohkdgmhnaa
