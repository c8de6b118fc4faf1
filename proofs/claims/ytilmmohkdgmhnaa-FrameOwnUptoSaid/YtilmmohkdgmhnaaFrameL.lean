import Derived.Test.YtilmmohkdgmhnaaFrameJ
namespace Go.Proofs.Ytilmmohkdgmhnaa
open Go.RowKit
set_option maxRecDepth 100000
set_option linter.unusedVariables false
theorem own_slice {W : World} {base : Nat} {e : TypeId} {v : Value} {xs : List Int} (h : Own W base e v xs) : ∃ A c, v = .slice A xs.length c ∧ ∀ g, g < base → (Value.slice A xs.length c).ownBlock ≠ some g := by
  rcases h.2.2 with ⟨rfl, h0⟩ | ⟨g', cap, cur, rfl, hb, _⟩
  · rw [h0]; exact ⟨none, 0, rfl, fun g _ h => by simp [Value.ownBlock] at h⟩
  · exact ⟨_, cap, rfl, fun g hg h => by simp [Value.ownBlock] at h; omega⟩
set_option maxHeartbeats 800000 in
theorem ref_Decode_ok (v : Value) (l : List Int) (w : World) (HR : Rd w v l) (N : Nat) (hN : lenN l = N) (hF : frontB l = true) (h10' : 10 ≤ l.length) (hHt : headB l = true) (hLn : N ≤ 1048576) (hSn : N + 14 ≤ l.length) (hWt : holdsB (l.take (N + 14)) = true) :
    Calls Try.prog 24 #[v] w fun e w' => ∃ vb, e = .returned (.tuple #[.agg #[.int .i64 (l.getD 2 0), vb], .int .i64 ((N : Int) + 14), .int .i64 0]) ∧ Own w' w.heap.size 5 vb ((l.drop 10).take N) ∧ Below w.heap.size w w' := by
  have hlen := HR.2.len (P := Try.prog) 24 5 3 Try.underlying24
  have hbx := Box.new w #[.int .i64 0, .slice none 0 0] 33
  have hB0 := al1 (Below.refl w.heap.size w) (.cells #[.int .i64 0, .slice none 0 0] 33)
  have hR0 := HR.keep hB0
  have hlt := HR.lt63
  have hL : (N : Int) ≤ 1048576 := by omega
  have hS : (N : Int) + 14 ≤ (l.length : Int) := by omega
  obtain ⟨u1, hs1, hR1⟩ := HR.sl_h Try.underlying24 info8 (N + 14) hSn
  have hs1 : ∀ (W : World), Sem.run Try.prog (Instr.slice 24 v none (some (Value.int IntKind.i64 ((N : Int) + 14))) none) W = Result.ok u1 W := hs1
  obtain ⟨u2, hs2, hR2⟩ := HR.sl Try.underlying24 info8 10 (N + 10) (by omega) (by omega)
  have hs2 : ∀ (W : World), Sem.run Try.prog (Instr.slice 24 v (some (Value.int IntKind.i64 10)) (some (Value.int IntKind.i64 (10 + (N : Int)))) none) W = Result.ok u2 W := by
    have e : ((N + 10 : Nat) : Int) = 10 + (N : Int) := by omega
    rw [e] at hs2
    exact hs2
  have hTl : (l.take (N + 14)).length ≤ 281474976710656 := by rw [List.length_take]; omega
  have eT : (l.take (N + 10)).drop 10 = (l.drop 10).take N := by rw [List.drop_take]; congr 1
  rw [eT] at hR2
  clear eT
  obtain ⟨b2, o2, hat2, h2⟩ := HR.at Try.underlying24 info8 .i64 2 (by omega)
  have hat2 : ∀ W, Sem.run Try.prog (Instr.indexAt 24 v (Value.int IntKind.i64 2)) W = .ok (.pointer (some ⟨b2, o2, none⟩)) W := hat2
  obtain ⟨p2, q2⟩ := bytes_at HR.1 2
  generalize l.getD 2 0 = x2 at *
  have hTb : Hid (([] : List Int).length + ((l.drop 10).take N).length ≤ 140737488355328) := hd_ (by rw [List.length_take, List.length_nil]; omega)
  obtain ⟨T, hT⟩ : ∃ T, (l.drop 10).take N = T := ⟨_, rfl⟩
  rw [hT] at hR2 hTb ⊢
  clear hT
  have hsz : w.heap.size < (w.alloc (.cells #[.int .i64 0, .slice none 0 0] 33)).heap.size := by simp
  go_enter Try.func24, Try.ntmps24
  go_upto_region 1 with fail
  generalize w.alloc (.cells #[.int .i64 0, .slice none 0 0] 33) = W0 at *
  have HSZ := hd_ hsz
  have HTL := hd_ hTl
  clear hsz hTl
  go_upto_region 14 with (first
    | (go_at_call 53; refine (ref_front_any _ _ _ hR0).mono ?_; rintro e w' ⟨rfl, rfl⟩; rw [hF])
      | (go_at_call 54; refine (ref_length_any _ _ _ hR0 h10').mono ?_; rintro e w2 ⟨rfl, HB1⟩; rw [hHt, if_pos rfl, hN]; have hb2 := hbx.keep HB1; have hB2 := bel_trans hB0 HB1)
    | (go_at_call 55; refine (ref_Holds_any _ _ _ (hR1.keep hB2) HTL.out).mono ?_; rintro e w3 ⟨rfl, HB3⟩; rw [hWt]; have hb3 := hb2.keep HB3; have hB3 := bel_trans hB2 HB3))
  have k2 := cell_keep hB3 h2
  have wr1 : IntKind.i64.wrap (10 + (N : Int)) = 10 + (N : Int) := by rw [IntKind.wrap_i64]; omega
  have wr2 : IntKind.i64.wrap ((N : Int) + 14) = (N : Int) + 14 := by rw [IntKind.wrap_i64]; omega
  have wr3 : IntKind.i64.wrap x2 = x2 := by rw [IntKind.wrap_i64]; omega
  have f30 := hb3.cell 0 rfl
  have f31 := hb3.cell 1 rfl
  have z30 := hb3.frozen 0
  have z31 := hb3.frozen 1
  go_region_law (refine step_app_bytes (w0 := w3) w3.heap.size rfl _ _ 24 5 rfl Try.underlying24 info8 (.slice none 0 0) u2 [] T (by simp [Act.eval, Act.put]) (by simp [Act.eval, Act.put]) (own_nil8 _ _ _) (hR2.keep hB3.drew) (Below.refl _ _).drew (Nat.le_refl _) hTb.out ?_; intro v4 w4 HO4 HB4 hg4 hat4; rw [List.nil_append] at HO4; have j2 := cell_keep HB4 k2; have hb4 := hb3.keep HB4; have f40 := hb4.cell 0 rfl; have f41 := hb4.cell 1 rfl; have z40 := hb4.frozen 0; have z41 := hb4.frozen 1; obtain ⟨A4, c4, rfl, hx4⟩ := HO4.rd.form; clear hx4)
  all_goals
    go_wp2
    simp [Act.put]
    obtain ⟨g1, g2⟩ := hb4.put 0 (.int .i64 x2)
    obtain ⟨g3, g4⟩ := g1.put 1 (.slice A4 T.length c4)
    have hB4 := bel_trans hB3 HB4
    have hO5 := own_base HO4 (bel_trans HB1 HB3).size
    have hne : ∀ g, g < W0.heap.size → (Value.slice A4 T.length c4).ownBlock ≠ some g := by
      obtain ⟨A, c, h1, h2⟩ := own_slice hO5
      simp only [Value.slice.injEq, true_and] at h1
      obtain ⟨rfl, rfl⟩ := h1
      exact h2
    have hne := hne _ HSZ.out
    refine bodyPost_ret (results_cell3 rfl _ _ _ rfl (run_load_box _ _ _ _ _ g3 Try.underlying33 rfl infoG)) rfl ⟨_, rfl, own_base ((hO5.kept g2 (.inr hne)).kept g4 (.inr hne)) hB0.size, ?_⟩
    exact below_row (below_row hB4 g2 (Nat.le_refl _) hB4.size) g4 (Nat.le_refl _) (Nat.le_trans hB4.size g2.size)
set_option maxHeartbeats 1000000 in
theorem ref_Decode_any (v : Value) (l : List Int) (w : World) (HR : Rd w v l) :
    Calls Try.prog 24 #[v] w (DecRet w l) := by
  have hlen := HR.2.len (P := Try.prog) 24 5 3 Try.underlying24
  have hbx := Box.new w #[.int .i64 0, .slice none 0 0] 33
  have hB0 := al1 (Below.refl w.heap.size w) (.cells #[.int .i64 0, .slice none 0 0] 33)
  have hR0 := HR.keep hB0
  have hlt := HR.lt63
  obtain ⟨N, hN, hN24⟩ := lenN_range HR.1
  by_cases hF : frontB l = false
  · have hE : decE l = 41 := by unfold decE; rw [if_pos hF]
    go_enter Try.func24, Try.ntmps24
    go_upto_region 1 with fail
    generalize w.alloc (.cells #[.int .i64 0, .slice none 0 0] 33) = W0 at *
    go_wp2_with (first
      | (go_at_call 53; refine (ref_front_any _ _ _ hR0).mono ?_; rintro e w' ⟨rfl, rfl⟩; rw [hF])
      | (refine store_box rfl 33 _ _ rfl w.heap.size 33 _ #[.int .i64 0, .slice none 0 0] rfl rfl hbx infoG rfl (one2 _ _ _ _ _) ?_; intro w9 hb9 hg9))
    exact bodyPost_ret (results_cell3 rfl _ _ _ rfl (run_load_box _ _ _ _ _ hb9 Try.underlying33 rfl infoG)) rfl (dec_ret_bad hE (by decide) rfl (below_row hB0 hg9 (Nat.le_refl _) hB0.size))
  have hFt : frontB l = true := by cases h : frontB l <;> simp_all
  by_cases h10 : l.length < 10
  · have hE : decE l = 40 := by unfold decE; rw [if_neg hF, if_pos h10]
    go_enter Try.func24, Try.ntmps24
    go_upto_region 1 with fail
    generalize w.alloc (.cells #[.int .i64 0, .slice none 0 0] 33) = W0 at *
    go_wp2_with (first
      | (go_at_call 53; refine (ref_front_any _ _ _ hR0).mono ?_; rintro e w' ⟨rfl, rfl⟩; rw [hFt])
      | (refine store_box rfl 33 _ _ rfl w.heap.size 33 _ #[.int .i64 0, .slice none 0 0] rfl rfl hbx infoG rfl (one2 _ _ _ _ _) ?_; intro w9 hb9 hg9))
    exact bodyPost_ret (results_cell3 rfl _ _ _ rfl (run_load_box _ _ _ _ _ hb9 Try.underlying33 rfl infoG)) rfl (dec_ret_bad hE (by decide) rfl (below_row hB0 hg9 (Nat.le_refl _) hB0.size))
  have h10' : 10 ≤ l.length := by omega
  by_cases hH : headB l = false
  · have hE : decE l = 42 := by unfold decE; rw [if_neg hF, if_neg h10, if_pos hH]
    go_enter Try.func24, Try.ntmps24
    go_upto_region 1 with fail
    generalize w.alloc (.cells #[.int .i64 0, .slice none 0 0] 33) = W0 at *
    go_wp2_with (first
      | (go_at_call 53; refine (ref_front_any _ _ _ hR0).mono ?_; rintro e w' ⟨rfl, rfl⟩; rw [hFt])
      | (go_at_call 54; refine (ref_length_any _ _ _ hR0 h10').mono ?_; rintro e w1 ⟨rfl, HB1⟩; rw [hH, if_neg Bool.false_ne_true]; have hb1 := hbx.keep HB1; have hB1 := bel_trans hB0 HB1)
      | (refine store_box rfl 33 _ _ rfl w.heap.size 33 _ #[.int .i64 0, .slice none 0 0] rfl rfl hb1 infoG rfl (one2 _ _ _ _ _) ?_; intro w9 hb9 hg9))
    exact bodyPost_ret (results_cell3 rfl _ _ _ rfl (run_load_box _ _ _ _ _ hb9 Try.underlying33 rfl infoG)) rfl (dec_ret_bad hE (by decide) rfl (below_row hB1 hg9 (Nat.le_refl _) hB1.size))
  have hHt : headB l = true := by cases h : headB l <;> simp_all
  by_cases hL : 1048576 < lenN l
  · have hE : decE l = 43 := by unfold decE; rw [if_neg hF, if_neg h10, if_neg hH, if_pos hL]
    rw [hN] at hL
    go_enter Try.func24, Try.ntmps24
    go_upto_region 1 with fail
    generalize w.alloc (.cells #[.int .i64 0, .slice none 0 0] 33) = W0 at *
    go_wp2_with (first
      | (go_at_call 53; refine (ref_front_any _ _ _ hR0).mono ?_; rintro e w' ⟨rfl, rfl⟩; rw [hFt])
      | (go_at_call 54; refine (ref_length_any _ _ _ hR0 h10').mono ?_; rintro e w2 ⟨rfl, HB1⟩; rw [hHt, if_pos rfl, hN]; have hb2 := hbx.keep HB1; have hB2 := bel_trans hB0 HB1)
      | (refine store_box rfl 33 _ _ rfl w.heap.size 33 _ #[.int .i64 0, .slice none 0 0] rfl rfl hb2 infoG rfl (one2 _ _ _ _ _) ?_; intro w9 hb9 hg9))
    exact bodyPost_ret (results_cell3 rfl _ _ _ rfl (run_load_box _ _ _ _ _ hb9 Try.underlying33 rfl infoG)) rfl (dec_ret_bad hE (by decide) rfl (below_row hB2 hg9 (Nat.le_refl _) hB2.size))
  by_cases hS : (l.length : Int) < lenN l + 14
  · have hE : decE l = 40 := by unfold decE; rw [if_neg hF, if_neg h10, if_neg hH, if_neg hL, if_pos hS]
    rw [hN] at hL hS
    go_enter Try.func24, Try.ntmps24
    go_upto_region 1 with fail
    generalize w.alloc (.cells #[.int .i64 0, .slice none 0 0] 33) = W0 at *
    go_wp2_with (first
      | (go_at_call 53; refine (ref_front_any _ _ _ hR0).mono ?_; rintro e w' ⟨rfl, rfl⟩; rw [hFt])
      | (go_at_call 54; refine (ref_length_any _ _ _ hR0 h10').mono ?_; rintro e w2 ⟨rfl, HB1⟩; rw [hHt, if_pos rfl, hN]; have hb2 := hbx.keep HB1; have hB2 := bel_trans hB0 HB1)
      | (refine store_box rfl 33 _ _ rfl w.heap.size 33 _ #[.int .i64 0, .slice none 0 0] rfl rfl hb2 infoG rfl (one2 _ _ _ _ _) ?_; intro w9 hb9 hg9))
    exact bodyPost_ret (results_cell3 rfl _ _ _ rfl (run_load_box _ _ _ _ _ hb9 Try.underlying33 rfl infoG)) rfl (dec_ret_bad hE (by decide) rfl (below_row hB2 hg9 (Nat.le_refl _) hB2.size))
  have hSn : N + 14 ≤ l.length := by rw [hN] at hS; omega
  have eN : (lenN l + 14).toNat = N + 14 := by rw [hN]; omega
  have hLn : N ≤ 1048576 := by rw [hN] at hL; omega
  obtain ⟨u1, hs1, hR1⟩ := HR.sl_h Try.underlying24 info8 (N + 14) hSn
  have hs1 : ∀ (W : World), Sem.run Try.prog (Instr.slice 24 v none (some (Value.int IntKind.i64 ((N : Int) + 14))) none) W = Result.ok u1 W := hs1
  have hTl : (l.take (N + 14)).length = N + 14 := by rw [List.length_take]; omega
  by_cases hW : holdsB (l.take (N + 14)) = false
  · have hE : decE l = 44 := by unfold decE; rw [if_neg hF, if_neg h10, if_neg hH, if_neg hL, if_neg hS, eN, if_pos hW]
    rw [hN] at hL hS
    clear eN hTl
    go_enter Try.func24, Try.ntmps24
    go_upto_region 1 with fail
    generalize w.alloc (.cells #[.int .i64 0, .slice none 0 0] 33) = W0 at *
    go_wp2_with (first
      | (go_at_call 53; refine (ref_front_any _ _ _ hR0).mono ?_; rintro e w' ⟨rfl, rfl⟩; rw [hFt])
      | (go_at_call 54; refine (ref_length_any _ _ _ hR0 h10').mono ?_; rintro e w2 ⟨rfl, HB1⟩; rw [hHt, if_pos rfl, hN]; have hb2 := hbx.keep HB1; have hB2 := bel_trans hB0 HB1)
      | (go_at_call 55; refine (ref_Holds_any _ _ _ (hR1.keep hB2) (by rw [List.length_take]; omega)).mono ?_; rintro e w3 ⟨rfl, HB3⟩; rw [hW]; have hb3 := hb2.keep HB3; have hB3 := bel_trans hB2 HB3)
      | (refine store_box rfl 33 _ _ rfl w.heap.size 33 _ #[.int .i64 0, .slice none 0 0] rfl rfl hb3 infoG rfl (one2 _ _ _ _ _) ?_; intro w9 hb9 hg9))
    exact bodyPost_ret (results_cell3 rfl _ _ _ rfl (run_load_box _ _ _ _ _ hb9 Try.underlying33 rfl infoG)) rfl (dec_ret_bad hE (by decide) rfl (below_row hB3 hg9 (Nat.le_refl _) hB3.size))
  have hWt : holdsB (l.take (N + 14)) = true := by cases h : holdsB (l.take (N + 14)) <;> simp_all
  have hE : decE l = 0 := by unfold decE; rw [if_neg hF, if_neg h10, if_neg hH, if_neg hL, if_neg hS, eN, if_neg hW]
  have hDN : decN l = (N : Int) + 14 := by unfold decN; rw [if_pos hE, hN]
  have hDK : decK l = l.getD 2 0 := by unfold decK; rw [if_pos hE]
  have hDB : decBody l = (l.drop 10).take N := by unfold decBody; rw [if_pos hE, hN]; rfl
  unfold DecRet
  rw [hE, hDN, hDK, hDB]
  exact ref_Decode_ok v l w HR N hN hFt h10' hHt hLn hSn hWt
end Go.Proofs.Ytilmmohkdgmhnaa
