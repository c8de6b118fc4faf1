import Derived.Test.YtilmmohkdgmhnaaFrameH
namespace Go.Proofs.Ytilmmohkdgmhnaa
open Go.RowKit
set_option maxRecDepth 100000
set_option linter.unusedVariables false
/-- what Decode answers -/
def DecRet (w : World) (l : List Int) (e : Ending) (w' : World) : Prop :=
  ∃ vb, e = .returned (.tuple #[.agg #[.int .i64 (decK l), vb], .int .i64 (decN l), .int .i64 (decE l)]) ∧ Own w' w.heap.size 5 vb (decBody l) ∧ Below w.heap.size w w'
theorem dec_ret_bad {w w' : World} {l : List Int} {x : Int} {e : Ending} (hE : decE l = x) (hx : x ≠ 0) (he : e = .returned (.tuple #[.agg #[.int .i64 0, .slice none 0 0], .int .i64 0, .int .i64 x])) (hb : Below w.heap.size w w') : DecRet w l e w' := by
  obtain ⟨h1, h2, h3⟩ := dec_bad hE hx
  refine ⟨.slice none 0 0, ?_, ?_, hb⟩
  · rw [he, h1, h2, hE]
  · rw [h3]; exact own_nil8 _ _ _
theorem take_drop_body (l : List Int) (N : Nat) : ((l.take (N + 14)).drop 10).take N = (l.drop 10).take N := by
  rw [List.drop_take, List.take_take, Nat.min_eq_left (by omega)]
theorem take_getD2 (l : List Int) (N : Nat) : (l.take (N + 14)).getD 2 0 = l.getD 2 0 := by
  rw [List.getD_eq_getElem?_getD, List.getD_eq_getElem?_getD, List.getElem?_take_of_lt (by omega)]
set_option maxHeartbeats 2000000 in
theorem frame_Decode_any (v : Value) (l : List Int) (w : World) (HR : Rd w v l) :
    Calls Try.prog 23 #[v] w (DecRet w l) := by
  have hlen := HR.2.len (P := Try.prog) 24 5 3 Try.underlying24
  have hbx := Box.new w #[.int .i64 0, .slice none 0 0] 28
  have hB0 := al1 (Below.refl w.heap.size w) (.cells #[.int .i64 0, .slice none 0 0] 28)
  have hR0 := HR.keep hB0
  have hlt := HR.lt63
  obtain ⟨N, hN, hN24⟩ := lenN_range HR.1
  by_cases hF : frontB l = false
  · have hE : decE l = 41 := by unfold decE; rw [if_pos hF]
    go_enter Try.func23, Try.ntmps23
    go_upto_region 1 with fail
    generalize w.alloc (.cells #[.int .i64 0, .slice none 0 0] 28) = W0 at *
    go_wp2_with (first
      | (go_at_call 48; refine (frame_begins_any _ _ _ hR0).mono ?_; rintro e w' ⟨rfl, rfl⟩; rw [hF])
      | (refine store_box rfl 28 _ _ rfl w.heap.size 28 _ #[.int .i64 0, .slice none 0 0] rfl rfl hbx infoF rfl (one2 _ _ _ _ _) ?_; intro w9 hb9 hg9))
    exact bodyPost_ret (results_cell3 rfl _ _ _ rfl (run_load_box _ _ _ _ _ hb9 Try.underlying28 rfl infoF)) rfl (dec_ret_bad hE (by decide) rfl (below_row hB0 hg9 (Nat.le_refl _) hB0.size))
  have hFt : frontB l = true := by cases h : frontB l <;> simp_all
  by_cases h10 : l.length < 10
  · have hE : decE l = 40 := by unfold decE; rw [if_neg hF, if_pos h10]
    go_enter Try.func23, Try.ntmps23
    go_upto_region 1 with fail
    generalize w.alloc (.cells #[.int .i64 0, .slice none 0 0] 28) = W0 at *
    go_wp2_with (first
      | (go_at_call 48; refine (frame_begins_any _ _ _ hR0).mono ?_; rintro e w' ⟨rfl, rfl⟩; rw [hFt])
      | (refine store_box rfl 28 _ _ rfl w.heap.size 28 _ #[.int .i64 0, .slice none 0 0] rfl rfl hbx infoF rfl (one2 _ _ _ _ _) ?_; intro w9 hb9 hg9))
    exact bodyPost_ret (results_cell3 rfl _ _ _ rfl (run_load_box _ _ _ _ _ hb9 Try.underlying28 rfl infoF)) rfl (dec_ret_bad hE (by decide) rfl (below_row hB0 hg9 (Nat.le_refl _) hB0.size))
  have h10' : 10 ≤ l.length := by omega
  by_cases hH : headB l = false
  · have hE : decE l = 42 := by unfold decE; rw [if_neg hF, if_neg h10, if_pos hH]
    go_enter Try.func23, Try.ntmps23
    go_upto_region 1 with fail
    generalize w.alloc (.cells #[.int .i64 0, .slice none 0 0] 28) = W0 at *
    go_wp2_with (first
      | (go_at_call 48; refine (frame_begins_any _ _ _ hR0).mono ?_; rintro e w' ⟨rfl, rfl⟩; rw [hFt])
      | (go_at_call 49; refine (frame_headed_any _ _ _ hR0 h10').mono ?_; rintro e w1 ⟨rfl, HB1⟩; rw [hH]; have hb1 := hbx.keep HB1; have hB1 := bel_trans hB0 HB1)
      | (refine store_box rfl 28 _ _ rfl w.heap.size 28 _ #[.int .i64 0, .slice none 0 0] rfl rfl hb1 infoF rfl (one2 _ _ _ _ _) ?_; intro w9 hb9 hg9))
    exact bodyPost_ret (results_cell3 rfl _ _ _ rfl (run_load_box _ _ _ _ _ hb9 Try.underlying28 rfl infoF)) rfl (dec_ret_bad hE (by decide) rfl (below_row hB1 hg9 (Nat.le_refl _) hB1.size))
  have hHt : headB l = true := by cases h : headB l <;> simp_all
  by_cases hL : 1048576 < lenN l
  · have hE : decE l = 43 := by unfold decE; rw [if_neg hF, if_neg h10, if_neg hH, if_pos hL]
    rw [hN] at hL
    go_enter Try.func23, Try.ntmps23
    go_upto_region 1 with fail
    generalize w.alloc (.cells #[.int .i64 0, .slice none 0 0] 28) = W0 at *
    go_wp2_with (first
      | (go_at_call 48; refine (frame_begins_any _ _ _ hR0).mono ?_; rintro e w' ⟨rfl, rfl⟩; rw [hFt])
      | (go_at_call 49; refine (frame_headed_any _ _ _ hR0 h10').mono ?_; rintro e w1 ⟨rfl, HB1⟩; rw [hHt]; have hb1 := hbx.keep HB1; have hB1 := bel_trans hB0 HB1)
      | (go_at_call 50; refine (frame_length_bel _ _ _ (hR0.keep HB1) (by omega)).mono ?_; rintro e w2 ⟨rfl, HB2⟩; rw [hN]; have hb2 := hb1.keep HB2; have hB2 := bel_trans hB1 HB2)
      | (refine store_box rfl 28 _ _ rfl w.heap.size 28 _ #[.int .i64 0, .slice none 0 0] rfl rfl hb2 infoF rfl (one2 _ _ _ _ _) ?_; intro w9 hb9 hg9))
    exact bodyPost_ret (results_cell3 rfl _ _ _ rfl (run_load_box _ _ _ _ _ hb9 Try.underlying28 rfl infoF)) rfl (dec_ret_bad hE (by decide) rfl (below_row hB2 hg9 (Nat.le_refl _) hB2.size))
  by_cases hS : (l.length : Int) < lenN l + 14
  · have hE : decE l = 40 := by unfold decE; rw [if_neg hF, if_neg h10, if_neg hH, if_neg hL, if_pos hS]
    rw [hN] at hL hS
    go_enter Try.func23, Try.ntmps23
    go_upto_region 1 with fail
    generalize w.alloc (.cells #[.int .i64 0, .slice none 0 0] 28) = W0 at *
    go_wp2_with (first
      | (go_at_call 48; refine (frame_begins_any _ _ _ hR0).mono ?_; rintro e w' ⟨rfl, rfl⟩; rw [hFt])
      | (go_at_call 49; refine (frame_headed_any _ _ _ hR0 h10').mono ?_; rintro e w1 ⟨rfl, HB1⟩; rw [hHt]; have hb1 := hbx.keep HB1; have hB1 := bel_trans hB0 HB1)
      | (go_at_call 50; refine (frame_length_bel _ _ _ (hR0.keep HB1) (by omega)).mono ?_; rintro e w2 ⟨rfl, HB2⟩; rw [hN]; have hb2 := hb1.keep HB2; have hB2 := bel_trans hB1 HB2)
      | (refine store_box rfl 28 _ _ rfl w.heap.size 28 _ #[.int .i64 0, .slice none 0 0] rfl rfl hb2 infoF rfl (one2 _ _ _ _ _) ?_; intro w9 hb9 hg9))
    exact bodyPost_ret (results_cell3 rfl _ _ _ rfl (run_load_box _ _ _ _ _ hb9 Try.underlying28 rfl infoF)) rfl (dec_ret_bad hE (by decide) rfl (below_row hB2 hg9 (Nat.le_refl _) hB2.size))
  have hSn : N + 14 ≤ l.length := by rw [hN] at hS; omega
  have eN : (lenN l + 14).toNat = N + 14 := by rw [hN]; omega
  have hLn : N ≤ 1048576 := by rw [hN] at hL; omega
  obtain ⟨u1, hs1, hR1⟩ := HR.sl_h Try.underlying24 info8 (N + 14) hSn
  have hs1 : ∀ (W : World), Sem.run Try.prog (Instr.slice 24 v none (some (Value.int IntKind.i64 ((N : Int) + 14))) none) W = Result.ok u1 W := hs1
  obtain ⟨u2, hs2, hR2⟩ := HR.sl_m Try.underlying24 info8 (N + 14) hSn
  have hs2 : ∀ (W : World), Sem.run Try.prog (Instr.slice 24 v none (some (Value.int IntKind.i64 ((N : Int) + 14))) (some (Value.int IntKind.i64 ((N : Int) + 14)))) W = Result.ok u2 W := hs2
  have hTl : (l.take (N + 14)).length = N + 14 := by rw [List.length_take]; omega
  by_cases hW : holdsB (l.take (N + 14)) = false
  · have hE : decE l = 44 := by unfold decE; rw [if_neg hF, if_neg h10, if_neg hH, if_neg hL, if_neg hS, eN, if_pos hW]
    rw [hN] at hL hS
    clear eN hTl
    go_enter Try.func23, Try.ntmps23
    go_upto_region 1 with fail
    generalize w.alloc (.cells #[.int .i64 0, .slice none 0 0] 28) = W0 at *
    go_wp2_with (first
      | (go_at_call 48; refine (frame_begins_any _ _ _ hR0).mono ?_; rintro e w' ⟨rfl, rfl⟩; rw [hFt])
      | (go_at_call 49; refine (frame_headed_any _ _ _ hR0 h10').mono ?_; rintro e w1 ⟨rfl, HB1⟩; rw [hHt]; have hb1 := hbx.keep HB1; have hB1 := bel_trans hB0 HB1)
      | (go_at_call 50; refine (frame_length_bel _ _ _ (hR0.keep HB1) (by omega)).mono ?_; rintro e w2 ⟨rfl, HB2⟩; rw [hN]; have hb2 := hb1.keep HB2; have hB2 := bel_trans hB1 HB2)
      | (go_at_call 51; refine (frame_whole_any _ _ _ (hR1.keep hB2) (by rw [List.length_take]; omega)).mono ?_; rintro e w3 ⟨rfl, HB3⟩; rw [hW]; have hb3 := hb2.keep HB3; have hB3 := bel_trans hB2 HB3)
      | (refine store_box rfl 28 _ _ rfl w.heap.size 28 _ #[.int .i64 0, .slice none 0 0] rfl rfl hb3 infoF rfl (one2 _ _ _ _ _) ?_; intro w9 hb9 hg9))
    exact bodyPost_ret (results_cell3 rfl _ _ _ rfl (run_load_box _ _ _ _ _ hb9 Try.underlying28 rfl infoF)) rfl (dec_ret_bad hE (by decide) rfl (below_row hB3 hg9 (Nat.le_refl _) hB3.size))
  have hWt : holdsB (l.take (N + 14)) = true := by cases h : holdsB (l.take (N + 14)) <;> simp_all
  have hE : decE l = 0 := by unfold decE; rw [if_neg hF, if_neg h10, if_neg hH, if_neg hL, if_neg hS, eN, if_neg hW]
  have hDN : decN l = (N : Int) + 14 := by unfold decN; rw [if_pos hE, hN]
  have hDK : decK l = l.getD 2 0 := by unfold decK; rw [if_pos hE]
  have hDB : decBody l = (l.drop 10).take N := by unfold decBody; rw [if_pos hE, hN]; rfl
  unfold DecRet
  rw [hE, hDN, hDK, hDB]
  rw [hN] at hL hS
  clear eN hE hDN hDK hDB
  obtain ⟨T, hT⟩ : ∃ T, (l.drop 10).take N = T := ⟨_, rfl⟩
  rw [hT]
  have hTq := hd_ hT
  clear hT
  have hsz : w.heap.size < (w.alloc (.cells #[.int .i64 0, .slice none 0 0] 28)).heap.size := by simp
  go_enter Try.func23, Try.ntmps23
  go_upto_region 1 with fail
  generalize w.alloc (.cells #[.int .i64 0, .slice none 0 0] 28) = W0 at *
  have HSZ := hd_ hsz
  have HTL := hd_ hTl
  clear hsz hTl
  go_upto_region 14 with (first
    | (go_at_call 48; refine (frame_begins_any _ _ _ hR0).mono ?_; rintro e w' ⟨rfl, rfl⟩; rw [hFt])
    | (go_at_call 49; refine (frame_headed_any _ _ _ hR0 h10').mono ?_; rintro e w1 ⟨rfl, HB1⟩; rw [hHt]; have hb1 := hbx.keep HB1; have hB1 := bel_trans hB0 HB1)
    | (go_at_call 50; refine (frame_length_bel _ _ _ (hR0.keep HB1) (by omega)).mono ?_; rintro e w2 ⟨rfl, HB2⟩; rw [hN]; have hb2 := hb1.keep HB2; have hB2 := bel_trans hB1 HB2)
    | (go_at_call 51; refine (frame_whole_any _ _ _ (hR1.keep hB2) (by rw [List.length_take]; omega)).mono ?_; rintro e w3 ⟨rfl, HB3⟩; rw [hWt]; have hb3 := hb2.keep HB3; have hB3 := bel_trans hB2 HB3))
  go_wp2_with fail
  refine (frame_cut_any _ _ N _ (hR2.keep hB3) HTL.out hLn).mono ?_
  rintro e w4 ⟨v4, rfl, HO4, HB4⟩
  rw [take_getD2]
  rw [take_drop_body] at HO4
  rw [hTq.out] at HO4
  have hb4 := hb3.keep HB4
  have hB4 := bel_trans hB3 HB4
  obtain ⟨A4, c4, hv4, _⟩ := HO4.rd.form
  rw [hv4] at HO4 ⊢
  clear hv4
  go_wp2_with (refine store_box rfl 28 _ _ rfl w.heap.size 28 _ #[.int .i64 (l.getD 2 0), .slice A4 _ c4] rfl rfl hb4 infoF rfl (one2 _ _ _ _ _) ?_; intro w9 hb9 hg9)
  refine bodyPost_ret (results_cell3 rfl _ _ _ rfl (run_load_box _ _ _ _ _ hb9 Try.underlying28 rfl infoF)) rfl ⟨_, rfl, own_base (HO4.kept hg9 ?_) hB3.size, below_row hB4 hg9 (Nat.le_refl _) hB4.size⟩
  rcases HO4.2.2 with ⟨h1, _⟩ | ⟨g', cap', cur, h1, h2, _⟩
  · rw [h1]; exact .inl rfl
  · rw [h1]
    refine .inr fun h => ?_
    have h : g' = w.heap.size := by simpa [Value.ownBlock] using h
    have h3 := HSZ.out
    have h4 := (bel_trans HB1 (bel_trans HB2 HB3)).size
    omega
end Go.Proofs.Ytilmmohkdgmhnaa
