/- The law ImageEncodes. -/
import Derived.Test.YtdmogbkfmeihfaaIeK
import Derived.Test.YtdmogbkfmeihfaaOwD
import Derived.Test.YtdmogbkfmeihfaaOpen2
namespace Go.Proofs.Ytdmogbkfmeihfaa
open Go.RowKit
set_option maxRecDepth 100000
set_option linter.unusedVariables false
/-- a state qs it comes in -/
abbrev StT := Int × List (ByteArray × ByteArray × Int × Unit) × Unit
abbrev RRow := RAnd 0 1 RStr (RAnd 1 1 RStr (RAnd 2 1 (RInt .i64) RNil))
abbrev RSt := RAnd 0 1 (RInt .i64) (RAnd 1 1 (RSl 3 40 RRow) RNil)
def rowT (a : ByteArray × ByteArray × Int × Unit) : RowT := (a.1, a.2.1, a.2.2.1)
theorem blocks3 : ∀ (qs : List (ByteArray × ByteArray × Int × Unit)) (vs : List Value), vs.length = qs.length * 3 → (∀ j (h : j < qs.length), (vs.drop (j * 3)).take 3 = rowV (rowT (qs[j]'h))) → vs = rowsV (qs.map rowT)
  | [], vs, h, _ => List.eq_nil_of_length_eq_zero (by simpa using h)
  | a :: qs, vs, h, hb => by
    have h0 := hb 0 (by simp)
    rw [Nat.zero_mul, List.drop_zero] at h0
    have e : rowsV ((a :: qs).map rowT) = rowV (rowT a) ++ rowsV (qs.map rowT) := rfl
    rw [e, ← blocks3 qs (vs.drop 3) (by rw [List.length_drop, h, List.length_cons]; omega) (fun j hj => by
      have := hb (j + 1) (by simpa using hj)
      rw [List.drop_drop]
      have e2 : 3 + j * 3 = (j + 1) * 3 := by omega
      rw [e2]
      simpa using this)]
    simp only [List.getElem_cons_zero] at h0
    rw [← h0, List.take_append_drop]
theorem row_in {w : World} {cs : List Value} {a : ByteArray × ByteArray × Int × Unit} (h : RRow w cs a) (hl : cs.length = 3) : cs = rowV (rowT a) ∧ (Lit.int .i64 a.2.2.1).wf = true := by
  obtain ⟨⟨h1, _⟩, ⟨h2, _⟩, ⟨h3, h4⟩, _⟩ := h
  match cs, hl with
  | [x, y, z], _ =>
    simp at h1 h2 h3
    refine ⟨?_, h4⟩
    rw [h1, h2, h3]; rfl
theorem state_in {w : World} {cs : Array Value} {x : StT} (hs : cs.size = 2) (r : RSt w cs.toList x) : ∃ v, cs = stC x.1 v ∧ RdR w v (x.2.1.map rowT) ∧ (x.2.1.map rowT).length * 40 ≤ 140737488351232 ∧ (Lit.int .i64 x.1).wf = true ∧ ∀ q ∈ x.2.1.map rowT, (Lit.int .i64 q.2.2).wf = true := by
  obtain ⟨⟨h1, h2⟩, ⟨v, vs, h3, hR, hl, hx⟩, _⟩ := r
  obtain ⟨l⟩ := cs
  match l, hs with
  | [c0, c1], _ =>
    simp at h1 h3
    have hvs : vs = rowsV (x.2.1.map rowT) := blocks3 x.2.1 vs hR.1 (fun j hj => by
      obtain ⟨a, ha, hl3, hr⟩ := hx j hj
      rw [List.getElem?_eq_getElem hj] at ha
      injection ha with ha
      rw [ha]
      exact (row_in hr hl3).1)
    refine ⟨v, by rw [h1, h3]; rfl, ?_, by rw [List.length_map]; exact hl, h2, fun q hq => ?_⟩
    · rw [hvs] at hR
      unfold RdR
      rw [List.length_map]
      exact hR
    · obtain ⟨a, ha, rfl⟩ := List.mem_map.1 hq
      obtain ⟨j, hj, rfl⟩ := List.getElem_of_mem ha
      obtain ⟨a2, ha2, hl3, hr⟩ := hx j hj
      rw [List.getElem?_eq_getElem hj] at ha2
      injection ha2 with ha2
      rw [ha2]
      exact (row_in hr hl3).2
theorem enc_parts (seq : Int) (l : List RowT) : ∃ E M, chkA seq l = E ∧ encA seq l = (E, M) ∧ sizA seq l = ((M.length : Int), E) ∧ M.length ≤ 268435460 := by
  refine ⟨chkA seq l, (encA seq l).2, rfl, ?_, ?_, ?_⟩
  · rw [← laid_err, ← encA_err]
  · have h := laid_err seq l
    have hl := laid_len seq l
    unfold sizA encA
    by_cases h0 : (laidA seq l).1 = 0
    · rw [if_neg (fun h2 => h2 h0), if_neg (fun h2 => h2 h0), ← h, h0, seal_lenI]
      simp
    · rw [if_pos h0, if_pos h0, h]; rfl
  · have hl := laid_len seq l
    unfold encA
    by_cases h0 : (laidA seq l).1 = 0
    · rw [if_neg (fun h2 => h2 h0), seal_lenI]; omega
    · rw [if_pos h0]; simp
set_option maxHeartbeats 8000000 in
theorem law_ImageEncodes (w : World) (cs : Array Value) (hs : cs.size = 2) (x : StT) (r : RSt w cs.toList x) (cs2 : Array Value) (hs2 : cs2.size = 2) (x2 : StT) (r2 : RSt w cs2.toList x2) :
    Calls Try.prog 5 #[.agg cs, .agg cs2] w fun e w' => e = .returned (.bool true) ∧ Below w.heap.size w w' := by
  obtain ⟨v, rfl, HR, hl, _, _⟩ := state_in hs r
  obtain ⟨v2, rfl, HR2, hl2, _, _⟩ := state_in hs2 r2
  obtain ⟨seq, qs, u9⟩ := x
  obtain ⟨seq2, qs2, u8⟩ := x2
  simp only at HR hl HR2 hl2
  generalize qs.map rowT = l at *
  generalize qs2.map rowT = l2 at *
  clear hs r hs2 r2
  obtain ⟨E, M, hC1, hE1, hS1, hM⟩ := enc_parts seq l
  obtain ⟨E2, M2, _, hE2, _, hM2⟩ := enc_parts seq2 l2
  have hRE := hd_ (fun W u (h : RdR W u l) => show Calls Try.prog 21 #[.agg (stC seq u)] W (fun e w' => ∃ q, e = .returned (.tuple #[q, .int .i64 E]) ∧ Own w' W.heap.size 5 q M ∧ Below W.heap.size W w') from by have := rEncode_any seq u l W h; rw [hE1] at this; exact this)
  have hRE2 := hd_ (fun W u (h : RdR W u l2) => show Calls Try.prog 21 #[.agg (stC seq2 u)] W (fun e w' => ∃ q, e = .returned (.tuple #[q, .int .i64 E2]) ∧ Own w' W.heap.size 5 q M2 ∧ Below W.heap.size W w') from by have := rEncode_any seq2 u l2 W h; rw [hE2] at this; exact this)
  have hPE := hd_ (fun W u (h : RdR W u l) => show Calls Try.prog 22 #[.agg (stC seq u)] W (fun e w' => ∃ q, e = .returned (.tuple #[q, .int .i64 E]) ∧ (OwnN w' q M ∧ ∀ k, q.ownBlock = some k → W.heap.size ≤ k) ∧ Below W.heap.size W w') from by have := Encode_any seq u l W h; rw [hE1] at this; exact this)
  have hPE2 := hd_ (fun W u (h : RdR W u l2) => show Calls Try.prog 22 #[.agg (stC seq2 u)] W (fun e w' => ∃ q, e = .returned (.tuple #[q, .int .i64 E2]) ∧ (OwnN w' q M2 ∧ ∀ k, q.ownBlock = some k → W.heap.size ≤ k) ∧ Below W.heap.size W w') from by have := Encode_any seq2 u l2 W h; rw [hE2] at this; exact this)
  have hPS := hd_ (fun W u (h : RdR W u l) => show Calls Try.prog 23 #[.agg (stC seq u)] W (fun e w' => e = .returned (.tuple #[.int .i64 (M.length : Int), .int .i64 E]) ∧ Below W.heap.size W w') from by have := Size_any seq u l W h; rw [hS1] at this; exact this)
  have hPC := hd_ (fun W u (h : RdR W u l) => show Calls Try.prog 24 #[.agg (stC seq u)] W (fun e w' => e = .returned (.int .i64 E) ∧ Below W.heap.size W w') from by have := ICheck_any seq u l W h; rw [hC1] at this; exact this)
  have hSame := hd_ (fun W v u l (h1 : Rd W v l) (h2 : Rd W u l) => show Calls Try.prog 25 #[v, u] W (fun e w' => e = .returned (.bool true) ∧ W = w') from (Same_any v u l l W h1 h2).mono (by rintro e w' ⟨h1, h2⟩; exact ⟨by rw [h1, decide_eq_true rfl], h2⟩))
  have hIn := hd_ (And.intro HR (And.intro HR2 hl))
  have hMb := hd_ (show M.length ≤ 70368744177664 ∧ M2.length ≤ 70368744177664 by omega)
  have hB0 := al1 (al1 (Below.refl w.heap.size w) (.cells (stC seq v) 36)) (.cells (stC seq2 v2) 36)
  have hb1 := (Box.new w (stC seq v) 36).keep (al1 (Below.refl _ _) (.cells (stC seq2 v2) 36))
  have hb2 := Box.new (w.alloc (.cells (stC seq v) 36)) (stC seq2 v2) 36
  obtain ⟨W0, hW0⟩ : ∃ W0, W0 = (w.alloc (.cells (stC seq v) 36)).alloc (.cells (stC seq2 v2) 36) := ⟨_, rfl⟩
  have hz : (w.alloc (.cells (stC seq v) 36)).heap.size = w.heap.size + 1 := by simp
  rw [hz] at hb2
  rw [← hW0] at hB0 hb1 hb2
  have hB0 := hd_ hB0
  have hb1 := hd_ hb1
  have hb2 := hd_ hb2
  clear HR HR2 hl hl2 hC1 hE1 hS1 hM hE2 hM2 hz
  go_enter Try.func5, Try.ntmps5
  go_upto_region 1 with fail
  rw [← hW0]
  clear hW0
  have hLc := hd_ (lendI_any seq v l W0 (hIn.out.1.keep hB0.out) hIn.out.2.2)
  go_upto_region 2 with (first
    | (refine load_boxI ?hw 36 _ rfl w.heap.size 36 (stC seq v) _ rfl hb1.out Try.underlying36 rfl infoSt ?_; (case hw => first | rfl | simp [Region.wanted, yielded]))
    | (go_at_call 20; (with_reducible refine hLc.out.mono ?_); rintro e w1 ⟨wh, pt, rfl, HRw, HRp, HB1⟩; obtain ⟨Ap, cp, rfl, _⟩ := HRp.form)
    | (refine store_box rfl 36 _ _ rfl _ _ _ (stC seq (.slice Ap l.length cp)) rfl rfl (Box.new _ _ _) infoSt rfl (stC_one _ _ _ _) ?_; intro w2 hb6 hg2))
  have HB2 := below_row (al1 (Below.refl w1.heap.size w1) _) hg2 (Nat.le_refl _) (size_al _ _)
  have HB02 := bel_trans HB1 HB2
  have HBw2 := hd_ (bel_trans hB0.out HB02)
  have hb1b := hd_ (hb1.out.keep HB02)
  have hb2b := hd_ (hb2.out.keep HB02)
  have hRw2 := hd_ (HRw.keep HB2)
  have hRp2 := hd_ (HRp.keep HB2)
  have hb6 := hd_ hb6
  generalize hpt : Value.slice Ap l.length cp = pt at *
  clear hpt
  have hKp := hd_ (fun W (h : Below w2.heap.size w2 W) => keptI_any seq v wh l W ((hIn.out.1.keep HBw2.out).keep h) (hRw2.out.keep h) hIn.out.2.2)
  have hRp3 := hd_ (fun W (h : Below w2.heap.size w2 W) => And.intro (hRp2.out.keep h) (And.intro (hb6.out.keep h) (And.intro (hb1b.out.keep h) (hb2b.out.keep h))))
  have hEc := hd_ (hRE.out w2 v (hIn.out.1.keep HBw2.out))
  have hIn2 := hd_ (fun W (h : Below w2.heap.size w2 W) => (hIn.out.2.1.keep HBw2.out).keep h)
  generalize w1.heap.size = g6 at *
  simp only [Act.put]
  clear HB1 HB2 HB02 HRw HRp hg2 hb1 hb2 hLc hRw2 hRp2 hB0
  go_upto_region 3 with (first
    | (refine load_boxI ?hw 36 _ rfl w.heap.size 36 (stC seq v) _ rfl hb1b.out Try.underlying36 rfl infoSt ?_; (case hw => first | rfl | simp [Region.wanted, yielded]))
    | (go_at_call 21; (with_reducible refine hEc.out.mono ?_); rintro e w3 ⟨q3, rfl, HO3, HB3⟩))
  obtain ⟨rp3, b6c, b1c, b2c⟩ := hRp3.out w3 HB3
  have hPc := hd_ (hPE.out w3 pt rp3)
  clear hEc hRE
  go_upto_region 4 with (first
    | (refine load_boxI ?hw 36 _ rfl g6 36 (stC seq pt) _ rfl b6c Try.underlying36 rfl infoSt ?_; (case hw => first | rfl | simp [Region.wanted, yielded]))
    | (go_at_call 22; (with_reducible refine hPc.out.mono ?_); rintro e w4 ⟨q4, rfl, ⟨HN4, hf4⟩, HB4⟩))
  have HB24 := bel_trans HB3 HB4
  obtain ⟨rp4, b6d, b1d, b2d⟩ := hRp3.out w4 HB24
  have hPc := hd_ (hPS.out w4 pt rp4)
  clear b6c b1c b2c rp3 hPS
  go_upto_region 5 with (first
    | (refine load_boxI ?hw 36 _ rfl g6 36 (stC seq pt) _ rfl b6d Try.underlying36 rfl infoSt ?_; (case hw => first | rfl | simp [Region.wanted, yielded]))
    | (go_at_call 23; (with_reducible refine hPc.out.mono ?_); rintro e w5 ⟨rfl, HB5⟩))
  have HB25 := bel_trans HB24 HB5
  obtain ⟨rp5, b6e, b1e, b2e⟩ := hRp3.out w5 HB25
  have hPc := hd_ (hPC.out w5 pt rp5)
  have hO3 := hd_ (HO3.keep (bel_trans HB4 HB5))
  have hN4 := hd_ (HN4.keep HB5)
  have hf4 := hd_ (And.intro hf4 (fun k e => HN4.lt k e))
  have hl3 := HO3.rd.2.len (P := Try.prog) 22 5 3 Try.underlying22
  have hz45 := hd_ (And.intro HB4.size HB5.size)
  have hz3H := hd_ (Nat.le_trans HBw2.out.size HB3.size)
  have HB25 := hd_ HB25
  clear b6d b1d b2d rp4 hPC HB24 HO3 HN4 HB3 HB4 HB5
  go_upto_region 7 with (first
    | (refine load_boxI ?hw 36 _ rfl g6 36 (stC seq pt) _ rfl b6e Try.underlying36 rfl infoSt ?_; (case hw => first | rfl | simp [Region.wanted, yielded]))
    | (go_at_call 24; (with_reducible refine hPc.out.mono ?_); rintro e w6 ⟨rfl, HB6⟩; have hSm := hSame.out w6 q4 q3 M (hN4.out.keep HB6).rd (hO3.out.keep HB6).rd; have HB26 := bel_trans HB25.out HB6; obtain ⟨rp6, b6f, b1f, b2f⟩ := hRp3.out w6 HB26; have hK6 := hKp.out w6 HB26)
    | (go_at_call 25; (with_reducible refine hSm.mono ?_); rintro e wz ⟨rfl, rfl⟩)
    | (refine load_boxI ?hw 36 _ rfl w.heap.size 36 (stC seq v) _ rfl b1f Try.underlying36 rfl infoSt ?_; (case hw => first | rfl | simp [Region.wanted, yielded]))
    | (go_at_call 26; (with_reducible refine hK6.mono ?_); rintro e w7 ⟨rfl, HB7⟩))
  have HB67 := bel_trans HB6 HB7
  have HB27 := bel_trans HB25.out HB67
  have hO3 := hd_ (hO3.out.keep HB67)
  have hN4 := hd_ (hN4.out.keep HB67)
  obtain ⟨rp7, b6g, b1g, b2g⟩ := hRp3.out w7 HB27
  have hPc := hd_ (hPE2.out w7 v2 (hIn2.out w7 HB27))
  have hz57 := hd_ HB67.size
  have HB27 := hd_ HB27
  clear hSm rp6 b6f b1f b2f hK6 HB6 HB7 HB67 HB26 b6e b1e b2e rp5 hKp hl3
  go_upto_region 8 with (first
    | (refine load_boxI ?hw 36 _ rfl (w.heap.size + 1) 36 (stC seq2 v2) _ rfl b2g Try.underlying36 rfl infoSt ?_; (case hw => first | rfl | simp [Region.wanted, yielded]))
    | (go_at_call 22; (with_reducible refine hPc.out.mono ?_); rintro e w8 ⟨q8, rfl, ⟨HN8, hf8⟩, HB8⟩))
  have HB28 := bel_trans HB27.out HB8
  obtain ⟨rp8, b6h, b1h, b2h⟩ := hRp3.out w8 HB28
  have hPc := hd_ (hRE2.out w8 v2 (hIn2.out w8 HB28))
  clear rp7 b6g b1g b2g hPE2
  go_upto_region 9 with (first
    | (refine load_boxI ?hw 36 _ rfl (w.heap.size + 1) 36 (stC seq2 v2) _ rfl b2h Try.underlying36 rfl infoSt ?_; (case hw => first | rfl | simp [Region.wanted, yielded]))
    | (go_at_call 21; (with_reducible refine hPc.out.mono ?_); rintro e w9 ⟨q9, rfl, HO9, HB9⟩))
  have HB29 := bel_trans HB28 HB9
  obtain ⟨rp9, b6i, b1i, b2i⟩ := hRp3.out w9 HB29
  have hPc := hd_ (hPE.out w9 pt rp9)
  clear rp8 b6h b1h b2h hRE2 hPE
  go_upto_region 10 with (first
    | (refine load_boxI ?hw 36 _ rfl g6 36 (stC seq pt) _ rfl b6i Try.underlying36 rfl infoSt ?_; (case hw => first | rfl | simp [Region.wanted, yielded]))
    | (go_at_call 22; (with_reducible refine hPc.out.mono ?_); rintro e w10 ⟨q10, rfl, ⟨HN10, hf10⟩, HB10⟩))
  have HB89 := bel_trans HB9 HB10
  have HB7a := bel_trans HB8 HB89
  have HB2a := bel_trans HB27.out HB7a
  have o3 := hO3.out.keep HB7a
  have n4 := hN4.out.keep HB7a
  have n8 := HN8.keep HB89
  have o9 := HO9.keep HB10
  have hS1 := hd_ (hSame.out w10 q8 q9 M2 n8.rd o9.rd)
  have hS2 := hd_ (hSame.out w10 q10 q3 M HN10.rd o3.rd)
  obtain ⟨A4, c4, hq4⟩ := own_slice n4
  obtain ⟨A8, c8, hq8⟩ := own_slice n8
  obtain ⟨A10, c10, hq10⟩ := own_slice HN10
  have k4 := hf4.out.2
  have k8 : ∀ k, q8.ownBlock = some k → w7.heap.size ≤ k ∧ k < w8.heap.size := fun k e => ⟨hf8 k e, HN8.lt k e⟩
  have k10 : ∀ k, q10.ownBlock = some k → w9.heap.size ≤ k ∧ k < w10.heap.size := fun k e => ⟨hf10 k e, HN10.lt k e⟩
  have z1 := hz45.out
  have z2 := hz57.out
  have z8 := HB8.size
  have z9 := HB9.size
  have z10 := HB10.size
  have HBx := al1 (Below.refl w10.heap.size w10) (.cells #[q4, q8, q10] 22)
  have hbx := Box.new w10 #[q4, q8, q10] 22
  have hOw := hd_ (Own3_any q4 q8 q10 M M2 M w10.heap.size (w10.alloc (.cells #[q4, q8, q10] 22)) (n4.keep HBx) (n8.keep HBx) (HN10.keep HBx) (hbx.cell 0 rfl) (hbx.cell 1 rfl) (hbx.cell 2 rfl) hMb.out.1 hMb.out.2 hMb.out.1
    (fun k e e2 => by have := k4 k e; have := k8 k e2; omega) (fun k e e2 => by have := k4 k e; have := k10 k e2; omega) (fun k e e2 => by have := k8 k e; have := k10 k e2; omega)
    (fun e => by have := k4 _ e; omega) (fun e => by have := k8 _ e; omega) (fun e => by have := k10 _ e; omega))
  have hz3 : w.heap.size ≤ w3.heap.size := hz3H.out
  have hafter := hd_ (fun W (hC : Chg (fun k => q4.ownBlock = some k ∨ q8.ownBlock = some k ∨ q10.ownBlock = some k) (w10.alloc (.cells #[q4, q8, q10] 22)) W) => (show Below w.heap.size w W from hC.then (bel_trans (bel_trans HBw2.out HB2a) HBx) (fun k h2 => by
      have := hf4.out.1
      rcases h2 with h2 | h2 | h2
      · have := this k h2; omega
      · have := k8 k h2; omega
      · have := k10 k h2; omega) (bel_trans (bel_trans HBw2.out HB2a) HBx).size))
  rw [hq4, hq8, hq10] at hOw hafter
  subst hq4
  subst hq8
  subst hq10
  clear HB89 HB7a HB2a o3 n4 n8 o9 k4 k8 k10 z1 z2 z8 z9 z10 HBx hbx HN8 HO9 HN10 hf8 hf10 HB8 HB9 HB10 HB28 HB29 rp9 b6i b1i b2i hPc hz3
  go_wp2_with (first
    | (go_at_call 25; (with_reducible refine hS1.out.mono ?_); rintro e wz ⟨rfl, rfl⟩)
    | (go_at_call 25; (with_reducible refine hS2.out.mono ?_); rintro e wz ⟨rfl, rfl⟩)
    | (go_at_call 27; (with_reducible refine hOw.out.mono ?_); rintro e w12 ⟨rfl, hC12⟩; have hB12 := hafter.out _ hC12)
    | (go_at_call 19; (with_reducible refine (lives_any _).mono ?_); rintro e w13 ⟨rfl, HB13⟩))
  go_ret
  exact ⟨rfl, bel_trans hB12 HB13⟩
end Go.Proofs.Ytdmogbkfmeihfaa
