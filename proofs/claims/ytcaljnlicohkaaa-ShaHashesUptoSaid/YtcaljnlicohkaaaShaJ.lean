/- SHA-256: the document's block, walked. -/
import Derived.Test.YtcaljnlicohkaaaShaK
namespace Go.Proofs.Ytcaljnlicohkaaa
open Go.RowKit
set_option maxRecDepth 100000
set_option linter.unusedVariables false
set_option maxHeartbeats 4000000 in
theorem ref_block_any (s : List W32) (hs : s.length = 8) (v : Value) (B : List Int) (w : World) (HR : Rd w v B) (hB : 64 ≤ B.length) :
    Calls Try.prog 40 #[.agg (wA s), v] w fun e w' => e = .returned (.agg (wA (blk s B))) ∧ Below w.heap.size w w' := by
  have hb2 := Box.new w (wA s) 46
  have hB0 := al1 (Below.refl w.heap.size w) (.cells (wA s) 46)
  have hb4 := Box.new (w.alloc (.cells (wA s) 46)) (wA zeros8) 46
  have hB1 := al1 hB0 (.cells (wA zeros8) 46)
  have hb5 := Box.new ((w.alloc (.cells (wA s) 46)).alloc (.cells (wA zeros8) 46)) (wA zeros64) 87
  have hB2 := al1 hB1 (.cells (wA zeros64) 87)
  have hb2' := hb2.keep (al1 (al1 (Below.refl _ _) (.cells (wA zeros8) 46)) (.cells (wA zeros64) 87))
  have hb4' := hb4.keep (al1 (Below.refl _ _) (.cells (wA zeros64) 87))
  simp only [World.size_alloc] at hb4' hb5
  have hsz : (wA s).size = 8 := by rw [wA_size, hs]
  have h64 : zeros64 = sch B 0 := rfl
  rw [h64] at hb5
  clear hb2 hb4 hB0 hB1
  have HRR := hd_ HR
  clear HR
  go_enter Try.func40, Try.ntmps40
  go_upto_region 2 with fail
  simp only [zeros_lit, zeros8_lit]
  rw [h64] at hb2' hb4' hB2 ⊢
  generalize ((w.alloc (.cells (wA s) 46)).alloc (.cells (wA zeros8) 46)).alloc (.cells (wA (sch B 0)) 87) = W0 at *
  have hg : Hid (w.heap.size ≤ w.heap.size + 1 ∧ w.heap.size ≤ w.heap.size + 1 + 1 ∧ w.heap.size ≠ w.heap.size + 1 ∧ w.heap.size ≠ w.heap.size + 1 + 1 ∧ w.heap.size + 1 ≠ w.heap.size + 1 + 1) := hd_ (by omega)
  generalize w.heap.size + 1 + 1 = g5 at *
  generalize w.heap.size + 1 = g4 at *
  go_wp2
  go_loopw [6] (fun vi wr => ∃ k : Nat, k ≤ 64 ∧ vi = .int .i64 k ∧ Box wr w.heap.size 46 (wA s) ∧ Box wr g4 46 (wA zeros8) ∧ Box wr g5 87 (wA (sch B k)) ∧ Below w.heap.size w wr) (fun i _ => 64 - (intOf i).toNat)
  case atStart => exact ⟨0, Nat.zero_le _, rfl, hb2', hb4', hb5, hB2⟩
  case round =>
    clear hb2' hb4' hb5 hB2
    obtain ⟨k, hk, rfl, hb2, hb4, hb5, hbel⟩ := hrel
    by_cases hl64 : k < 64
    · by_cases hlt : k < 16
      · have HRr := HRR.out.keep hbel
        have hw0 : IntKind.i64.wrap (4 * (k : Int)) = ((4 * k : Nat) : Int) := by rw [IntKind.wrap_i64]; omega
        have hn := sch_byte (B := B) hlt
        unfold wordB at hn
        obtain ⟨bl0, of0, hi0, hc0⟩ := HRr.at (P := Try.prog) Try.underlying34 infoB .i64 (4 * k) (by omega)
        obtain ⟨bl1, of1, hi1, hc1⟩ := HRr.at (P := Try.prog) Try.underlying34 infoB .i64 (4 * k + 1) (by omega)
        obtain ⟨bl2, of2, hi2, hc2⟩ := HRr.at (P := Try.prog) Try.underlying34 infoB .i64 (4 * k + 2) (by omega)
        obtain ⟨bl3, of3, hi3, hc3⟩ := HRr.at (P := Try.prog) Try.underlying34 infoB .i64 (4 * k + 3) (by omega)
        obtain ⟨p00, p01⟩ := byte_at HRr.1 (show 4 * k < B.length by omega)
        obtain ⟨p10, p11⟩ := byte_at HRr.1 (show 4 * k + 1 < B.length by omega)
        obtain ⟨p20, p21⟩ := byte_at HRr.1 (show 4 * k + 2 < B.length by omega)
        obtain ⟨p30, p31⟩ := byte_at HRr.1 (show 4 * k + 3 < B.length by omega)
        generalize B.getD (4 * k) 0 = p0 at *
        generalize B.getD (4 * k + 1) 0 = p1 at *
        generalize B.getD (4 * k + 2) 0 = p2 at *
        generalize B.getD (4 * k + 3) 0 = p3 at *
        have hw1 : IntKind.i64.wrap (((4 * k : Nat) : Int) + 1) = ((4 * k + 1 : Nat) : Int) := by rw [IntKind.wrap_i64]; omega
        have hw2 : IntKind.i64.wrap (((4 * k : Nat) : Int) + 2) = ((4 * k + 2 : Nat) : Int) := by rw [IntKind.wrap_i64]; omega
        have hw3 : IntKind.i64.wrap (((4 * k : Nat) : Int) + 3) = ((4 * k + 3 : Nat) : Int) := by rw [IntKind.wrap_i64]; omega
        have hkI : (k : Int) < 64 := by omega
        have hlI : (k : Int) < 16 := by omega
        have hN := hd_ hn
        have hbe := hd_ (beS_i p00 p01 p10 p11 p20 p21 p30 p31)
        clear hn HRr
        generalize 4 * k + 1 = q1 at *
        generalize 4 * k + 2 = q2 at *
        generalize 4 * k + 3 = q3 at *
        generalize 4 * k = q0 at *
        go_wp2
        refine wp_region_mid 35 _ _ rfl (by kernel_rfl) (by kernel_rfl) ?_
        simp only [List.take_succ_cons, List.take_zero]
        repeat (go_big_quiet_step (fail))
        refine wpQuiet_nil ?_
        intro W1 hW1
        obtain ⟨nq, rfl⟩ := hW1
        have HB1 := hd_ (below_drewN (Below.refl wr.heap.size wr) nq)
        have hbel1 := hd_ (below_drewN hbel nq)
        generalize wr.drewN nq = W1 at *
        have hb5' := hb5.keep HB1.out
        have HB24 := hd_ (And.intro (hb2.keep HB1.out) (hb4.keep HB1.out))
        have hcell := wA_load hb5' k (by rw [sch_length]; omega)
        have hfro := hb5'.frozen k
        clear hi0 hi1 hi2 hi3 hc0 hc1 hc2 hc3 hb2 hb4 hb5 hbel
        generalize beW (b32 p0) (b32 p1) (b32 p2) (b32 p3) = x at *
        generalize (sch B k).getD k 0#32 = y at *
        go_wp2
        refine MidK.go ?_
        refine wpQuiet_nil ?_
        intro W2 hW2
        obtain ⟨nq2, rfl⟩ := hW2
        obtain ⟨g3, g4'⟩ := hb5'.put k (wv x)
        rw [wA_set, ← hN.out] at g3
        go_wp2
        rw [hbe.out]
        exact ⟨⟨k + 1, by omega, by go_num, (HB24.out.1.grown g4' (by have := hg.out; intro h; injection h with h; omega)).drewN _, (HB24.out.2.grown g4' (by have := hg.out; intro h; injection h with h; omega)).drewN _, g3.drewN _, below_drewN (below_row hbel1.out g4' hg.out.2.1 hbel1.out.size) _⟩, by simp [intOf]; omega⟩
      · have hlt64 : k < 64 := hl64
        have hk0 : 16 ≤ k := by omega
        have hlI : ¬ (k : Int) < 16 := by omega
        have hn := sch_word (B := B) hlt
        unfold schW sig0 sig1 at hn
        have hw15 : IntKind.i64.wrap ((k : Int) - 15) = ((k - 15 : Nat) : Int) := by rw [IntKind.wrap_i64]; omega
        have hw2 : IntKind.i64.wrap ((k : Int) - 2) = ((k - 2 : Nat) : Int) := by rw [IntKind.wrap_i64]; omega
        have hw16 : IntKind.i64.wrap ((k : Int) - 16) = ((k - 16 : Nat) : Int) := by rw [IntKind.wrap_i64]; omega
        have hw7 : IntKind.i64.wrap ((k : Int) - 7) = ((k - 7 : Nat) : Int) := by rw [IntKind.wrap_i64]; omega
        have hc15 := wA_load hb5 (k - 15) (by rw [sch_length]; omega)
        have hc2 := wA_load hb5 (k - 2) (by rw [sch_length]; omega)
        have hl16 : Hid (k - 16 < 64 ∧ k - 7 < 64 ∧ (sch B k).length = 64) := hd_ ⟨by omega, by omega, sch_length B k⟩
        have i15 : ((k - 15 : Nat) : Int) < 64 := by omega
        have i2 : ((k - 2 : Nat) : Int) < 64 := by omega
        have i16 : ((k - 16 : Nat) : Int) < 64 := by omega
        have i7 : ((k - 7 : Nat) : Int) < 64 := by omega
        have hkI : (k : Int) < 64 := by omega
        have HB2' := hd_ hb2
        have HB4' := hd_ hb4
        have HB5' := hd_ hb5
        have HBL := hd_ hbel
        clear hb2 hb4 hb5 hbel
        generalize (sch B k).getD (k - 15) 0#32 = x at *
        generalize (sch B k).getD (k - 2) 0#32 = y at *
        obtain ⟨z, hz⟩ : ∃ z, z = (sch B k).getD (k - 16) 0#32 := ⟨_, rfl⟩
        obtain ⟨u, hu⟩ : ∃ u, u = (sch B k).getD (k - 7) 0#32 := ⟨_, rfl⟩
        rw [← hz, ← hu] at hn
        have HZ := hd_ hz
        have HU := hd_ hu
        clear hz hu
        generalize k - 15 = k15 at *
        generalize k - 2 = k2 at *
        generalize k - 16 = k16 at *
        generalize k - 7 = k7 at *
        have hN := hd_ hn
        clear hn
        have t7 : Hid (∀ W, Calls Try.prog 49 #[.int .u32 (I x), .int .i64 7] W fun en w' => en = .returned (.int .u32 (I (rot x 7))) ∧ ∃ m, w' = W.drewN m) := hd_ (ref_turn_any x 7 (by decide))
        have t18 : Hid (∀ W, Calls Try.prog 49 #[.int .u32 (I x), .int .i64 18] W fun en w' => en = .returned (.int .u32 (I (rot x 18))) ∧ ∃ m, w' = W.drewN m) := hd_ (ref_turn_any x 18 (by decide))
        have t17 : Hid (∀ W, Calls Try.prog 49 #[.int .u32 (I y), .int .i64 17] W fun en w' => en = .returned (.int .u32 (I (rot y 17))) ∧ ∃ m, w' = W.drewN m) := hd_ (ref_turn_any y 17 (by decide))
        have t19 : Hid (∀ W, Calls Try.prog 49 #[.int .u32 (I y), .int .i64 19] W fun en w' => en = .returned (.int .u32 (I (rot y 19))) ∧ ∃ m, w' = W.drewN m) := hd_ (ref_turn_any y 19 (by decide))
        have hxor := xor_I
        have HX := hd_ (schw_i x y z u)
        go_wp2
        go_quiet (fail)
        go_wp2
        have hb2 := hd_ (HB2'.out.drewN nq)
        have hb4 := hd_ (HB4'.out.drewN nq)
        have hb5 := HB5'.out.drewN nq
        have hbel := hd_ (below_drewN HBL.out nq)
        have hc16 := wA_load hb5 k16 (by rw [hl16.out.2.2]; exact hl16.out.1)
        have hc7 := wA_load hb5 k7 (by rw [hl16.out.2.2]; exact hl16.out.2.1)
        rw [← HZ.out] at hc16
        rw [← HU.out] at hc7
        have hb5' := hd_ hb5
        clear hb5 HB2' HB4' HB5' HBL hc15 hc2
        generalize wr.drewN nq = W1 at *
        refine wp_region_mid 29 _ _ rfl (by kernel_rfl) (by kernel_rfl) ?_
        simp only [List.take_succ_cons, List.take_zero]
        repeat (go_big_quiet_step ((go_at_call 49; with_reducible first
          | exact Calls.quiet_of (t7.out _)
          | exact Calls.quiet_of (t18.out _)
          | exact Calls.quiet_of (t17.out _)
          | exact Calls.quiet_of (t19.out _))))
        refine wpQuiet_nil ?_
        intro W2 hW2
        obtain ⟨nq2, rfl⟩ := hW2
        have hb5 := hb5'.out.drewN nq2
        have hbel2 := hd_ (below_drewN hbel.out nq2)
        have hb2q := hd_ (hb2.out.drewN nq2)
        have hb4q := hd_ (hb4.out.drewN nq2)
        clear hb5' hbel hb2 hb4 t7 t18 t17 t19 hxor hc16 hc7
        generalize W1.drewN nq2 = W3 at *
        have hcell := wA_load hb5 k (by rw [sch_length]; omega)
        have hfro := hb5.frozen k
        generalize ((z + (rot x 7 ^^^ rot x 18 ^^^ x >>> 3)) + u) + (rot y 17 ^^^ rot y 19 ^^^ y >>> 10) = X at *
        generalize (sch B k).getD k 0#32 = old at *
        go_wp2
        refine MidK.go ?_
        refine wpQuiet_nil ?_
        intro W4 hW4
        obtain ⟨nq3, rfl⟩ := hW4
        obtain ⟨g3, g4'⟩ := hb5.put k (wv X)
        rw [wA_set, ← hN.out] at g3
        go_wp2
        rw [HX.out]
        exact ⟨⟨k + 1, by omega, by go_num, (hb2q.out.grown g4' (by have := hg.out; intro h; injection h with h; omega)).drewN _, (hb4q.out.grown g4' (by have := hg.out; intro h; injection h with h; omega)).drewN _, g3.drewN _, below_drewN (below_row hbel2.out g4' hg.out.2.1 hbel2.out.size) _⟩, by simp [intOf]; omega⟩
    · obtain rfl : k = 64 := by omega
      clear hl64 hk
      have HBel := hd_ hbel
      have hbs := hb2
      go_upto_region 10 with (first
        | (go_at_call 50; refine (ref_rounds_any _).mono ?_; rintro e w1 ⟨rfl, HB1⟩)
        | (refine store_box rfl 87 _ _ rfl _ _ _ (wA roundsL) rfl rfl (Box.new _ _ _) infoKr (by rw [wA_size]; rfl) (wA_one _) ?_; intro w2 hbk hg2))
      have HBk := below_row (al1 HB1 _) hg2 HB1.size (Nat.le_trans HB1.size (size_al _ _))
      have hbs2 := hbs.keep HBk
      have hb4k := hb4.keep HBk
      have hb5k := hb5.keep HBk
      have HBK := hd_ (bel_trans HBel.out HBk)
      clear HBel hbs hb2 hb4 hb5 hbel HBk hg2 HB1
      generalize w1.heap.size = gk at *
      have hiw : (Try.prog.info? 46).map (·.size) = some (wA s).size := by rw [hsz]; exact infoW8
      go_upto_region 11 with (first
        | (refine load_box rfl 46 _ rfl _ 46 (wA s) _ rfl hbs2 Try.underlying46 rfl hiw ?_)
        | (refine store_box rfl 46 _ _ rfl _ _ _ (wA s) rfl rfl (Box.new _ _ _) hiw (by rw [hsz]; rfl) (wA_one _) ?_; intro w3 hbv hg3))
      have HBv := below_row (al1 (Below.refl w2.heap.size w2) _) hg3 (Nat.le_refl _) (size_al _ _)
      have hbs3 := hbs2.keep HBv
      have hb4v := hb4k.keep HBv
      have hb5v := hb5k.keep HBv
      have hbkv := hbk.keep HBv
      have HBV := bel_trans HBK.out HBv
      have hgn : Hid (w.heap.size ≤ w2.heap.size ∧ w.heap.size ≠ w2.heap.size ∧ g4 ≠ w2.heap.size ∧ g5 ≠ w2.heap.size ∧ gk ≠ w2.heap.size) := hd_ ⟨HBK.out.size, by have := hbs2.lt; omega, by have := hb4k.lt; omega, by have := hb5k.lt; omega, by have := hbk.lt; omega⟩
      clear hbs2 hb4k hb5k hbk HBK hg3 HBv
      generalize w2.heap.size = gv at *
      go_wp2
      go_loopw [11] (fun vi wr => ∃ i : Nat, i ≤ 64 ∧ vi = .int .i64 i ∧ Box wr w.heap.size 46 (wA s) ∧ Box wr g4 46 (wA zeros8) ∧ Box wr g5 87 (wA (sch B 64)) ∧ Box wr gk 87 (wA roundsL) ∧ Box wr gv 46 (wA (rnds s (sch B 64) i)) ∧ Below w.heap.size w wr) (fun i _ => 64 - (intOf i).toNat)
      case atStart => exact ⟨0, Nat.zero_le _, rfl, hbs3, hb4v, hb5v, hbkv, hbv, HBV⟩
      case round =>
        clear hbs3 hb4v hb5v hbkv hbv HBV
        obtain ⟨i, hi, rfl, hb2, hb4, hb5, hbk, hbv, hbel⟩ := hrel
        by_cases hlt : i < 64
        · have hiI : (i : Int) < 64 := by omega
          have hR : Hid (i < roundsL.length) := hd_ hlt
          have hS : Hid (i < (sch B 64).length) := hd_ (by rw [sch_length]; exact hlt)
          obtain ⟨a, b, c, d, e, f, g, h, hl⟩ := eight (rnds_length hs (sch B 64) i)
          have hn : rnds s (sch B 64) (i + 1) = rnd (roundsL.getD i 0#32) ((sch B 64).getD i 0#32) (rnds s (sch B 64) i) := rfl
          rw [hl] at hn hbv
          obtain ⟨kk, hkk⟩ : ∃ kk, kk = roundsL.getD i 0#32 := ⟨_, rfl⟩
          obtain ⟨ww, hww⟩ : ∃ ww, ww = (sch B 64).getD i 0#32 := ⟨_, rfl⟩
          rw [← hkk, ← hww] at hn
          unfold rnd t1W t2W at hn
          have HKK := hd_ hkk
          have HWW := hd_ hww
          clear hkk hww
          have hN := hd_ hn
          have H2 := hd_ hb2
          have H4 := hd_ hb4
          have H5 := hd_ hb5
          have HK := hd_ hbk
          have HV := hd_ hbv
          have HL := hd_ hbel
          clear hb2 hb4 hb5 hbk hbv hbel hn hl
          have hxor := xor_I
          have hand := and_I
          have hnot := not_I
          have hsg := u32_signed
          have t6 : Hid (∀ W, Calls Try.prog 49 #[.int .u32 (I e), .int .i64 6] W fun en w' => en = .returned (.int .u32 (I (rot e 6))) ∧ ∃ m, w' = W.drewN m) := hd_ (ref_turn_any e 6 (by decide))
          have t11 : Hid (∀ W, Calls Try.prog 49 #[.int .u32 (I e), .int .i64 11] W fun en w' => en = .returned (.int .u32 (I (rot e 11))) ∧ ∃ m, w' = W.drewN m) := hd_ (ref_turn_any e 11 (by decide))
          have t25 : Hid (∀ W, Calls Try.prog 49 #[.int .u32 (I e), .int .i64 25] W fun en w' => en = .returned (.int .u32 (I (rot e 25))) ∧ ∃ m, w' = W.drewN m) := hd_ (ref_turn_any e 25 (by decide))
          have t2 : Hid (∀ W, Calls Try.prog 49 #[.int .u32 (I a), .int .i64 2] W fun en w' => en = .returned (.int .u32 (I (rot a 2))) ∧ ∃ m, w' = W.drewN m) := hd_ (ref_turn_any a 2 (by decide))
          have t13 : Hid (∀ W, Calls Try.prog 49 #[.int .u32 (I a), .int .i64 13] W fun en w' => en = .returned (.int .u32 (I (rot a 13))) ∧ ∃ m, w' = W.drewN m) := hd_ (ref_turn_any a 13 (by decide))
          have t22 : Hid (∀ W, Calls Try.prog 49 #[.int .u32 (I a), .int .i64 22] W fun en w' => en = .returned (.int .u32 (I (rot a 22))) ∧ ∃ m, w' = W.drewN m) := hd_ (ref_turn_any a 22 (by decide))
          have hbv := HV.out
          have v0 : wr.cell? ⟨gv, 0, none⟩ = some (.int .u32 (I a)) := hbv.cell 0 rfl
          have v1 : wr.cell? ⟨gv, 1, none⟩ = some (.int .u32 (I b)) := hbv.cell 1 rfl
          have v2 : wr.cell? ⟨gv, 2, none⟩ = some (.int .u32 (I c)) := hbv.cell 2 rfl
          have v3 : wr.cell? ⟨gv, 3, none⟩ = some (.int .u32 (I d)) := hbv.cell 3 rfl
          have v4 : wr.cell? ⟨gv, 4, none⟩ = some (.int .u32 (I e)) := hbv.cell 4 rfl
          have v5 : wr.cell? ⟨gv, 5, none⟩ = some (.int .u32 (I f)) := hbv.cell 5 rfl
          have v6 : wr.cell? ⟨gv, 6, none⟩ = some (.int .u32 (I g)) := hbv.cell 6 rfl
          have v7 : wr.cell? ⟨gv, 7, none⟩ = some (.int .u32 (I h)) := hbv.cell 7 rfl
          have kc := wA_load HK.out i hR.out
          have wc := wA_load H5.out i hS.out
          rw [← HKK.out] at kc
          rw [← HWW.out] at wc
          clear hbv
          go_wp2
          go_quiet (fail)
          go_wp2
          have H2p := hd_ (H2.out.drewN nq)
          have H4p := hd_ (H4.out.drewN nq)
          have H5p := hd_ (H5.out.drewN nq)
          have HKp := hd_ (HK.out.drewN nq)
          have HVp := hd_ (HV.out.drewN nq)
          have HLp := hd_ (below_drewN HL.out nq)
          clear H2 H4 H5 HK HV HL v0 v1 v2 v3 v4 v5 v6 v7 kc wc
          generalize wr.drewN nq = W1 at *
          have hbv := HVp.out
          have v0 : W1.cell? ⟨gv, 0, none⟩ = some (.int .u32 (I a)) := hbv.cell 0 rfl
          have v1 : W1.cell? ⟨gv, 1, none⟩ = some (.int .u32 (I b)) := hbv.cell 1 rfl
          have v2 : W1.cell? ⟨gv, 2, none⟩ = some (.int .u32 (I c)) := hbv.cell 2 rfl
          have v3 : W1.cell? ⟨gv, 3, none⟩ = some (.int .u32 (I d)) := hbv.cell 3 rfl
          have v4 : W1.cell? ⟨gv, 4, none⟩ = some (.int .u32 (I e)) := hbv.cell 4 rfl
          have v5 : W1.cell? ⟨gv, 5, none⟩ = some (.int .u32 (I f)) := hbv.cell 5 rfl
          have v6 : W1.cell? ⟨gv, 6, none⟩ = some (.int .u32 (I g)) := hbv.cell 6 rfl
          have v7 : W1.cell? ⟨gv, 7, none⟩ = some (.int .u32 (I h)) := hbv.cell 7 rfl
          have kc := wA_load HKp.out i hR.out
          have wc := wA_load H5p.out i hS.out
          rw [← HKK.out] at kc
          rw [← HWW.out] at wc
          clear hbv
          go_quiet ((go_at_call 49; with_reducible first
            | exact Calls.quiet_of (t6.out _)
            | exact Calls.quiet_of (t11.out _)
            | exact Calls.quiet_of (t25.out _)))
          rw [add5_I]
          generalize ((((h + (rot e 6 ^^^ rot e 11 ^^^ rot e 25)) + ((e &&& f) ^^^ ((e ^^^ ones) &&& g))) + kk) + ww) = T1 at *
          go_wp2
          have H2q := hd_ (H2p.out.drewN nq)
          have H4q := hd_ (H4p.out.drewN nq)
          have H5q := hd_ (H5p.out.drewN nq)
          have HKq := hd_ (HKp.out.drewN nq)
          have HVq := hd_ (HVp.out.drewN nq)
          have HLq := hd_ (below_drewN HLp.out nq)
          clear H2p H4p H5p HKp HVp HLp v0 v1 v2 v3 v4 v5 v6 v7 kc wc t6 t11 t25
          generalize W1.drewN nq = W2 at *
          have hbv := HVq.out
          have v0 : W2.cell? ⟨gv, 0, none⟩ = some (.int .u32 (I a)) := hbv.cell 0 rfl
          have v1 : W2.cell? ⟨gv, 1, none⟩ = some (.int .u32 (I b)) := hbv.cell 1 rfl
          have v2 : W2.cell? ⟨gv, 2, none⟩ = some (.int .u32 (I c)) := hbv.cell 2 rfl
          have v3 : W2.cell? ⟨gv, 3, none⟩ = some (.int .u32 (I d)) := hbv.cell 3 rfl
          have v4 : W2.cell? ⟨gv, 4, none⟩ = some (.int .u32 (I e)) := hbv.cell 4 rfl
          have v5 : W2.cell? ⟨gv, 5, none⟩ = some (.int .u32 (I f)) := hbv.cell 5 rfl
          have v6 : W2.cell? ⟨gv, 6, none⟩ = some (.int .u32 (I g)) := hbv.cell 6 rfl
          have v7 : W2.cell? ⟨gv, 7, none⟩ = some (.int .u32 (I h)) := hbv.cell 7 rfl
          clear hbv
          go_quiet ((go_at_call 49; with_reducible first
            | exact Calls.quiet_of (t2.out _)
            | exact Calls.quiet_of (t13.out _)
            | exact Calls.quiet_of (t22.out _)))
          rw [add_I]
          generalize (rot a 2 ^^^ rot a 13 ^^^ rot a 22) + (((a &&& b) ^^^ (a &&& c)) ^^^ (b &&& c)) = T2 at *
          have H2r := hd_ (H2q.out.drewN nq)
          have H4r := hd_ (H4q.out.drewN nq)
          have H5r := hd_ (H5q.out.drewN nq)
          have HKr := hd_ (HKq.out.drewN nq)
          have HVr := hd_ (HVq.out.drewN nq)
          have HLr := hd_ (below_drewN HLq.out nq)
          clear H2q H4q H5q HKq HVq HLq v0 v1 v2 v3 v4 v5 v6 v7 t2 t13 t22
          generalize W2.drewN nq = W3 at *
          have hbv := HVr.out
          have v0 : W3.cell? ⟨gv, 0, none⟩ = some (.int .u32 (I a)) := hbv.cell 0 rfl
          have v1 : W3.cell? ⟨gv, 1, none⟩ = some (.int .u32 (I b)) := hbv.cell 1 rfl
          have v2 : W3.cell? ⟨gv, 2, none⟩ = some (.int .u32 (I c)) := hbv.cell 2 rfl
          have v3 : W3.cell? ⟨gv, 3, none⟩ = some (.int .u32 (I d)) := hbv.cell 3 rfl
          have v4 : W3.cell? ⟨gv, 4, none⟩ = some (.int .u32 (I e)) := hbv.cell 4 rfl
          have v5 : W3.cell? ⟨gv, 5, none⟩ = some (.int .u32 (I f)) := hbv.cell 5 rfl
          have v6 : W3.cell? ⟨gv, 6, none⟩ = some (.int .u32 (I g)) := hbv.cell 6 rfl
          have v7 : W3.cell? ⟨gv, 7, none⟩ = some (.int .u32 (I h)) := hbv.cell 7 rfl
          have hs1 := add_I T1 T2
          have hs2 := add_I d T1
          clear hbv hxor hand hnot hsg
          have hbw := HVr.out
          go_wp2_with (refine store_box rfl 46 _ _ rfl gv 46 _ (wA [T1 + T2, a, b, c, d + T1, e, f, g]) rfl (by simp only [wA, wv, List.map, ← add_I]; rfl) hbw infoW8 rfl (wA_one _) ?_; intro w9 hb9 hg9)
          have e9 : wA [T1 + T2, a, b, c, d + T1, e, f, g] = wA (rnds s (sch B 64) (i + 1)) := by rw [hN.out]
          rw [e9] at hb9
          exact ⟨⟨i + 1, by omega, by go_num, H2r.out.grown hg9 (by have := hgn.out; intro h; injection h with h; omega), H4r.out.grown hg9 (by have := hgn.out; intro h; injection h with h; omega), H5r.out.grown hg9 (by have := hgn.out; intro h; injection h with h; omega), HKr.out.grown hg9 (by have := hgn.out; intro h; injection h with h; omega), hb9, below_row HLr.out hg9 hgn.out.1 HLr.out.size⟩, by simp [intOf]; omega⟩
        · obtain rfl : i = 64 := by omega
          have hV := rnds_length hs (sch B 64) 64
          have hE : Hid (blk s B = fins s (rnds s (sch B 64) 64) 8) := hd_ rfl
          generalize rnds s (sch B 64) 64 = V at *
          clear hb5 hbk hlt hi
          go_upto_region 19 with fail
          go_loopw [16] (fun vi wr => ∃ k : Nat, k ≤ 8 ∧ vi = .int .i64 k ∧ Box wr w.heap.size 46 (wA s) ∧ Box wr g4 46 (wA zeros8) ∧ Box wr gv 46 (wA (fins s V k)) ∧ Below w.heap.size w wr) (fun i _ => 8 - (intOf i).toNat)
          case atStart => exact ⟨0, Nat.zero_le _, rfl, hb2, hb4, hbv, hbel⟩
          case round =>
            clear hb2 hb4 hbv hbel
            obtain ⟨k, hk, rfl, hb2, hb4, hbv, hbel⟩ := hrel
            by_cases hlt : k < 8
            · have hkI : (k : Int) < 8 := by omega
              have hn : fins s V (k + 1) = (fins s V k).set k ((fins s V k).getD k 0#32 + s.getD k 0#32) := rfl
              have c1 := wA_load hbv k (by rw [fins_length, hV]; exact hlt)
              have c2 := wA_load hb2 k (by rw [hs]; exact hlt)
              have HX := hd_ (add_I ((fins s V k).getD k 0#32) (s.getD k 0#32))
              have H2 := hd_ hb2
              have H4 := hd_ hb4
              have HV := hd_ hbv
              have HL := hd_ hbel
              have hN := hd_ hn
              clear hb2 hb4 hbv hbel hn
              generalize (fins s V k).getD k 0#32 = x at *
              generalize s.getD k 0#32 = y at *
              go_wp2
              refine wp_region_mid 8 _ _ rfl (by kernel_rfl) (by kernel_rfl) ?_
              simp only [List.take_succ_cons, List.take_zero]
              repeat (go_big_quiet_step (fail))
              refine wpQuiet_nil ?_
              intro W1 hW1
              obtain ⟨nq, rfl⟩ := hW1
              have H2p := hd_ (H2.out.drewN nq)
              have H4p := hd_ (H4.out.drewN nq)
              have hbv := HV.out.drewN nq
              have HLp := hd_ (below_drewN HL.out nq)
              clear H2 H4 HV HL c1 c2
              generalize wr.drewN nq = W1 at *
              have hcell := wA_load hbv k (by rw [fins_length, hV]; exact hlt)
              have hfro := hbv.frozen k
              generalize (fins s V k).getD k 0#32 = old at *
              go_wp2
              refine MidK.go ?_
              refine wpQuiet_nil ?_
              intro W4 hW4
              obtain ⟨nq3, rfl⟩ := hW4
              obtain ⟨g3, g4'⟩ := hbv.put k (wv (x + y))
              rw [wA_set, ← hN.out] at g3
              go_wp2
              rw [HX.out]
              exact ⟨⟨k + 1, by omega, by go_num, (H2p.out.grown g4' (by have := hgn.out; intro h; injection h with h; omega)).drewN _, (H4p.out.grown g4' (by have := hgn.out; intro h; injection h with h; omega)).drewN _, g3.drewN _, below_drewN (below_row HLp.out g4' hgn.out.1 HLp.out.size) _⟩, by simp [intOf]; omega⟩
            · obtain rfl : k = 8 := by omega
              have hi8 : (Try.prog.info? 46).map (·.size) = some (wA (fins s V 8)).size := by rw [wA_size, fins_length, hV]; exact infoW8
              go_wp2_with (first
                | (refine load_box rfl 46 _ rfl gv 46 (wA (fins s V 8)) _ rfl hbv Try.underlying46 rfl hi8 ?_)
                | (refine store_box rfl 46 _ _ rfl g4 46 _ (wA (fins s V 8)) rfl rfl hb4 hi8 (by rw [wA_size, wA_size, fins_length, hV]; rfl) (wA_one _) ?_; intro w9 hb9 hg9))
              refine bodyPost_ret (results_cell1 rfl _ _ _ rfl (run_load_box _ _ _ _ _ hb9 Try.underlying46 rfl hi8)) rfl ⟨by rw [hE.out], below_row hbel hg9 hg.out.1 hbel.size⟩
end Go.Proofs.Ytcaljnlicohkaaa
