import Derived.Test.YtdifppahpihhpaaCrcS
namespace Go.Proofs.Ytdifppahpihhpaa
open Go.RowKit
set_option maxRecDepth 100000
set_option linter.unusedVariables false
theorem cut_arr {W : World} {g n : Nat} {bs : List Nat} (hn : bs.length = n) (hm : n ≤ maxLen) (hc : ∀ j, j < n → W.cell? ⟨g, j, none⟩ = (bs.map (fun (b : Nat) => Value.int .u64 (b : Int)))[j]?) {k : Nat} (hk : k ≤ n) :
    RdC 1 W (.slice (some ⟨g, 0, none⟩) k n) (bs.take k).length ((bs.take k).map (fun (b : Nat) => Value.int .u64 (b : Int))) := by
  have hl : (bs.take k).length = k := by rw [List.length_take]; omega
  rw [hl]
  refine ⟨by rw [List.length_map, hl, Nat.mul_one], _, _, rfl, hk, hm, (fun h => by cases h), fun j hj => ⟨_, 0, rfl, ?_⟩⟩
  rw [List.length_map, hl] at hj
  rw [Nat.zero_add, hc j (by omega), List.map_take, List.getElem?_take_of_lt hj]
set_option maxHeartbeats 1000000 in
theorem law_CrcFlips (w : World) (v : Value) (l : List Int) (HR : Rd w v l) (hl : l.length ≤ 140737488351232) (cs : Array Value) (hs : cs.size = 3) (xs : List Int) (r : RInts .u64 3 w cs.toList xs) :
    Calls Try.prog 11 #[v, .agg cs] w fun e w' => e = .returned (.bool true) ∧ Below w.heap.size w w' := by
  obtain ⟨bs, hbl, hbc, hb64⟩ : ∃ bs : List Nat, bs.length = 3 ∧ cs.toList = bs.map (fun (b : Nat) => Value.int .u64 (b : Int)) ∧ ∀ b ∈ bs, b < 2 ^ 64 := by
    obtain ⟨h1, h2, h3⟩ := r
    refine ⟨xs.map Int.toNat, by rw [List.length_map, h1], ?_, ?_⟩
    · rw [h2, List.map_map]
      refine List.map_congr_left fun x hx => ?_
      obtain ⟨m, rfl, _⟩ := wf_u64 (h3 x hx)
      rfl
    · intro b hb
      obtain ⟨x, hx, rfl⟩ := List.mem_map.1 hb
      obtain ⟨m, rfl, hm⟩ := wf_u64 (h3 x hx)
      simpa using hm
  clear r xs
  have hlb := HR.1
  have hlen := fun W => HR.2.len (P := Try.prog) 23 5 3 Try.underlying23 W
  have HH := hd_ (holds_seal l)
  have HSL := hd_ (seal_length l)
  have hcell0 : ∀ j, j < 3 → (w.alloc (.cells cs 47)).cell? ⟨w.heap.size, j, none⟩ = (bs.map (fun (b : Nat) => Value.int .u64 (b : Int)))[j]? := fun j hj => by
    rw [World.cell?_alloc_at _ _ _ j (by omega), ← hbc]
    try simp
  have hB0 := al1 (Below.refl w.heap.size w) (.cells cs 47)
  by_cases hbig : 134217724 < l.length
  · go_enter Try.func11, Try.ntmps11
    go_wp2_with (go_at_call 27; refine (awake_any _).mono ?_; rintro e w1 ⟨rfl, hb1⟩)
    go_ret
    exact ⟨rfl, bel_trans hB0 hb1⟩
  · go_enter Try.func11, Try.ntmps11
    go_upto_region 1 with fail
    generalize w.alloc (.cells cs 47) = W0 at *
    generalize hgg : w.heap.size = g at hcell0
    have HC := hd_ hcell0
    have HB0 := hd_ hB0
    have hgg2 := hd_ hgg
    clear hcell0 hB0 hgg
    obtain ⟨Av, cv, rfl, _⟩ := HR.form
    go_wp2_with fail
    refine (awake_any _).mono ?_
    rintro e w1 ⟨rfl, hb1⟩
    have B1 := bel_trans HB0.out hb1
    have A1 := al1 B1 (.cells #[.slice Av l.length cv] 23)
    have HR1 := HR.keep B1
    go_wp2_with fail
    refine (crc_Sum_any _ _ _ (crc_Sum_one _ _ _ HR1 HR1.one)).mono ?_
    rintro e w2 ⟨rfl, hb2⟩
    rw [List.flatten_singleton]
    generalize hz2 : I (sumW l) = z2
    have HZ := hd_ hz2
    clear hz2
    have B2 := bel_trans A1 hb2
    go_wp2_with fail
    refine (crc_Seal_any _ l _ (HR.keep B2) (by omega)).mono ?_
    rintro e w3 ⟨vs, rfl, HS, hb3⟩
    have B3 := bel_trans B2 hb3
    have hlen2 := fun W => HS.rd.2.len (P := Try.prog) 23 5 3 Try.underlying23 W
    rw [HSL.out] at hlen2
    go_wp2_with fail
    refine (crc_Holds_any _ _ _ HS.rd (by rw [HSL.out]; omega)).mono ?_
    rintro e w4 ⟨rfl, hb4⟩
    rw [HH.out]
    have B4' := bel_trans B3 hb4
    have HSR := hd_ (HS.rd.keep hb4)
    have HC4 : Hid (∀ j, j < 3 → w4.cell? ⟨g, j, none⟩ = (bs.map (fun (b : Nat) => Value.int .u64 (b : Int)))[j]?) := fun j hj => by
      have h1 := HC.out j hj
      obtain ⟨u, hu⟩ : ∃ u, (bs.map (fun (b : Nat) => Value.int .u64 (b : Int)))[j]? = some u := ⟨_, List.getElem?_eq_getElem (by rw [List.length_map]; omega)⟩
      rw [hu] at h1 ⊢
      exact cell_keep (bel_trans (bel_trans (bel_trans (bel_trans hb1 (al1 (Below.refl _ _) (.cells #[.slice Av l.length cv] 23))) hb2) hb3) hb4) h1
    clear hb1 hb2 hb3 hb4 HC A1 HR1 B1 B2 B3 HB0
    go_wp2
    go_loopw [7] (fun vi wr => ∃ k : Nat, 1 ≤ k ∧ k ≤ 4 ∧ vi = .int .i64 k ∧ Below w4.heap.size w4 wr) (fun vi _ => 4 - (intOf vi).toNat)
    case atStart => exact ⟨1, by omega, by omega, rfl, Below.refl _ _⟩
    case round =>
      obtain ⟨k, hk1, hk4, rfl, HB⟩ := hrel
      by_cases hlt : k ≤ 3
      · have HU : ∀ W, Below w4.heap.size w4 W → RdC 1 W (.slice (some ⟨g, 0, none⟩) k 3) (bs.take k).length ((bs.take k).map (fun (b : Nat) => Value.int .u64 (b : Int))) := fun W hW => cut_arr hbl (by decide) (fun j hj => by
          have h1 := HC4.out j hj
          obtain ⟨u, hu⟩ : ∃ u, (bs.map (fun (b : Nat) => Value.int .u64 (b : Int)))[j]? = some u := ⟨_, List.getElem?_eq_getElem (by rw [List.length_map]; omega)⟩
          rw [hu] at h1 ⊢
          exact cell_keep hW h1) hlt
        have hbs : ∀ b ∈ bs.take k, b < 2 ^ 64 := fun b hb => hb64 b (List.mem_of_mem_take hb)
        have hbk : (bs.take k).length ≤ 3 := by rw [List.length_take]; omega
        go_wp2_with fail
        refine (flipped_told _ _ l (bs.take k) _ (HR.keep (bel_trans B4' HB)) (HU _ HB) hbs (by omega) hbk).mono ?_
        rintro e w5 ⟨vq, n, q, rfl, hTq, hn3, HQ, hb5⟩
        have B5 := bel_trans HB hb5
        go_wp2_with fail
        refine (flipped_told _ _ _ (bs.take k) _ (HSR.out.keep B5) (HU _ B5) hbs (by rw [HSL.out]; omega) hbk).mono ?_
        rintro e w6 ⟨vt, m, t, rfl, hTt, hm3, HT, hb6⟩
        have B6 := bel_trans B5 hb6
        have HQ6 := HQ.rd.keep hb6
        obtain ⟨Aq, cq, rfl, _⟩ := HQ6.form
        have htl := hd_ (hTt.length.trans HSL.out)
        have A6 := al1 B6 (.cells #[.slice Aq q.length cq] 23)
        have hq1 : 0 < n → (I (sumW q) == z2) = false := fun h => by
          rw [← HZ.out]
          rw [decide_eq_true h] at hTq
          exact beq_eq_false_iff_ne.2 fun h => hTq.sum hlb (I_inj h)
        have ht1 : 0 < m → holdsB t = false := fun h => by
          rw [decide_eq_true h] at hTt
          exact hTt.holds (seal_bytes hlb) HH.out
        clear hTq hTt HU hbs hbk
        by_cases hn : 0 < n
        · replace hq1 := hq1 hn
          go_wp2_with fail
          refine (crc_Sum_any _ _ _ (crc_Sum_one _ _ _ HQ6 HQ6.one)).mono ?_
          rintro e w7 ⟨rfl, hb7⟩
          rw [List.flatten_singleton]
          have B7 := bel_trans A6 hb7
          have HT7 := HT.rd.keep (bel_trans (al1 (Below.refl _ _) (.cells #[.slice Aq q.length cq] 23)) hb7)
          generalize I (sumW q) = z1 at *
          have hq3 : ¬ z1 = z2 := beq_eq_false_iff_ne.1 hq1
          by_cases hmm : 0 < m
          · replace ht1 := ht1 hmm
            go_wp2_with fail
            refine (crc_Holds_any _ _ _ HT7 (by rw [htl.out]; omega)).mono ?_
            rintro e w8 ⟨rfl, hb8⟩
            rw [ht1]
            clear ht1
            go_wp2
            go_roundw
            case rel => exact ⟨k + 1, by omega, by omega, by go_num, bel_trans B7 hb8⟩
            case measure => (simp [intOf]; try omega)
          · clear ht1
            go_wp2
            go_roundw
            case rel => exact ⟨k + 1, by omega, by omega, by go_num, B7⟩
            case measure => (simp [intOf]; try omega)
        · clear hq1
          by_cases hmm : 0 < m
          · replace ht1 := ht1 hmm
            go_wp2_with fail
            refine (crc_Holds_any _ _ _ HT.rd (by rw [htl.out]; omega)).mono ?_
            rintro e w8 ⟨rfl, hb8⟩
            rw [ht1]
            clear ht1
            go_wp2
            go_roundw
            case rel => exact ⟨k + 1, by omega, by omega, by go_num, bel_trans B6 hb8⟩
            case measure => (simp [intOf]; try omega)
          · clear ht1
            go_wp2
            go_roundw
            case rel => exact ⟨k + 1, by omega, by omega, by go_num, B6⟩
            case measure => (simp [intOf]; try omega)
      · obtain rfl : k = 4 := by omega
        clear HC4
        go_wp2
        go_ret
        exact ⟨rfl, bel_trans B4' HB⟩
end Go.Proofs.Ytdifppahpihhpaa
