import Derived.Test.YtilmmohkdgmhnaaFrameY
namespace Go.Proofs.Ytilmmohkdgmhnaa
open Go.RowKit
set_option maxRecDepth 100000
set_option linter.unusedVariables false
set_option maxHeartbeats 4000000 in
theorem law_FrameFlips (w : World) (cs : Array Value) (hs : cs.size = 2) (x : Int × List Int × Unit) (r : RFrame w cs.toList x) (cs2 : Array Value) (hs2 : cs2.size = 3) (y : List Int) (r2 : RInts .u64 3 w cs2.toList y) :
    Calls Try.prog 15 #[.agg cs, .agg cs2] w fun e w' => e = .returned (.bool true) ∧ Below w.heap.size w w' := by
  obtain ⟨k, A, c, body, rfl, hk, hR, hl⟩ := frame_of hs r
  clear r hs x
  obtain ⟨k0, k1⟩ := wf_i64 hk
  clear hk
  obtain ⟨hy, hcy, hwy⟩ := r2
  have hcell2 : ∀ i, i < 3 → ∃ b : Nat, b < 2 ^ 64 ∧ cs2[i]? = some (.int .u64 (b : Int)) := by
    intro i hi
    have h1 : i < y.length := by omega
    obtain ⟨b, hb, hb2⟩ := wf_u64 (hwy _ (List.getElem_mem h1))
    refine ⟨b, hb2, ?_⟩
    rw [← Array.getElem?_toList, hcy, List.getElem?_map, List.getElem?_eq_getElem h1, ← hb]
    rfl
  have HC2 := hd_ hcell2
  clear hy hcy hwy hcell2
  have hb63 := hR.lt63
  have hBy := hR.1
  have q0 : ((w.alloc (.cells #[.int .i64 k, .slice A body.length c] 28)).alloc (.cells cs2 86)).cell? ⟨w.heap.size, 0, none⟩ = some (.int .i64 k) := cell_keep (al1 (Below.refl _ _) _) (World.cell?_alloc_at _ _ _ 0 rfl)
  have q1 : ((w.alloc (.cells #[.int .i64 k, .slice A body.length c] 28)).alloc (.cells cs2 86)).cell? ⟨w.heap.size, 1, none⟩ = some (.slice A body.length c) := cell_keep (al1 (Below.refl _ _) _) (World.cell?_alloc_at _ _ _ 1 rfl)
  have hbits : Box ((w.alloc (.cells #[.int .i64 k, .slice A body.length c] 28)).alloc (.cells cs2 86)) (w.alloc (.cells #[.int .i64 k, .slice A body.length c] 28)).heap.size 86 cs2 := Box.new _ _ _
  rw [World.size_alloc] at hbits
  have hB := al1 (al1 (Below.refl w.heap.size w) (.cells #[.int .i64 k, .slice A body.length c] 28)) (.cells cs2 86)
  go_enter Try.func15, Try.ntmps15
  go_upto_region 1 with fail
  generalize (w.alloc (.cells #[.int .i64 k, .slice A body.length c] 28)).alloc (.cells cs2 86) = W0 at *
  generalize w.heap.size + 1 = g2 at *
  have hR0 := hR.keep hB
  go_wp2_with fail
  refine (may_any k A body.length c hb63 _).mono ?_
  rintro e w2 ⟨rfl, HB2⟩
  by_cases hm : 1 ≤ k ∧ k ≤ 255 ∧ body.length ≤ 1048576
  · rw [decide_eq_true hm]
    have s0 := cell_keep HB2 q0
    have s1 := cell_keep HB2 q1
    have e1 : encE k body = 0 := by unfold encE; rw [if_neg (by omega), if_neg (by omega)]
    have e2 : encL k body = encB k body := by unfold encL; rw [if_neg (by omega), if_neg (by omega)]
    obtain ⟨o1, o2, o3⟩ := one_enc k body hm.1 hm.2.2
    have hL := encB_length k body
    have hEB := enc_bytes hBy hm.1 hm.2.1 hm.2.2
    have hfd : Hid (∀ s : List Nat, (∀ a ∈ s, a < 8 * (body.length + 14)) → s.Nodup → s.length ≤ 3 → turns (encB k body) s ≠ encB k body → decE (turns (encB k body) s) ≠ 0) := hd_ fun s a1 a2 a3 a4 => flips_dec hBy hm.1 hm.2.1 hm.2.2 a1 a2 a3 a4
    go_wp2_with fail
    refine (frame_Encode_any k _ body _ (hR0.keep HB2)).mono ?_
    rintro e w3 ⟨v3, rfl, HO3, HB3⟩
    obtain ⟨A3, c3, rfl, _⟩ := own_slice HO3
    rw [e1, e2]
    rw [e2] at HO3
    rw [hL] at HO3 ⊢
    have hm20 : Hid (body.length ≤ 1048576) := hd_ hm.2.2
    clear e1 e2 hm
    generalize encB k body = B at *
    have s03 := cell_keep HB3 s0
    have s13 := cell_keep HB3 s1
    have HR3 := HO3.rd
    have hB3 := bel_trans hB (bel_trans HB2 HB3)
    have hbits3 := hbits.keep (bel_trans HB2 HB3)
    go_wp2_with fail
    refine (frame_One_any _ _ _ HR3).mono ?_
    rintro e w4 ⟨v4, rfl, HO4, HB4⟩
    rw [o1, o2]
    rw [o3] at HO4
    obtain ⟨A4, c4, rfl, _⟩ := own_slice HO4
    have hBX := al1 (Below.refl w4.heap.size w4) (.cells #[.int .i64 k, .slice A4 body.length c4] 28)
    have t0 : (w4.alloc (.cells #[.int .i64 k, .slice A4 body.length c4] 28)).cell? ⟨w4.heap.size, 0, none⟩ = some (.int .i64 k) := World.cell?_alloc_at _ _ _ 0 rfl
    have t1 : (w4.alloc (.cells #[.int .i64 k, .slice A4 body.length c4] 28)).cell? ⟨w4.heap.size, 1, none⟩ = some (.slice A4 body.length c4) := World.cell?_alloc_at _ _ _ 1 rfl
    have hW5 := bel_trans HB4 hBX
    have s05 := cell_keep hW5 s03
    have s15 := cell_keep hW5 s13
    have HR5 := HR3.keep hW5
    have HV5 := (hR.keep hB3).keep hW5
    have HG5 := HO4.rd.keep hBX
    have hB5 := bel_trans hB3 hW5
    have hbits5 := hbits3.keep hW5
    clear o1 o2 o3 HO3 HO4 hBX hbits hbits3 q0 q1 s0 s1 s03 s13 HB2 HB3 HB4 hW5 hB3 HR3
    go_upto_region 5 with fail
    generalize w4.alloc (.cells #[.int .i64 k, .slice A4 body.length c4] 28) = W5 at *
    generalize w4.heap.size = g4 at *
    go_wp2_with fail
    refine (is_true k A body.length c A4 body.length c4 body _ HV5 HG5).mono ?_
    rintro e w6 ⟨rfl, HB6⟩
    have HR6 := HR5.keep HB6
    have s06 := cell_keep HB6 s05
    have s16 := cell_keep HB6 s15
    have hB6 := bel_trans hB5 HB6
    have hbits6 := hbits5.keep HB6
    clear HV5 HG5 t0 t1 HR5 hbits5 s05 s15 hB5 HB6
    have hnil : Hid (([] : List Int).length + B.length ≤ 140737488355328) := hd_ (by rw [hL, List.length_nil]; have := hm20.out; omega)
    have hL20 := hm20.out
    go_upto_region 9 with (at_builtin; (refine app_bytes (w0 := w6) w6.heap.size rfl _ _ 24 5 rfl Try.underlying24 info8 (.slice none 0 0) _ [] B rfl rfl (own_nil8 _ _ _) HR6 (Below.refl _ _) (Nat.le_refl _) hnil.out ?_); intro v7 w7 HO7 HB7 hg7 hat7; rw [List.nil_append] at HO7)
    obtain ⟨gc, cp, rfl, hgc, hle, hcp, hx1, hx2⟩ := HO7.slot (by intro h; rw [h] at hL; simp at hL)
    clear hx1 hx2 hg7 hat7 hnil
    rw [hL] at HO7 hle ⊢
    have HLL := hd_ hL
    clear hL
    have hH0 : Hid ((∀ a ∈ ([] : List Nat), a < 8 * (body.length + 14)) ∧ ([] : List Nat).Nodup) := hd_ ⟨fun a h => absurd h (by simp), List.nodup_nil⟩
    go_wp2
    go_loopw [11] (fun vi wr => ∃ (i : Nat) (s : List Nat), i ≤ 3 ∧ vi = .int .i64 i ∧ Own wr w6.heap.size 5 (.slice (some ⟨gc, 0, none⟩) (body.length + 14) cp) (turns B s) ∧ Below w6.heap.size w6 wr ∧ s.length ≤ i ∧ Hid ((∀ a ∈ s, a < 8 * (body.length + 14)) ∧ s.Nodup)) (fun i _ => 3 - (intOf i).toNat)
    case atStart => exact ⟨0, [], by omega, rfl, HO7, HB7, by simp, hH0⟩
    case round =>
      clear HO7 HB7 hH0
      obtain ⟨i, s, hi, rfl, HO, HB, hsi, HS⟩ := hrel
      by_cases hlt : i < 3
      · obtain ⟨b, hb, hcs⟩ := HC2.out i hlt
        have hcellb := (hbits6.keep HB).cell i hcs
        obtain ⟨hs1, hs2⟩ := HS.out
        have hbL : b % (8 * (body.length + 14)) < 8 * (body.length + 14) := Nat.mod_lt _ (by omega)
        have hmod : ((b : Int) % (8 * ((body.length : Int) + 14))) = ((b % (8 * (body.length + 14)) : Nat) : Int) := by
          rw [show (8 * ((body.length : Int) + 14)) = ((8 * (body.length + 14) : Nat) : Int) by omega]; exact (Int.natCast_emod _ _).symm
        clear hcs
        generalize b % (8 * (body.length + 14)) = a at *
        obtain ⟨t1, t2, t3⟩ := tog_ok hs1 hs2 hbL
        have hT : turns B (tog s a) = (turns B s).set (a / 8) (turnB ((turns B s).getD (a / 8) 0) (a % 8)) := tog_turns hEB (fun b' hb' => by rw [HLL.out]; exact hs1 b' hb') a
        have hlen : (turns B s).length = body.length + 14 := by rw [turns_length, HLL.out]
        have hq : a / 8 < body.length + 14 := by omega
        have hcell : wr.cell? ⟨gc, a / 8, none⟩ = some (.int .u8 ((turns B s).getD (a / 8) 0)) := by
          obtain ⟨g', cp', he, _, _, _, h1, _⟩ := HO.slot (by intro h; rw [h] at hlen; simp at hlen)
          simp at he
          obtain ⟨⟨rfl, _⟩, _⟩ := he
          exact h1 _ (by omega)
        have hfz : wr.frozen? ⟨gc, a / 8, none⟩ = false := by have h1 := HO.2; rw [hlen] at h1; exact h1.frozenAt _
        obtain ⟨x0, x1⟩ := bytes_at (turns_bytes hEB (fun b' hb' => by rw [HLL.out]; exact hs1 b' hb')) (a / 8)
        have e1 : ((a : Int) / 8) = ((a / 8 : Nat) : Int) := by omega
        have e2 : ((a : Int) % 8) = ((a % 8 : Nat) : Int) := by omega
        have hj : a % 8 < 8 := Nat.mod_lt _ (by decide)
        have htb := turnB_range x0 x1 hj
        have hres := frame_xor_turn x0 x1 hj
        have HOP := (HO.put (a / 8) _ htb.1 htb.2).1
        rw [← hT] at HOP
        have HBP := below_put HO HB HB.size (a / 8) (.int .u8 (turnB ((turns B s).getD (a / 8) 0) (a % 8)))
        have hdec := fun h => hfd.out (tog s a) t1 t2 (by omega) h
        have HT3 : Hid ((tog s a).length ≤ i + 1) := hd_ (by omega)
        have HT12 := hd_ (And.intro t1 t2)
        have hC14 : (turns B (tog s a)).length = body.length + 14 := by rw [turns_length, HLL.out]
        have hCb := turns_bytes hEB (s := tog s a) (fun b' hb' => by rw [HLL.out]; exact t1 b' hb')
        clear hT hlen hs1 hs2 t1 t2 t3 HS
        have str1 := HOP.rd.str (P := Try.prog) 24 5 9 Try.underlying24 Try.underlying5 Try.underlying9
        have str2 := (HR6.keep HBP).str (P := Try.prog) 24 5 9 Try.underlying24 Try.underlying5 Try.underlying9
        have s0p := cell_keep HBP s06
        have s1p := cell_keep HBP s16
        have hseq := str_eq hCb hEB
        generalize turnB ((turns B s).getD (a / 8) 0) (a % 8) = z at *
        generalize (turns B s).getD (a / 8) 0 = x at *
        generalize a / 8 = q at *
        generalize a % 8 = jj at *
        have hqI : (q : Int) < (body.length : Int) + 14 := by omega
        by_cases hCB : turns B (tog s a) = B
        · have hneq : ((strOfNums (turns B (tog s a))).toList != (strOfNums B).toList) = false := by rw [bne, hseq, decide_eq_true hCB]; rfl
          have hP : (strOfNums (turns B (tog s a))).toList = (strOfNums B).toList := by rw [hCB]
          clear hseq hdec hCB
          generalize hSS : strOfNums (turns B (tog s a)) = S1 at *
          clear hSS
          generalize strOfNums B = S2 at *
          go_wp2
          go_roundw
          case rel => exact ⟨i + 1, tog s a, by omega, by go_num, HOP, HBP, HT3.out, HT12⟩
          case measure => (simp [intOf]; try omega)
        · have hneq : ((strOfNums (turns B (tog s a))).toList != (strOfNums B).toList) = true := by rw [bne, hseq, decide_eq_false hCB]; rfl
          have hP : ¬ (strOfNums (turns B (tog s a))).toList = (strOfNums B).toList := fun h => by rw [h] at hneq; simp at hneq
          have hD := hdec hCB
          have hF1 : ∀ f ∈ foundIn 1048576 (turns B (tog s a)), f.2.length ≠ body.length := fun f hf => by have := found_short hCb hC14 hD f hf; omega
          have hF2 := found_bare hCb hD
          have hRef := refused_any k A body.length c (.slice (some ⟨gc, 0, none⟩) (body.length + 14) cp) (turns B (tog s a)) _ HOP.rd (by omega) (by omega) hb63 hD hF1 hF2
          clear hseq hdec hD hF1 hF2
          generalize hSS : strOfNums (turns B (tog s a)) = S1 at *
          clear hSS
          generalize strOfNums B = S2 at *
          go_wp2_with (go_at_call 44; refine hRef.mono ?_; rintro e w9 ⟨rfl, HB9⟩)
          have HOP9 := HOP.keep HB9
          have HBP9 := bel_trans HBP HB9
          go_roundw
          case rel => exact ⟨i + 1, tog s a, by omega, by go_num, HOP9, HBP9, HT3.out, HT12⟩
          case measure => (simp [intOf]; try omega)
      · go_wp2
        go_ret
        exact ⟨rfl, bel_trans hB6 HB⟩
  · rw [decide_eq_false hm]
    go_wp2
    go_ret
    exact ⟨rfl, bel_trans hB HB2⟩
end Go.Proofs.Ytilmmohkdgmhnaa
