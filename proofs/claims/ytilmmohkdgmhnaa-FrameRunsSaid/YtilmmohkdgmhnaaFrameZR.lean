import Derived.Test.YtilmmohkdgmhnaaFrameY
namespace Go.Proofs.Ytilmmohkdgmhnaa
open Go.RowKit
set_option maxRecDepth 100000
set_option linter.unusedVariables false
set_option maxHeartbeats 4000000 in
theorem law_FrameRuns (w : World) (cs : Array Value) (hs : cs.size = 2) (x : Int × List Int × Unit) (r : RFrame w cs.toList x) (fr : Int) (hfr : (Lit.int .u64 fr).wf = true) (ww : Int) (hww : (Lit.int .u32 ww).wf = true) :
    Calls Try.prog 16 #[.agg cs, .int .u64 fr, .int .u32 ww] w fun e w' => e = .returned (.bool true) ∧ Below w.heap.size w w' := by
  obtain ⟨k, A, c, body, rfl, hk, hR, hl⟩ := frame_of hs r
  clear r hs x
  obtain ⟨k0, k1⟩ := wf_i64 hk
  clear hk
  obtain ⟨F, rfl, hF64⟩ := wf_u64 hfr
  obtain ⟨w0', w1'⟩ := wf_u32 hww
  obtain ⟨xw, rfl⟩ := word_of w0' w1'
  clear hfr hww w0' w1'
  have hb63 := hR.lt63
  have hBy := hR.1
  have q0 : (w.alloc (.cells #[.int .i64 k, .slice A body.length c] 28)).cell? ⟨w.heap.size, 0, none⟩ = some (.int .i64 k) := World.cell?_alloc_at _ _ _ 0 rfl
  have q1 : (w.alloc (.cells #[.int .i64 k, .slice A body.length c] 28)).cell? ⟨w.heap.size, 1, none⟩ = some (.slice A body.length c) := World.cell?_alloc_at _ _ _ 1 rfl
  have hB := al1 (Below.refl w.heap.size w) (.cells #[.int .i64 k, .slice A body.length c] 28)
  go_enter Try.func16, Try.ntmps16
  go_upto_region 1 with fail
  generalize w.alloc (.cells #[.int .i64 k, .slice A body.length c] 28) = W0 at *
  have hR0 := hR.keep hB
  go_wp2_with fail
  refine (may_any k A body.length c hb63 _).mono ?_
  rintro e w2 ⟨rfl, HB2⟩
  by_cases hm : 1 ≤ k ∧ k ≤ 255 ∧ body.length ≤ 1048576
  · rw [decide_eq_true hm]
    have s0 := cell_keep HB2 q0
    have s1 := cell_keep HB2 q1
    have e1 : encE k body = 0 := by unfold encE; rw [if_neg (by omega), if_neg (by omega)]
    have e2 : encL k body = encB k body := by unfold encL; rw [if_neg (by omega), if_neg (by omega)]
    obtain ⟨o1, o2, o3⟩ := one_enc k body hm.1 hm.2.2
    have hL := encB_length k body
    have hEB := enc_bytes hBy hm.1 hm.2.1 hm.2.2
    have hfd : Hid (∀ f m : Nat, m ≤ 32 → f + m ≤ 8 * (body.length + 14) → turns (encB k body) (runPlaces f xw m) ≠ encB k body → decE (turns (encB k body) (runPlaces f xw m)) ≠ 0) := hd_ fun f m a1 a2 a3 => runs_dec hBy hm.1 hm.2.1 hm.2.2 a1 a2 a3
    go_wp2_with fail
    refine (frame_Encode_any k _ body _ (hR0.keep HB2)).mono ?_
    rintro e w3 ⟨v3, rfl, HO3, HB3⟩
    obtain ⟨A3, c3, rfl, _⟩ := own_slice HO3
    rw [e1, e2]
    rw [e2] at HO3
    rw [hL] at HO3 ⊢
    have hm20 : Hid (body.length ≤ 1048576) := hd_ hm.2.2
    clear e1 e2 hm
    generalize encB k body = B at *
    have s03 := cell_keep HB3 s0
    have s13 := cell_keep HB3 s1
    have HR3 := HO3.rd
    have hB3 := bel_trans hB (bel_trans HB2 HB3)
    go_wp2_with fail
    refine (frame_One_any _ _ _ HR3).mono ?_
    rintro e w4 ⟨v4, rfl, HO4, HB4⟩
    rw [o1, o2]
    rw [o3] at HO4
    obtain ⟨A4, c4, rfl, _⟩ := own_slice HO4
    have hBX := al1 (Below.refl w4.heap.size w4) (.cells #[.int .i64 k, .slice A4 body.length c4] 28)
    have t0 : (w4.alloc (.cells #[.int .i64 k, .slice A4 body.length c4] 28)).cell? ⟨w4.heap.size, 0, none⟩ = some (.int .i64 k) := World.cell?_alloc_at _ _ _ 0 rfl
    have t1 : (w4.alloc (.cells #[.int .i64 k, .slice A4 body.length c4] 28)).cell? ⟨w4.heap.size, 1, none⟩ = some (.slice A4 body.length c4) := World.cell?_alloc_at _ _ _ 1 rfl
    have hW5 := bel_trans HB4 hBX
    have s05 := cell_keep hW5 s03
    have s15 := cell_keep hW5 s13
    have HR5 := HR3.keep hW5
    have HV5 := (hR.keep hB3).keep hW5
    have HG5 := HO4.rd.keep hBX
    have hB5 := bel_trans hB3 hW5
    clear o1 o2 o3 HO3 HO4 hBX q0 q1 s0 s1 s03 s13 HB2 HB3 HB4 hW5 hB3 HR3
    go_upto_region 5 with fail
    generalize w4.alloc (.cells #[.int .i64 k, .slice A4 body.length c4] 28) = W5 at *
    generalize w4.heap.size = g4 at *
    go_wp2_with fail
    refine (is_true k A body.length c A4 body.length c4 body _ HV5 HG5).mono ?_
    rintro e w6 ⟨rfl, HB6⟩
    have HR6 := HR5.keep HB6
    have s06 := cell_keep HB6 s05
    have s16 := cell_keep HB6 s15
    have hB6 := bel_trans hB5 HB6
    clear HV5 HG5 t0 t1 HR5 s05 s15 hB5 HB6
    have hnil : Hid (([] : List Int).length + B.length ≤ 140737488355328) := hd_ (by rw [hL, List.length_nil]; have := hm20.out; omega)
    have hL20 := hm20.out
    go_upto_region 9 with (at_builtin; (refine app_bytes (w0 := w6) w6.heap.size rfl _ _ 24 5 rfl Try.underlying24 info8 (.slice none 0 0) _ [] B rfl rfl (own_nil8 _ _ _) HR6 (Below.refl _ _) (Nat.le_refl _) hnil.out ?_); intro v7 w7 HO7 HB7 hg7 hat7; rw [List.nil_append] at HO7)
    obtain ⟨gc, cp, rfl, hgc, hle, hcp, hx1, hx2⟩ := HO7.slot (by intro h; rw [h] at hL; simp at hL)
    clear hx1 hx2 hg7 hat7 hnil
    rw [hL] at HO7 hle ⊢
    have HLL := hd_ hL
    clear hL
    have hbL : F % (8 * (body.length + 14)) < 8 * (body.length + 14) := Nat.mod_lt _ (by omega)
    have hmod : ((F : Int) % (8 * ((body.length : Int) + 14))) = ((F % (8 * (body.length + 14)) : Nat) : Int) := by
      rw [show (8 * ((body.length : Int) + 14)) = ((8 * (body.length + 14) : Nat) : Int) by omega]; exact (Int.natCast_emod _ _).symm
    obtain ⟨f, hf⟩ : ∃ f, F % (8 * (body.length + 14)) = f := ⟨_, rfl⟩
    rw [hf] at hbL hmod
    clear hf
    go_wp2
    go_loopw [13] (fun vi wr => ∃ i : Nat, i ≤ 32 ∧ vi = .int .u64 i ∧ Own wr w6.heap.size 5 (.slice (some ⟨gc, 0, none⟩) (body.length + 14) cp) (turns B (runPlaces f xw (min i (8 * (body.length + 14) - f)))) ∧ Below w6.heap.size w6 wr) (fun i _ => 32 - (intOf i).toNat)
    case atStart => exact ⟨0, by omega, rfl, by rw [Nat.zero_min]; exact HO7, HB7⟩
    case round =>
      clear HO7 HB7
      obtain ⟨i, hi, rfl, HO, HB⟩ := hrel
      have hpl : ∀ b' ∈ runPlaces f xw (min i (8 * (body.length + 14) - f)), b' < 8 * B.length := fun b' hb' => by have := runPlaces_lt f xw _ b' hb'; rw [HLL.out]; omega
      have hlen : (turns B (runPlaces f xw (min i (8 * (body.length + 14) - f)))).length = body.length + 14 := by rw [turns_length, HLL.out]
      by_cases hlt : i < 32
      · by_cases hin : f + i < 8 * (body.length + 14)
        · have eM : min i (8 * (body.length + 14) - f) = i := by omega
          have eM1 : min (i + 1) (8 * (body.length + 14) - f) = i + 1 := by omega
          rw [eM] at HO hpl hlen
          have hbit := bitk_i (I_lo xw) (I_hi xw) i
          rw [b32_I] at hbit
          have hq : (f + i) / 8 < body.length + 14 := by omega
          have hcell : wr.cell? ⟨gc, (f + i) / 8, none⟩ = some (.int .u8 ((turns B (runPlaces f xw i)).getD ((f + i) / 8) 0)) := by
            obtain ⟨g', cp', he, _, _, _, h1, _⟩ := HO.slot (by intro h; rw [h] at hlen; simp at hlen)
            simp at he
            obtain ⟨⟨rfl, _⟩, _⟩ := he
            exact h1 _ (by omega)
          have hfz : wr.frozen? ⟨gc, (f + i) / 8, none⟩ = false := by have h1 := HO.2; rw [hlen] at h1; exact h1.frozenAt _
          obtain ⟨x0, x1⟩ := bytes_at (turns_bytes hEB hpl) ((f + i) / 8)
          have e1 : (((f : Int) + (i : Int)) / 8) = (((f + i) / 8 : Nat) : Int) := by omega
          have e2 : (((f : Int) + (i : Int)) % 8) = (((f + i) % 8 : Nat) : Int) := by omega
          have hj : (f + i) % 8 < 8 := Nat.mod_lt _ (by decide)
          have htb := turnB_range x0 x1 hj
          have hres := frame_xor_turn x0 x1 hj
          have HOP := (HO.put ((f + i) / 8) _ htb.1 htb.2).1
          have HBP := below_put HO HB HB.size ((f + i) / 8) (.int .u8 (turnB ((turns B (runPlaces f xw i)).getD ((f + i) / 8) 0) ((f + i) % 8)))
          have hT : Hid ((turns B (runPlaces f xw i)).set ((f + i) / 8) (turnB ((turns B (runPlaces f xw i)).getD ((f + i) / 8) 0) ((f + i) % 8)) = turns B ((f + i) :: runPlaces f xw i)) := hd_ rfl
          have hEM1 := hd_ eM1
          have hEM := hd_ eM
          have d2 : (f : Int) + (i : Int) < 8 * ((body.length : Int) + 14) := by omega
          clear eM eM1 hlen hpl
          generalize turnB ((turns B (runPlaces f xw i)).getD ((f + i) / 8) 0) ((f + i) % 8) = z at *
          generalize (turns B (runPlaces f xw i)).getD ((f + i) / 8) 0 = x at *
          generalize (f + i) / 8 = q at *
          generalize (f + i) % 8 = jj at *
          have hqI : (q : Int) < (body.length : Int) + 14 := by omega
          cases hb : xw.getLsbD i
          · rw [hb] at hbit
            clear e1 e2 hcell hfz hres HOP HBP
            go_wp2
            go_roundw
            case rel => exact ⟨i + 1, by omega, by go_num, by rw [hEM1.out, runPlaces, hb]; exact HO, HB⟩
            case measure => (simp [intOf]; try omega)
          · rw [hb] at hbit
            have E1 := hd_ e1
            have E2 := hd_ e2
            clear e1 e2
            go_upto_region 14 with fail
            have e1 := E1.out
            have e2 := E2.out
            go_wp2
            go_roundw
            case rel => exact ⟨i + 1, by omega, by go_num, by rw [hEM1.out, runPlaces, hb, if_pos rfl, ← hT.out]; exact HOP, HBP⟩
            case measure => (simp [intOf]; try omega)
        · have eM1 : min (i + 1) (8 * (body.length + 14) - f) = min i (8 * (body.length + 14) - f) := by omega
          have hEM1 := hd_ eM1
          have d2 : ¬ (f : Int) + (i : Int) < 8 * ((body.length : Int) + 14) := by omega
          clear eM1 hlen hpl
          go_wp2
          go_roundw
          case rel => exact ⟨i + 1, by omega, by go_num, by rw [hEM1.out]; exact HO, HB⟩
          case measure => (simp [intOf]; try omega)
      · obtain rfl : i = 32 := by omega
        obtain ⟨M, hM⟩ : ∃ M, min 32 (8 * (body.length + 14) - f) = M := ⟨_, rfl⟩
        have hM1 : M ≤ 32 := by omega
        have hM2 : f + M ≤ 8 * (body.length + 14) := by omega
        rw [hM] at HO hpl hlen
        clear hM
        have hCb := turns_bytes hEB hpl
        have hdec := fun h => hfd.out f M hM1 hM2 h
        have hseq := str_eq hCb hEB
        have str1 := HO.rd.str (P := Try.prog) 24 5 9 Try.underlying24 Try.underlying5 Try.underlying9
        have str2 := (HR6.keep HB).str (P := Try.prog) 24 5 9 Try.underlying24 Try.underlying5 Try.underlying9
        have s0p := cell_keep HB s06
        have s1p := cell_keep HB s16
        have hBB := bel_trans hB6 HB
        clear hmod hM1 hM2 hbL
        by_cases hCB : turns B (runPlaces f xw M) = B
        · have hneq : ((strOfNums (turns B (runPlaces f xw M))).toList == (strOfNums B).toList) = true := by rw [hseq, decide_eq_true hCB]
          have hP : (strOfNums (turns B (runPlaces f xw M))).toList = (strOfNums B).toList := by rw [hCB]
          clear hseq hdec hCB
          generalize hSS : strOfNums (turns B (runPlaces f xw M)) = S1 at *
          clear hSS
          generalize strOfNums B = S2 at *
          go_wp2
          go_ret
          exact ⟨rfl, hBB⟩
        · have hneq : ((strOfNums (turns B (runPlaces f xw M))).toList == (strOfNums B).toList) = false := by rw [hseq, decide_eq_false hCB]
          have hP : ¬ (strOfNums (turns B (runPlaces f xw M))).toList = (strOfNums B).toList := fun h => by rw [h] at hneq; simp at hneq
          have hD := hdec hCB
          have hF1 : ∀ f' ∈ foundIn 1048576 (turns B (runPlaces f xw M)), f'.2.length ≠ body.length := fun f' hf => by have := found_short hCb hlen hD f' hf; omega
          have hF2 := found_bare hCb hD
          have hRef := refused_any k A body.length c (.slice (some ⟨gc, 0, none⟩) (body.length + 14) cp) (turns B (runPlaces f xw M)) _ HO.rd (by omega) (by omega) hb63 hD hF1 hF2
          clear hseq hdec hD hF1 hF2
          generalize hSS : strOfNums (turns B (runPlaces f xw M)) = S1 at *
          clear hSS
          generalize strOfNums B = S2 at *
          go_wp2_with (go_at_call 44; refine hRef.mono ?_; rintro e w9 ⟨rfl, HB9⟩)
          go_ret
          exact ⟨rfl, bel_trans hBB HB9⟩
  · rw [decide_eq_false hm]
    go_wp2
    go_ret
    exact ⟨rfl, bel_trans hB HB2⟩
end Go.Proofs.Ytilmmohkdgmhnaa
