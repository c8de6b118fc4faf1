import Derived.Test.YtilmmohkdgmhnaaSpA
namespace Go.Proofs.Ytilmmohkdgmhnaa
open Go.RowKit
set_option maxRecDepth 100000
set_option linter.unusedVariables false
def TurnS (B C : List Int) : Prop :=
  (∃ s : List Nat, C = turns B s ∧ (∀ a ∈ s, a < 8 * B.length) ∧ s.Nodup ∧ s.length ≤ 3) ∨ (∃ (f : Nat) (x : W32) (m : Nat), C = turns B (runPlaces f x m) ∧ m ≤ 32 ∧ f + m ≤ 8 * B.length)
def TurnRet (w : World) (B : List Int) (e : Ending) (w' : World) : Prop :=
  ∃ g cap C, e = .returned (.slice (some ⟨g, 0, none⟩) B.length cap) ∧ FzRow w' g B.length cap C ∧ TurnS B C ∧ Below w.heap.size w w'
set_option maxHeartbeats 4000000 in
theorem turned_any (vb : Value) (B : List Int) (at_ mask : Int) (mv : Value) (ms : List Int) (w : World) (HR : Rd w vb B) (hB0 : 14 ≤ B.length) (hB1 : B.length ≤ 1048590) (hat : (Lit.int .i64 at_).wf = true) (hmask : (Lit.int .u32 mask).wf = true)
    (HM : RdC 1 w mv ms.length (ms.map (Value.int .i64))) (hms : ∀ x ∈ ms, (Lit.int .i64 x).wf = true) :
    Calls Try.prog 27 #[vb, .agg #[.int .i64 at_, .int .u32 mask, mv]] w (TurnRet w B) := by
  have hHM := HM
  obtain ⟨m0, m1⟩ := wf_u32 hmask
  obtain ⟨xw, rfl⟩ := word_of m0 m1
  clear m0 m1 hmask
  obtain ⟨_, Am, cm, rfl, hm1, hm2, _, hm4⟩ := HM
  unfold maxLen at hm2
  have hb0 := Box.new w #[.int .i64 at_, .int .u32 (I xw), .slice Am ms.length cm] 46
  have hal := al1 (Below.refl w.heap.size w) (.cells #[.int .i64 at_, .int .u32 (I xw), .slice Am ms.length cm] 46)
  have hR0 := HR.keep hal
  have hlen := HR.2.len (P := Try.prog) 24 5 3 Try.underlying24
  have HM4 := hd_ hm4
  clear hm4
  go_enter Try.func27, Try.ntmps27
  go_upto_region 1 with fail
  generalize w.alloc (.cells #[.int .i64 at_, .int .u32 (I xw), .slice Am ms.length cm] 46) = W0 at *
  go_wp2_with fail
  refine (top_Copy_any _ B _ hR0).mono ?_
  rintro e w1 ⟨g, cap, rfl, hg1, HF1, HB1⟩
  have hb1 := hb0.keep HB1
  have hB1' := bel_trans hal HB1
  have c0 := hb1.cell 0 rfl
  have c1 := hb1.cell 1 rfl
  have c2 := hb1.cell 2 rfl
  have hgw : w.heap.size < g := by
    have := hb0.lt
    omega
  clear hR0
  by_cases h0 : 0 < ms.length
  · by_cases h3 : ms.length ≤ 3
    · have h0I : (0 : Int) < (ms.length : Int) := by omega
      have h3I : (ms.length : Int) ≤ 3 := by omega
      go_wp2
      go_loopw [30] (fun vi wr => ∃ (k : Nat) (s : List Nat), k ≤ ms.length ∧ vi = .int .i64 k ∧ FzRow wr g B.length cap (turns B s) ∧ Below w.heap.size w wr ∧ s.length ≤ k ∧ Hid ((∀ a ∈ s, a < 8 * B.length) ∧ s.Nodup)) (fun i _ => ms.length - (intOf i).toNat)
      case atStart => exact ⟨0, [], by omega, rfl, HF1, hB1', Nat.le_refl _, hd_ ⟨fun a h => absurd h (by simp), List.nodup_nil⟩⟩
      case round =>
        clear HF1 hb1 c0 c1 c2 hB1'
        obtain ⟨k, s, hk, rfl, HF, HB, hsk, HS⟩ := hrel
        by_cases hlt : k < ms.length
        · obtain ⟨bm, om, rfl, hcm⟩ := HM4.out k (by rw [List.length_map]; exact hlt)
          have hcellm := cell_keep HB (hcm.trans (by rw [List.getElem?_map, List.getElem?_eq_getElem hlt]; rfl : _ = some (.int .i64 ms[k])))
          have hwf := hms ms[k] (List.getElem_mem hlt)
          clear hcm
          generalize ms[k] = mk at *
          have hlI : (k : Int) < (ms.length : Int) := by omega
          go_upto_region 8 with (go_at_call 26; refine (top_put_any mk (8 * (B.length : Int)) hwf (by omega) (by omega) _).mono ?_; rintro e w' ⟨K, rfl, hK, rfl⟩)
          obtain ⟨hs1, hs2⟩ := HS.out
          have hKn : K < 8 * B.length := by omega
          have hBb : IsBytes B := HR.1
          obtain ⟨t1, t2, t3⟩ := tog_ok hs1 hs2 hKn
          have hT : turns B (tog s K) = (turns B s).set (K / 8) (turnB ((turns B s).getD (K / 8) 0) (K % 8)) := tog_turns hBb hs1 K
          have hq : K / 8 < B.length := by omega
          obtain ⟨hcell, hfz⟩ := HF.cell (K / 8) hq
          obtain ⟨x0, x1⟩ := bytes_at (turns_bytes hBb hs1) (K / 8)
          have hj : K % 8 < 8 := Nat.mod_lt _ (by decide)
          have htb := turnB_range x0 x1 hj
          have hres := frame_xor_turn x0 x1 hj
          have e1 : IntKind.i64.wrap ((K : Int).tdiv 8) = ((K / 8 : Nat) : Int) := by rw [Int.tdiv_eq_ediv_of_nonneg (by omega), IntKind.wrap_i64]; omega
          have e2 : (K : Int).tmod 8 = ((K % 8 : Nat) : Int) := by rw [Int.tmod_eq_emod_of_nonneg (by omega)]; omega
          have hqI : ((K / 8 : Nat) : Int) < (B.length : Int) := by omega
          have hjI : ((K % 8 : Nat) : Int) < 8 := by omega
          obtain ⟨HP, hgp⟩ := HF.put (K / 8) hq _ htb.1 htb.2
          have HBP := below_row HB hgp (Nat.le_of_lt hgw) HB.size
          rw [← hT] at HP
          have HT := hd_ (And.intro t1 (And.intro t2 t3))
          clear hT t1 t2 t3 hs1 hs2 HS hKn HF
          generalize turnB ((turns B s).getD (K / 8) 0) (K % 8) = z at *
          generalize (turns B s).getD (K / 8) 0 = x at *
          go_region
          go_wp2
          go_roundw
          case rel => exact ⟨k + 1, tog s K, by omega, by go_num, HP.keep (Below.refl _ _).drew, HBP.drew, by have := HT.out.2.2; omega, hd_ ⟨HT.out.1, HT.out.2.1⟩⟩
          case measure => (simp [intOf]; try omega)
        · obtain rfl : k = ms.length := by omega
          obtain ⟨hs1, hs2⟩ := HS.out
          go_wp2
          go_ret
          exact ⟨g, cap, turns B s, rfl, HF, .inl ⟨s, rfl, hs1, hs2, by omega⟩, HB⟩
    · have h0I : (0 : Int) < (ms.length : Int) := by omega
      have h3I : ¬ (ms.length : Int) ≤ 3 := by omega
      go_wp2_with (go_at_call 26; refine (top_put_any at_ (8 * (B.length : Int)) hat (by omega) (by omega) _).mono ?_; rintro e w' ⟨K, rfl, hK, rfl⟩)
      go_loopw [11] (fun vi wr => ∃ i : Nat, i ≤ 32 ∧ vi = .int .i64 i ∧ FzRow wr g B.length cap (turns B (runPlaces K xw (min i (8 * B.length - K)))) ∧ Box wr w.heap.size 46 #[.int .i64 at_, .int .u32 (I xw), .slice Am ms.length cm] ∧ Below w.heap.size w wr) (fun i _ => 32 - (intOf i).toNat)
      case atStart => exact ⟨0, by omega, rfl, by rw [Nat.zero_min]; exact HF1, hb1, hB1'⟩
      case round =>
        clear HF1 hb1 c0 c1 c2 hB1'
        obtain ⟨i, hi, rfl, HF, hbx, HB⟩ := hrel
        have hBb : IsBytes B := HR.1
        have hpl : ∀ b' ∈ runPlaces K xw (min i (8 * B.length - K)), b' < 8 * B.length := fun b' hb' => by have := runPlaces_lt K xw _ b' hb'; omega
        by_cases hlt : i < 32
        · have hiI : (i : Int) < 32 := by omega
          by_cases hin : K + i < 8 * B.length
          · have eM : min i (8 * B.length - K) = i := by omega
            have eM1 : min (i + 1) (8 * B.length - K) = i + 1 := by omega
            rw [eM] at HF hpl
            have hEM1 := hd_ eM1
            clear eM eM1
            have hbit := bitk_i (I_lo xw) (I_hi xw) i
            rw [b32_I] at hbit
            have d1 := hbx.cell 1 rfl
            have d2 : (K : Int) + (i : Int) < 8 * (B.length : Int) := by omega
            cases hb : xw.getLsbD i
            · rw [hb] at hbit
              go_wp2
              go_roundw
              case rel => exact ⟨i + 1, by omega, by go_num, by rw [hEM1.out, runPlaces, hb]; exact HF, hbx, HB⟩
              case measure => (simp [intOf]; try omega)
            · rw [hb] at hbit
              go_upto_region 16 with fail
              have hT : (turns B (runPlaces K xw i)).set ((K + i) / 8) (turnB ((turns B (runPlaces K xw i)).getD ((K + i) / 8) 0) ((K + i) % 8)) = turns B ((K + i) :: runPlaces K xw i) := rfl
              have hq : (K + i) / 8 < B.length := by omega
              obtain ⟨hcell, hfz⟩ := HF.cell ((K + i) / 8) hq
              obtain ⟨x0, x1⟩ := bytes_at (turns_bytes hBb hpl) ((K + i) / 8)
              have hj : (K + i) % 8 < 8 := Nat.mod_lt _ (by decide)
              have htb := turnB_range x0 x1 hj
              have hres := frame_xor_turn x0 x1 hj
              obtain ⟨HP, hgp⟩ := HF.put ((K + i) / 8) hq _ htb.1 htb.2
              have HBP := below_row HB hgp (Nat.le_of_lt hgw) HB.size
              have hbP := hbx.grown hgp (fun e => by injection e with e; omega)
              rw [hT] at HP
              clear hT HF
              have hqI : (((K + i) / 8 : Nat) : Int) < (B.length : Int) := by omega
              generalize turnB ((turns B (runPlaces K xw i)).getD ((K + i) / 8) 0) ((K + i) % 8) = z at *
              generalize (turns B (runPlaces K xw i)).getD ((K + i) / 8) 0 = x at *
              obtain ⟨n, hn⟩ : ∃ n, K + i = n := ⟨_, rfl⟩
              have e0 : IntKind.i64.wrap ((K : Int) + (i : Int)) = (n : Int) := by rw [IntKind.wrap_i64]; omega
              have e3 : (K : Int) + (i : Int) = (n : Int) := by omega
              have hn0 : (n : Int) < 8 * (B.length : Int) := by omega
              have HN := hd_ hn
              rw [hn] at hcell hfz hres HP HBP hbP hq hj hqI
              clear hn e3
              go_region
              go_wp2
              go_roundw
              case rel => exact ⟨i + 1, by omega, by go_num, by rw [hEM1.out, runPlaces, hb, if_pos rfl, HN.out]; exact HP.keep (Below.refl _ _).drew, hbP.keep (Below.refl _ _).drew, HBP.drew⟩
              case measure => (simp [intOf]; try omega)
          · have eM1 : min (i + 1) (8 * B.length - K) = min i (8 * B.length - K) := by omega
            have d2 : ¬ (K : Int) + (i : Int) < 8 * (B.length : Int) := by omega
            have hM1 : min i (8 * B.length - K) ≤ 32 := by omega
            have hM2 : K + min i (8 * B.length - K) ≤ 8 * B.length := by omega
            generalize min i (8 * B.length - K) = M at *
            clear eM1
            go_wp2
            go_ret
            exact ⟨g, cap, _, rfl, HF, .inr ⟨K, xw, M, rfl, hM1, hM2⟩, HB⟩
        · obtain rfl : i = 32 := by omega
          have hM1 : min 32 (8 * B.length - K) ≤ 32 := by omega
          have hM2 : K + min 32 (8 * B.length - K) ≤ 8 * B.length := by omega
          generalize min 32 (8 * B.length - K) = M at *
          go_wp2
          go_ret
          exact ⟨g, cap, _, rfl, HF, .inr ⟨K, xw, M, rfl, hM1, hM2⟩, HB⟩
  · have h0I : ¬ (0 : Int) < (ms.length : Int) := by omega
    go_wp2_with (go_at_call 26; refine (top_put_any at_ (8 * (B.length : Int)) hat (by omega) (by omega) _).mono ?_; rintro e w' ⟨K, rfl, hK, rfl⟩)
    go_loopw [11] (fun vi wr => ∃ i : Nat, i ≤ 32 ∧ vi = .int .i64 i ∧ FzRow wr g B.length cap (turns B (runPlaces K xw (min i (8 * B.length - K)))) ∧ Box wr w.heap.size 46 #[.int .i64 at_, .int .u32 (I xw), .slice Am ms.length cm] ∧ Below w.heap.size w wr) (fun i _ => 32 - (intOf i).toNat)
    case atStart => exact ⟨0, by omega, rfl, by rw [Nat.zero_min]; exact HF1, hb1, hB1'⟩
    case round =>
      clear HF1 hb1 c0 c1 c2 hB1'
      obtain ⟨i, hi, rfl, HF, hbx, HB⟩ := hrel
      have hBb : IsBytes B := HR.1
      have hpl : ∀ b' ∈ runPlaces K xw (min i (8 * B.length - K)), b' < 8 * B.length := fun b' hb' => by have := runPlaces_lt K xw _ b' hb'; omega
      by_cases hlt : i < 32
      · have hiI : (i : Int) < 32 := by omega
        by_cases hin : K + i < 8 * B.length
        · have eM : min i (8 * B.length - K) = i := by omega
          have eM1 : min (i + 1) (8 * B.length - K) = i + 1 := by omega
          rw [eM] at HF hpl
          have hEM1 := hd_ eM1
          clear eM eM1
          have hbit := bitk_i (I_lo xw) (I_hi xw) i
          rw [b32_I] at hbit
          have d1 := hbx.cell 1 rfl
          have d2 : (K : Int) + (i : Int) < 8 * (B.length : Int) := by omega
          cases hb : xw.getLsbD i
          · rw [hb] at hbit
            go_wp2
            go_roundw
            case rel => exact ⟨i + 1, by omega, by go_num, by rw [hEM1.out, runPlaces, hb]; exact HF, hbx, HB⟩
            case measure => (simp [intOf]; try omega)
          · rw [hb] at hbit
            go_upto_region 16 with fail
            have hT : (turns B (runPlaces K xw i)).set ((K + i) / 8) (turnB ((turns B (runPlaces K xw i)).getD ((K + i) / 8) 0) ((K + i) % 8)) = turns B ((K + i) :: runPlaces K xw i) := rfl
            have hq : (K + i) / 8 < B.length := by omega
            obtain ⟨hcell, hfz⟩ := HF.cell ((K + i) / 8) hq
            obtain ⟨x0, x1⟩ := bytes_at (turns_bytes hBb hpl) ((K + i) / 8)
            have hj : (K + i) % 8 < 8 := Nat.mod_lt _ (by decide)
            have htb := turnB_range x0 x1 hj
            have hres := frame_xor_turn x0 x1 hj
            obtain ⟨HP, hgp⟩ := HF.put ((K + i) / 8) hq _ htb.1 htb.2
            have HBP := below_row HB hgp (Nat.le_of_lt hgw) HB.size
            have hbP := hbx.grown hgp (fun e => by injection e with e; omega)
            rw [hT] at HP
            clear hT HF
            have hqI : (((K + i) / 8 : Nat) : Int) < (B.length : Int) := by omega
            generalize turnB ((turns B (runPlaces K xw i)).getD ((K + i) / 8) 0) ((K + i) % 8) = z at *
            generalize (turns B (runPlaces K xw i)).getD ((K + i) / 8) 0 = x at *
            obtain ⟨n, hn⟩ : ∃ n, K + i = n := ⟨_, rfl⟩
            have e0 : IntKind.i64.wrap ((K : Int) + (i : Int)) = (n : Int) := by rw [IntKind.wrap_i64]; omega
            have e3 : (K : Int) + (i : Int) = (n : Int) := by omega
            have hn0 : (n : Int) < 8 * (B.length : Int) := by omega
            have HN := hd_ hn
            rw [hn] at hcell hfz hres HP HBP hbP hq hj hqI
            clear hn e3
            go_region
            go_wp2
            go_roundw
            case rel => exact ⟨i + 1, by omega, by go_num, by rw [hEM1.out, runPlaces, hb, if_pos rfl, HN.out]; exact HP.keep (Below.refl _ _).drew, hbP.keep (Below.refl _ _).drew, HBP.drew⟩
            case measure => (simp [intOf]; try omega)
        · have eM1 : min (i + 1) (8 * B.length - K) = min i (8 * B.length - K) := by omega
          have d2 : ¬ (K : Int) + (i : Int) < 8 * (B.length : Int) := by omega
          have hM1 : min i (8 * B.length - K) ≤ 32 := by omega
          have hM2 : K + min i (8 * B.length - K) ≤ 8 * B.length := by omega
          generalize min i (8 * B.length - K) = M at *
          clear eM1
          go_wp2
          go_ret
          exact ⟨g, cap, _, rfl, HF, .inr ⟨K, xw, M, rfl, hM1, hM2⟩, HB⟩
      · obtain rfl : i = 32 := by omega
        have hM1 : min 32 (8 * B.length - K) ≤ 32 := by omega
        have hM2 : K + min 32 (8 * B.length - K) ≤ 8 * B.length := by omega
        generalize min 32 (8 * B.length - K) = M at *
        go_wp2
        go_ret
        exact ⟨g, cap, _, rfl, HF, .inr ⟨K, xw, M, rfl, hM1, hM2⟩, HB⟩
end Go.Proofs.Ytilmmohkdgmhnaa
