import Derived.Test.YtilmmohkdgmhnaaFrameV
namespace Go.Proofs.Ytilmmohkdgmhnaa
open Go.RowKit
set_option maxRecDepth 100000
set_option linter.unusedVariables false
/-- a frame of a list, by its place -/
theorem FrL.at {W : World} {base : Nat} {lv : Value} {fs : List (Int × List Int)} (h : FrL W base 28 5 lv fs) (i : Nat) (hi : i < fs.length) :
    ∃ bl off A c, (∀ W', Sem.run Try.prog (Instr.indexAt 52 lv (.int .i64 (i : Int))) W' = .ok (.pointer (some ⟨bl, off, none⟩)) W') ∧ W.cell? ⟨bl, off, none⟩ = some (.int .i64 (fs.getD i (0, [])).1) ∧ W.cell? ⟨bl, off + 1, none⟩ = some (.slice A (fs.getD i (0, [])).2.length c) ∧ Rd W (.slice A (fs.getD i (0, [])).2.length c) (fs.getD i (0, [])).2 := by
  obtain ⟨us, h1, h2, h3⟩ := h
  obtain ⟨bl, off, k1, k2⟩ := (RdC.own h2).at (P := Try.prog) Try.underlying52 infoFr .i64 i hi (by omega)
  obtain ⟨g1, g2⟩ := frCells_get fs us i h1 hi
  have hO := h3 i hi
  obtain ⟨A, c, hv, _⟩ := own_slice hO
  have c0 := k2 0 (by omega)
  have c1 := k2 1 (by omega)
  rw [Nat.add_zero, Nat.add_zero, g1] at c0
  rw [g2, hv] at c1
  rw [hv] at hO
  exact ⟨bl, off, A, c, k1, c0, c1, hO.rd⟩
/-- all that a splitter finds in bytes and in their end -/
def foundIn (m : Int) (c : List Int) : List (Int × List Int) :=
  (scanA m false c.length c [] 0 0).1 ++ (scanA m true (scanA m false c.length c [] 0 0).2.1.length (scanA m false c.length c [] 0 0).2.1 [] (scanA m false c.length c [] 0 0).2.2.1 (scanA m false c.length c [] 0 0).2.2.2).1
set_option maxHeartbeats 4000000 in
theorem refused_any (k : Int) (A : Option Addr) (n cf : Nat) (v : Value) (c : List Int) (w : World) (HR : Rd w v c) (hl : c.length ≤ 35184372088832) (hpos : 0 < c.length) (hn : n ≤ 9223372036854775807) (hD : decE c ≠ 0)
    (hNone : ∀ f ∈ foundIn 1048576 c, f.2.length ≠ n) (hBare : (∀ i, 1 ≤ i → i < c.length → c.getD i 0 ≠ 72) → foundIn 1048576 c = []) :
    Calls Try.prog 44 #[.agg #[.int .i64 k, .slice A n cf], v] w fun e w' => e = .returned (.bool true) ∧ Below w.heap.size w w' := by
  have hOE : oneE c ≠ 0 := by unfold oneE; rw [if_pos hD]; exact hD
  obtain ⟨A', cv, rfl, hn0, hmx, hx0, hc1⟩ := HR.form
  obtain ⟨bc, oc, rfl, hx1⟩ := hc1 0 hpos
  have hc : Hid (∀ i, i < c.length → w.cell? ⟨bc, oc + i, none⟩ = some (.int .u8 (c.getD i 0))) := hd_ fun i hi => by
    obtain ⟨b', o', he, h⟩ := hc1 i hi
    injection he with he
    injection he with e1 e2
    subst e1; subst e2
    exact h
  clear hx0 hx1 hc1
  unfold maxLen at hmx
  have hbnd := scanA_bounds 1048576 false c.length c [] 0 0 HR.1
  rw [List.length_nil, Nat.zero_mul, Nat.zero_add] at hbnd
  have hfe : feedA 1048576 [c] ([], [], 0, 0) = scanA 1048576 false c.length c [] 0 0 := rfl
  unfold foundIn at hNone hBare
  generalize scanA 1048576 false c.length c [] 0 0 = S at *
  have hS0 : IsBytes S.2.1 → True := fun _ => trivial
  have HFE := hd_ hfe
  clear hfe hS0
  obtain ⟨E, hE⟩ : ∃ E, scanA 1048576 true S.2.1.length S.2.1 [] S.2.2.1 S.2.2.2 = E := ⟨_, rfl⟩
  rw [hE] at hNone hBare
  have HE := hd_ hE
  have HNO := hd_ hNone
  have HBA := hd_ hBare
  have HBN := hd_ hbnd
  clear hE hNone hBare hbnd
  have q0 : (w.alloc (.cells #[.int .i64 k, .slice A n cf] 28)).cell? ⟨w.heap.size, 0, none⟩ = some (.int .i64 k) := World.cell?_alloc_at _ _ _ 0 rfl
  have q1 : (w.alloc (.cells #[.int .i64 k, .slice A n cf] 28)).cell? ⟨w.heap.size, 1, none⟩ = some (.slice A n cf) := World.cell?_alloc_at _ _ _ 1 rfl
  have hB0 := al1 (Below.refl w.heap.size w) (.cells #[.int .i64 k, .slice A n cf] 28)
  go_enter Try.func44, Try.ntmps44
  go_upto_region 1 with fail
  generalize w.alloc (.cells #[.int .i64 k, .slice A n cf] 28) = W0 at *
  have hR0 := HR.keep hB0
  go_wp2_with fail
  refine (frame_Decode_any _ _ _ hR0).mono ?_
  rintro e w1 ⟨v1, rfl, HO1, HB1⟩
  obtain ⟨A1, c1, rfl, _⟩ := own_slice HO1
  obtain ⟨oE, hoE⟩ : ∃ x, oneE c = x := ⟨_, rfl⟩
  rw [hoE] at hOE
  have HOE := hd_ hoE
  clear hoE
  have hDB : (decE c == 0) = false := by rw [beq_eq_false_iff_ne]; exact hD
  have hOB : (oE == 0) = false := by rw [beq_eq_false_iff_ne]; exact hOE
  clear HO1 hD hOE
  generalize decE c = dE at *
  generalize decK c = dK at *
  generalize decN c = dN at *
  generalize (decBody c).length = dL at *
  have hB1 := HB1
  have hBX := al1 (Below.refl w1.heap.size w1) (.cells #[.int .i64 dK, .slice A1 dL c1] 28)
  have hB2 := bel_trans hB1 hBX
  go_upto_region 2 with fail
  generalize w1.alloc (.cells #[.int .i64 dK, .slice A1 dL c1] 28) = W2 at *
  go_wp2_with fail
  refine (frame_One_any _ _ _ (hR0.keep hB2)).mono ?_
  rintro e w3 ⟨v3, rfl, HO3, HB3⟩
  obtain ⟨A3, c3, rfl, _⟩ := own_slice HO3
  rw [HOE.out]
  clear HO3
  generalize oneK c = dK3 at *
  generalize (oneBody c).length = dL3 at *
  have hB3 := bel_trans hB2 HB3
  have hBY := al1 (Below.refl w3.heap.size w3) (.cells #[.int .i64 dK3, .slice A3 dL3 c3] 28)
  have hB4 := bel_trans hB3 hBY
  go_upto_region 3 with fail
  generalize w3.alloc (.cells #[.int .i64 dK3, .slice A3 dL3 c3] 28) = W4 at *
  have hone := crc_Sum_one _ _ W4 (hR0.keep hB4) rfl
  have hal4 := al1 (Below.refl W4.heap.size W4) (.cells #[.slice (some ⟨bc, oc, none⟩) c.length cv] 24)
  go_wp2_with fail
  refine (all_any 1048576 _ [c] _ hone (by decide) (by decide) (by simpa using hl)).mono ?_
  rintro e w5 ⟨lv, g, rfl, hg5, HS5, HF5, HB5⟩
  rw [HFE.out] at HS5 HF5
  have hB5 := bel_trans hB4 (bel_trans hal4 HB5)
  obtain ⟨b1, b2, b3⟩ := HBN.out
  have hEn := End_any g 1048576 S.2.1 S.2.2.1 S.2.2.2 w5 HS5 (by decide) (by omega) (by omega) (by omega)
  have hEb := scanA_bounds 1048576 true S.2.1.length S.2.1 [] S.2.2.1 S.2.2.2 (by obtain ⟨_, _, hr⟩ := HS5; exact hr.1.1)
  rw [HE.out] at hEn hEb
  rw [List.length_nil, Nat.zero_mul, Nat.zero_add] at hEb
  have hl32 : Hid ((S.1.length + E.1.length) * 32 ≤ 140737488355328) := hd_ (by omega)
  clear hEb b1 b2 b3
  have hgw : W0.heap.size ≤ g := Nat.le_trans (bel_trans hB4 hal4).size hg5
  go_upto_region 6 with fail
  go_wp2_with fail
  refine hEn.mono ?_
  rintro e w6 ⟨lv2, rfl, HS6, HF6, HG6⟩
  have HF5 := HF5.base (Nat.le_trans hB4.size hal4.size)
  have HF56 : FrL w6 W0.heap.size 28 5 lv S.1 := by
    obtain ⟨v', hbx, _⟩ := HS5
    exact HF5.boxed hbx HG6 (by decide) (by decide)
  have HF6 := HF6.base hB5.size
  have hB6 : Below W0.heap.size W0 w6 := below_row hB5 HG6 hgw hB5.size
  clear HS5 HF5 HS6
  go_upto_region 7 with (at_builtin; (refine app_frames (w0 := W0) W0.heap.size rfl _ _ 52 28 5 (.agg #[.int .i64 0, .slice none 0 0]) rfl Try.underlying52 infoFr rfl (by decide) lv lv2 S.1 E.1 rfl rfl HF56 HF6 hB6 hB6.size hl32.out ?_); intro v7 w7 HF7 HB7 hg7 hk7)
  obtain ⟨us, hus, hrow, hx7⟩ := id HF7
  have hlenL := (RdC.own hrow).len (P := Try.prog) 52 28 3 Try.underlying52
  clear hx7 hus hrow us hg7 hk7 HF56 HF6 hB6 HG6 hEn hl32
  have hLL : Hid ((S.1 ++ E.1).length ≤ 9223372036854775807) := hd_ (by
    obtain ⟨us, h1, h2, _⟩ := HF7
    obtain ⟨_, _, cap, _, k1, k2, _⟩ := RdC.own h2
    unfold maxLen at k2
    omega)
  generalize S.1 ++ E.1 = L at *
  have hBw : Below w.heap.size w w7 := bel_trans hB0 HB7
  have q07 := cell_keep HB7 q0
  have q17 := cell_keep HB7 q1
  have hcI : (1 : Int) ≤ (c.length : Int) := by omega
  go_wp2
  go_loop [13, 14] (fun vb vi => ∃ (i : Nat) (bb : Bool), 1 ≤ i ∧ i ≤ c.length ∧ vi = .int .i64 i ∧ vb = .bool bb ∧ Hid (bb = true → ∀ j, 1 ≤ j → j < i → c.getD j 0 ≠ 72)) (fun _ i => c.length - (intOf i).toNat)
  case atStart => exact ⟨1, true, by omega, by omega, rfl, rfl, hd_ fun _ j h1 h2 => by omega⟩
  case round =>
    obtain ⟨i, bb, hi1, hic, rfl, rfl, HI⟩ := hrel
    by_cases hlt : i < c.length
    · have hcell := cell_keep hBw (hc.out i hlt)
      obtain ⟨p0, p1⟩ := bytes_at HR.1 i
      by_cases h72 : c.getD i 0 = 72
      · rw [h72] at hcell
        clear p0 p1 h72
        go_wp2
        go_round
        case rel => exact ⟨i + 1, false, by omega, by omega, by go_num, rfl, hd_ fun h => absurd h (by simp)⟩
        case measure => (simp [intOf]; try omega)
      · have HI2 : Hid (bb = true → ∀ j, 1 ≤ j → j < i + 1 → c.getD j 0 ≠ 72) := hd_ fun h j h1 h2 => by
          by_cases hj : j < i
          · exact HI.out h j h1 hj
          · obtain rfl : j = i := by omega
            exact h72
        have h72B : (c.getD i 0 == 72) = false := by rw [beq_eq_false_iff_ne]; exact h72
        clear HI
        generalize c.getD i 0 = x at *
        go_wp2
        go_round
        case rel => exact ⟨i + 1, bb, by omega, by omega, by go_num, rfl, HI2⟩
        case measure => (simp [intOf]; try omega)
    · obtain rfl : i = c.length := by omega
      have hBL : Hid (bb = true → L = []) := hd_ fun h => HBA.out fun i h1 h2 => HI.out h i h1 h2
      clear HI hi1 hic
      go_wp2
      go_loopw [15] (fun vi wr => ∃ i : Nat, i ≤ L.length ∧ vi = .int .i64 i ∧ Below w7.heap.size w7 wr) (fun i _ => L.length - (intOf i).toNat)
      case atStart => exact ⟨0, Nat.zero_le _, rfl, Below.refl _ _⟩
      case round =>
        obtain ⟨i, hi, rfl, hbel⟩ := hrel
        by_cases hlt2 : i < L.length
        · obtain ⟨bl, off, A9, c9, hat, e1, e2, e3⟩ := HF7.at i hlt2
          have hlI : (i : Int) < (L.length : Int) := by omega
          have hLb := hLL.out
          have hLbI : (i : Int) + 1 ≤ 9223372036854775807 := by omega
          have hne : (L.getD i (0, [])).2.length ≠ n := by
            refine HNO.out _ ?_
            rw [List.getD_eq_getElem?_getD, List.getElem?_eq_getElem hlt2]
            exact List.getElem_mem hlt2
          have hn63 := e3.lt63
          have e1 := cell_keep hbel e1
          have e2 := cell_keep hbel e2
          have q0r := cell_keep hbel q07
          have q1r := cell_keep hbel q17
          clear e3
          generalize (L.getD i (0, [])).2.length = nl at *
          generalize (L.getD i (0, [])).1 = kl at *
          have hneB : ((nl : Int) == (n : Int)) = false := by rw [beq_eq_false_iff_ne]; omega
          by_cases hk : kl = k
          · subst hk
            go_upto_region 16 with fail
            go_quiet (fail)
            go_wp2
            have hbn := below_drewN hbel nq
            go_roundw
            case rel => exact ⟨i + 1, by omega, by go_num, hbn⟩
            case measure => (simp [intOf]; try omega)
          · have hkB : (kl == k) = false := by rw [beq_eq_false_iff_ne]; exact hk
            go_upto_region 16 with fail
            first | (go_quiet (fail)) | fail
            go_wp2
            have hbn := below_drewN hbel nq
            go_roundw
            case rel => exact ⟨i + 1, by omega, by go_num, hbn⟩
            case measure => (simp [intOf]; try omega)
        · obtain rfl : i = L.length := by omega
          have hBe : Below w.heap.size w wr := bel_trans hBw hbel
          cases bb
          · go_wp2
            go_ret
            exact ⟨rfl, hBe⟩
          · have hL0 : L.length = 0 := by rw [hBL.out rfl]; rfl
            have hLI : ((L.length : Int) == 0) = true := by rw [hL0]; rfl
            go_wp2
            go_ret
            exact ⟨rfl, hBe⟩
end Go.Proofs.Ytilmmohkdgmhnaa
