import Derived.Test.YtilmmohkdgmhnaaFrameCb
namespace Go.Proofs.Ytilmmohkdgmhnaa
open Go.RowKit
set_option maxRecDepth 100000
set_option linter.unusedVariables false
theorem RdL.bytes {w : World} {v : Value} {ps : List (List Int)} (h : RdL w v ps) : ∀ p ∈ ps, IsBytes p := by
  obtain ⟨vs, h1, h2, h3, h4⟩ := h
  intro p hp
  obtain ⟨j, hj, rfl⟩ := List.mem_iff_getElem.1 hp
  have := (h4 j hj).1
  rwa [List.getD_eq_getElem?_getD, List.getElem?_eq_getElem hj] at this
theorem bytes_flatten {ps : List (List Int)} (h : ∀ p ∈ ps, IsBytes p) : IsBytes ps.flatten := by
  intro x hx
  obtain ⟨p, hp, hxp⟩ := List.mem_flatten.1 hx
  exact h p hp x hxp
theorem flatten_take {ps : List (List Int)} {k : Nat} (h : k < ps.length) : (ps.take (k + 1)).flatten = (ps.take k).flatten ++ ps.getD k [] := by
  rw [List.take_add_one, List.getElem?_eq_getElem h, List.getD_eq_getElem?_getD, List.getElem?_eq_getElem h, List.flatten_append]
  show _ ++ [ps[k]].flatten = _ ++ ps[k]
  rw [List.flatten_cons, List.flatten_nil, List.append_nil]
theorem flatten_take_le (ps : List (List Int)) (k : Nat) : (ps.take k).flatten.length ≤ ps.flatten.length := by
  conv => rhs; rw [← List.take_append_drop k ps]
  rw [List.flatten_append, List.length_append]; omega
set_option maxHeartbeats 8000000 in
theorem law_FrameCuts (w : World) (m : Int) (hm : (Lit.int .i64 m).wf = true) (v : Value) (ps : List (List Int)) (HR : RdL w v ps) (hcnt : ps.length * 24 ≤ 140737488351232) (hl : ∀ xs ∈ ps, xs.length ≤ 140737488351232) (ht : ps.flatten.length + ps.length ≤ 1048576) :
    Calls Try.prog 12 #[.int .i64 m, v] w fun e w' => e = .returned (.bool true) ∧ Below w.heap.size w w' := by
  clear hl hcnt hm
  by_cases hneg : m < 0
  · go_enter Try.func12, Try.ntmps12
    go_wp2
    go_ret
    exact ⟨rfl, Below.refl _ _⟩
  by_cases hbig : 1048576 < m
  · go_enter Try.func12, Try.ntmps12
    go_wp2
    go_ret
    exact ⟨rfl, Below.refl _ _⟩
  have h0 : 0 ≤ m := by omega
  have h1 : m ≤ 1048576 := by omega
  obtain ⟨F, hF⟩ : ∃ F, ps.flatten = F := ⟨_, rfl⟩
  have hFb : IsBytes F := by rw [← hF]; exact bytes_flatten HR.bytes
  have hf1 := feedA_all m ps HR.bytes
  have hf2 := feedA_all m [F] (by intro p hp; rw [List.mem_singleton] at hp; rw [hp]; exact hFb)
  rw [List.flatten_cons, List.flatten_nil, List.append_nil] at hf2
  rw [hF] at hf1 ht
  have hbd := scanA_bounds m false F.length F [] 0 0 hFb
  have hwt := scanA_wait h0 F.length F [] 0 0 (Nat.le_refl _)
  have hct := scanA_count m false F.length F [] 0 0 hFb
  obtain ⟨S, hS⟩ : ∃ S, scanA m false F.length F [] 0 0 = S := ⟨_, rfl⟩
  rw [hS] at hf1 hf2 hbd hwt hct
  obtain ⟨fs, wl, j, lo⟩ := S
  simp only [List.length_nil, Nat.zero_mul, Nat.zero_add, Nat.add_zero] at hbd hwt hct
  rw [show cntN [] = 0 from rfl, Nat.zero_add] at hct
  have hFl : F.length ≤ 1048576 := by omega
  have HF1 := hd_ hf1
  have HF2 := hd_ hf2
  have HBD := hd_ hbd
  have HCT := hd_ hct
  have HFF := hd_ hF
  have HFB := hd_ hFb
  have HPS : Hid (ps.length ≤ 1048576) := hd_ (by omega)
  have HWT := hd_ hwt
  clear hf1 hf2 hbd hct hS hF hFb ht hwt
  have hRf := HR
  obtain ⟨A, cap, rfl, hn, hmx, _, hc⟩ := HR.form
  unfold maxLen at hmx
  have hc := hd_ hc
  clear HR
  go_enter Try.func12, Try.ntmps12
  go_wp2
  go_loopw [5, 6] (fun vs vi wr => ∃ k : Nat, k ≤ ps.length ∧ vi = .int .i64 k ∧ Own wr w.heap.size 5 vs (ps.take k).flatten ∧ Below w.heap.size w wr) (fun _ i _ => ps.length - (intOf i).toNat)
  case atStart => exact ⟨0, Nat.zero_le _, rfl, own_nil8 _ _ _, Below.refl _ _⟩
  case round =>
    obtain ⟨k, hk, rfl, HO, HB⟩ := hrel
    by_cases hlt : k < ps.length
    · obtain ⟨b, off, u, rfl, hcell0, hu0⟩ := hc.out k hlt
      have hcell := cell_keep HB hcell0
      have hu := hu0.keep HB
      have hft := flatten_take hlt
      have hfl := flatten_take_le ps (k + 1)
      rw [HFF.out, hft, List.length_append] at hfl
      have hL : Hid ((ps.take k).flatten.length + (ps.getD k []).length ≤ 140737488355328) := hd_ (by omega)
      have HFT := hd_ hft
      clear hcell0 hu0 hc hft hfl hRf
      generalize ps.getD k [] = p at *
      generalize (ps.take k).flatten = q at *
      go_wp2_with (at_builtin; (refine app_bytes (w0 := w) w.heap.size rfl _ _ 24 5 rfl Try.underlying24 info8 u5 u q p rfl rfl HO hu HB HB.size hL.out ?_); intro v1 w1 HO1 HB1 hg1 hat1)
      go_roundw
      case rel => exact ⟨k + 1, by omega, by go_num, by rw [HFT.out]; exact HO1, HB1⟩
      case measure => (simp [intOf]; try omega)
    · obtain rfl : k = ps.length := by omega
      rw [List.take_length, HFF.out] at HO
      obtain ⟨A5, c5, rfl, _⟩ := own_slice HO
      clear hc
      go_wp2_with fail
      refine (all_any m _ ps _ (hRf.keep HB) h0 h1 (by rw [HFF.out]; omega)).mono ?_
      rintro e w2 ⟨lv, g, rfl, hg2, HS2, HL2, HB2⟩
      rw [HF1.out] at HS2 HL2
      simp only at HS2 HL2
      have hone := crc_Sum_one _ _ w2 (HO.rd.keep HB2) rfl
      have hal := al1 (Below.refl w2.heap.size w2) (.cells #[.slice A5 F.length c5] 24)
      go_wp2_with fail
      refine (all_any m _ [F] _ hone h0 h1 (by rw [List.flatten_cons, List.flatten_nil, List.append_nil]; omega)).mono ?_
      rintro e w3 ⟨lv2, g2, rfl, hg3, HS3, HL3, HB3⟩
      rw [HF2.out] at HS3 HL3
      simp only at HS3 HL3
      have hK3 := bel_trans hal HB3
      have HS23 := HS2.keep hK3
      have HL23 := HL2.keep hK3
      have hgg : g < g2 := by
        obtain ⟨v', hb', _⟩ := HS2
        have := hb'.lt
        have := hal.size
        omega
      have hB3 : Below w.heap.size w w3 := bel_trans (bel_trans HB HB2) hK3
      clear HS2 HL2 hone hal hK3 HO
      go_wp2_with fail
      refine (alike_any _ _ _ _ fs _ HL23 HL3).mono ?_
      rintro e w4 ⟨rfl, HB4⟩
      have HS24 := HS23.keep HB4
      have HL24 := HL23.keep HB4
      have HS34 := HS3.keep HB4
      have HL34 := HL3.keep HB4
      have hB4 := bel_trans hB3 HB4
      have hlen2 : ∀ W : World, Sem.run Try.prog (Builtin.len_ #[52] 3 #[lv]) W = Result.ok (.int .i64 fs.length) W := by
        obtain ⟨us, hus, hrow, _⟩ := id HL24
        exact (RdC.own hrow).len (P := Try.prog) 52 28 3 Try.underlying52
      have hfsz := HL24.size
      obtain ⟨x1, bx1, rx1⟩ := id HS24
      obtain ⟨x2, bx2, rx2⟩ := id HS34
      have c12 := bx1.cell 2 rfl
      have c13 := bx1.cell 3 rfl
      have c14 := bx1.cell 4 rfl
      have c22 := bx2.cell 2 rfl
      have c23 := bx2.cell 3 rfl
      have c24 := bx2.cell 4 rfl
      have hx1 := rx1.1
      have hx2 := rx2.1
      clear bx1 bx2 rx1 rx2 HS23 HL23 HS3 HL3
      have hwI : Hid ((wl.length : Int) + (j : Int) ≤ 1048576 ∧ ¬ m + 14 ≤ (wl.length : Int)) := hd_ ⟨by have := HCT.out; omega, by have := HWT.out; omega⟩
      obtain ⟨hw1, hw2⟩ := hwI.out
      go_wp2_with (first
        | (go_at_call 37; first
            | (with_reducible refine (Waits_any g x1 wl _ c12 hx1).mono ?_; rintro e w' ⟨rfl, rfl⟩)
            | (with_reducible refine (Waits_any g2 x2 wl _ c22 hx2).mono ?_; rintro e w' ⟨rfl, rfl⟩))
        | (go_at_call 38; first
            | (with_reducible refine (Junk_any g j _ c13).mono ?_; rintro e w' ⟨rfl, rfl⟩)
            | (with_reducible refine (Junk_any g2 j _ c23).mono ?_; rintro e w' ⟨rfl, rfl⟩))
        | (go_at_call 39; first
            | (with_reducible refine (Lost_any g lo _ c14).mono ?_; rintro e w' ⟨rfl, rfl⟩)
            | (with_reducible refine (Lost_any g2 lo _ c24).mono ?_; rintro e w' ⟨rfl, rfl⟩)))
      clear hc
      go_loop [13, 14] (fun vb vi => ∃ k : Nat, k ≤ fs.length ∧ vi = .int .i64 k ∧ vb = .int .i64 ((wl.length + j + cntN (fs.take k) : Nat) : Int)) (fun _ i => fs.length - (intOf i).toNat)
      case atStart => exact ⟨0, Nat.zero_le _, rfl, by rw [List.take_zero, show cntN [] = 0 from rfl]; rfl⟩
      case round =>
        obtain ⟨k, hk2, rfl, rfl⟩ := hrel
        by_cases hlt2 : k < fs.length
        · obtain ⟨bl, o1, A1, c1, i1, p1, q1, r1⟩ := HL24.at k hlt2
          have hs1 := cnt_take hlt2
          have hs2 := cnt_le fs (k + 1)
          have hs3 := HCT.out
          have hsum : Hid (wl.length + j + cntN (fs.take (k + 1)) = wl.length + j + cntN (fs.take k) + (fs.getD k (0, [])).2.length + 14) := hd_ (by omega)
          have hin : ((wl.length + j + cntN (fs.take k) : Nat) : Int) + ((fs.getD k (0, [])).2.length : Int) + 14 ≤ 1048576 := by omega
          clear hs1 hs2 hs3
          generalize fs.getD k (0, []) = f at *
          generalize wl.length + j + cntN (fs.take k) = C0 at *
          have hlI : (k : Int) < (fs.length : Int) := by omega
          go_wp2
          go_round
          case rel => exact ⟨k + 1, by omega, by go_num, by rw [hsum.out]; go_num⟩
          case measure => (simp [intOf]; try omega)
        · obtain rfl : k = fs.length := by omega
          rw [List.take_length, show wl.length + j + cntN fs = F.length by have := HCT.out; omega]
          go_wp2_with (first
            | (go_at_call 37; first
                | (with_reducible refine (Waits_any g x1 wl _ c12 hx1).mono ?_; rintro e w' ⟨rfl, rfl⟩))
            | fail)
          have hgw : w.heap.size ≤ g := Nat.le_trans HB.size hg2
          refine (End_any g m wl j lo w4 HS24 h1 (by omega) (by omega) (by have := HBD.out; omega)).mono ?_
          rintro e w5 ⟨le, rfl, HS5, HL5, HG5⟩
          have HS35 : Spl w5 g2 m wl j lo := by
            obtain ⟨v', b', _⟩ := HS24
            exact HS34.grown HG5 (fun h => by injection h with h; omega) (box_kind b' (by decide))
          have hB5 := below_row hB4 HG5 hgw hB4.size
          clear HS24 HS34 HL24 HL34 c12 c13 c14 c22 c23 c24 hx1 hx2 HG5 hlen2
          go_wp2_with fail
          refine (End_any g2 m wl j lo w5 HS35 h1 (by omega) (by omega) (by have := HBD.out; omega)).mono ?_
          rintro e w6 ⟨lf, rfl, HS6, HL6, HG6⟩
          generalize scanA m true wl.length wl [] j lo = E at *
          obtain ⟨es, ew, ej, elo⟩ := E
          simp only at HS5 HL5 HS6 HL6
          obtain ⟨HS56, HL56⟩ : Spl w6 g m [] ej elo ∧ FrL w6 w4.heap.size 28 5 le es := by
            obtain ⟨v', b', _⟩ := HS35
            exact ⟨HS5.grown HG6 (fun h => by injection h with h; omega) (box_kind b' (by decide)), HL5.boxed b' HG6 (by decide) (by decide)⟩
          have hB6 := below_row hB5 HG6 (by omega) hB5.size
          clear HS35 HS5 HL5 HG6
          go_wp2_with fail
          refine (alike_any _ _ _ _ es _ HL56 HL6).mono ?_
          rintro e w7 ⟨rfl, HB7⟩
          obtain ⟨y1, by1, ry1⟩ := HS56.keep HB7
          obtain ⟨y2, by2, ry2⟩ := HS6.keep HB7
          have d12 := by1.cell 2 rfl
          have d13 := by1.cell 3 rfl
          have d14 := by1.cell 4 rfl
          have d23 := by2.cell 3 rfl
          have d24 := by2.cell 4 rfl
          have hy1 := ry1.1
          have hB7 := bel_trans hB6 HB7
          clear by1 ry1 by2 ry2 HS6 HL6 HS56 HL56
          go_wp2_with (first
            | (go_at_call 37; with_reducible refine (Waits_any g y1 [] _ d12 hy1).mono ?_; rintro e w' ⟨rfl, rfl⟩)
            | (go_at_call 38; first
                | (with_reducible refine (Junk_any g ej _ d13).mono ?_; rintro e w' ⟨rfl, rfl⟩)
                | (with_reducible refine (Junk_any g2 ej _ d23).mono ?_; rintro e w' ⟨rfl, rfl⟩))
            | (go_at_call 39; first
                | (with_reducible refine (Lost_any g elo _ d14).mono ?_; rintro e w' ⟨rfl, rfl⟩)
                | (with_reducible refine (Lost_any g2 elo _ d24).mono ?_; rintro e w' ⟨rfl, rfl⟩)))
          go_ret
          exact ⟨rfl, hB7⟩
end Go.Proofs.Ytilmmohkdgmhnaa
