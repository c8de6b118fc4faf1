import Derived.Test.YtilmmohkdgmhnaaFrameDc
namespace Go.Proofs.Ytilmmohkdgmhnaa
open Go.RowKit
set_option maxRecDepth 100000
set_option linter.unusedVariables false
theorem filter_take72 {l : List Int} {k : Nat} (h : k < l.length) : (l.take (k + 1)).filter (fun x => x != 72) = (l.take k).filter (fun x => x != 72) ++ (if (l.getD k 0 != 72) = true then [l.getD k 0] else []) := by
  rw [List.take_add_one, List.getElem?_eq_getElem h, List.filter_append, List.getD_eq_getElem?_getD, List.getElem?_eq_getElem h]
  show _ ++ [l[k]].filter _ = _ ++ if (l[k] != 72) = true then [l[k]] else []
  cases hp : (l[k] != 72) <;> simp [hp]
set_option maxHeartbeats 8000000 in
theorem law_FrameFound (w : World) (m : Int) (hm : (Lit.int .i64 m).wf = true) (v : Value) (x : List (Int × List Int × Unit)) (r : RSl 2 32 RFrame w [v] x) (t : (x.map (fun a : Int × List Int × Unit => 1 + (a.2.1.length + 1 + 0) + 1)).sum + 1 ≤ 1048576)
    (v2 : Value) (junk : List Int) (HJ : Rd w v2 junk) (hl2 : junk.length ≤ 140737488351232) (t2 : junk.length ≤ 1048576) :
    Calls Try.prog 13 #[.int .i64 m, v, v2] w fun e w' => e = .returned (.bool true) ∧ Below w.heap.size w w' := by
  clear hl2 hm
  by_cases hneg : m < 0
  · go_enter Try.func13, Try.ntmps13
    go_wp2
    go_ret
    exact ⟨rfl, Below.refl _ _⟩
  by_cases hbig : 1048576 < m
  · go_enter Try.func13, Try.ntmps13
    go_wp2
    go_ret
    exact ⟨rfl, Below.refl _ _⟩
  have h0 : 0 ≤ m := by omega
  have h1 : m ≤ 1048576 := by omega
  have hRF := rdf_of r
  have hcb := cnt_bulk x
  generalize (x.map fun a => (a.1, a.2.1)) = L at *
  have hcL : cntN L ≤ 5242880 := by omega
  have hLl := length_cnt L
  have hLL : Hid ((1 + L.length) * 32 ≤ 140737488355328) := hd_ (by omega)
  have hcL2 : Hid (cntN ((3, []) :: L) ≤ 5242894) := hd_ (by simp only [cntN, List.map_cons, List.sum_cons, List.length_nil] at hcL ⊢; omega)
  clear hcb hcL hLl t r
  have HJb := hd_ HJ.1
  obtain ⟨A2, cap2, rfl, hn2, hmx2, _, hc2⟩ := HJ.form
  unfold maxLen at hmx2
  have hc := hd_ hc2
  clear hc2 HJ
  go_enter Try.func13, Try.ntmps13
  go_wp2
  go_loopw [7, 8] (fun vs vi wr => ∃ k : Nat, k ≤ junk.length ∧ vi = .int .i64 k ∧ Own wr w.heap.size 5 vs ((junk.take k).filter (fun x => x != 72)) ∧ Below w.heap.size w wr) (fun _ i _ => junk.length - (intOf i).toNat)
  case atStart => exact ⟨0, Nat.zero_le _, rfl, own_nil8 _ _ _, Below.refl _ _⟩
  case round =>
    obtain ⟨k, hk, rfl, HO, HB⟩ := hrel
    by_cases hlt : k < junk.length
    · obtain ⟨b, off, rfl, hcell0⟩ := hc.out k hlt
      have hcell := cell_keep HB hcell0
      have hft := filter_take72 hlt
      obtain ⟨p0, p1⟩ := bytes_at HJb.out k
      have hfl : ((junk.take k).filter (fun x => x != 72)).length ≤ k := Nat.le_trans (List.length_filter_le _ _) (by rw [List.length_take]; omega)
      have hL1 : Hid (((junk.take k).filter (fun x => x != 72)).length + 1 ≤ 140737488355328) := hd_ (by omega)
      have HFT := hd_ hft
      clear hft hfl hc hcell0
      generalize junk.getD k 0 = c at *
      generalize (junk.take k).filter (fun x => x != 72) = q at *
      by_cases h72 : c = 72
      · have HF2 : Hid ((junk.take (k + 1)).filter (fun x => x != 72) = q) := hd_ (by rw [HFT.out, if_neg (by rw [h72]; decide), List.append_nil])
        rw [h72] at hcell
        clear h72 p0 p1
        go_wp2
        go_roundw
        case rel => exact ⟨k + 1, by omega, by go_num, by rw [HF2.out]; exact HO, HB⟩
        case measure => (simp [intOf]; try omega)
      · have hne : (c != 72) = true := by simpa using h72
        have HF2 : Hid ((junk.take (k + 1)).filter (fun x => x != 72) = q ++ [c]) := hd_ (by rw [HFT.out, if_pos hne])
        have hR : Rd (wr.alloc (.cells #[.int .u8 c] 5)) (.slice (some ⟨wr.heap.size, 0, none⟩) 1 1) [c] := rd_new [c] rfl rfl (by intro y hy; rw [List.mem_singleton] at hy; subst hy; exact ⟨p0, p1⟩) (by decide)
        have hal := al1 (Below.refl wr.heap.size wr) (.cells #[.int .u8 c] 5)
        have HO2 := HO.keep hal
        have HB2 := bel_trans HB hal
        clear HO
        go_wp2_with (at_builtin; (refine app_bytes (w0 := w) w.heap.size rfl _ _ 24 5 rfl Try.underlying24 info8 u7 _ q [c] rfl rfl HO2 hR HB2 HB2.size hL1.out ?_); intro v5 w5 HO5 HB5 hg5 hat5)
        go_roundw
        case rel => exact ⟨k + 1, by omega, by go_num, by rw [HF2.out]; exact HO5, HB5⟩
        case measure => (simp [intOf]; try omega)
    · obtain rfl : k = junk.length := by omega
      rw [List.take_length] at HO
      have hql : (junk.filter (fun x => x != 72)).length ≤ junk.length := List.length_filter_le _ _
      have hqn : ∀ y ∈ junk.filter (fun x => x != 72), y ≠ 72 := fun y hy => by simpa using (List.mem_filter.1 hy).2
      generalize junk.filter (fun x => x != 72) = q at *
      have HQ := hd_ hqn
      clear hqn
      obtain ⟨A7, c7, rfl, _⟩ := own_slice HO
      have hal := al1 (Below.refl wr.heap.size wr) (.cells #[.int .i64 3, .slice none 0 0] 28)
      have hI : FrI w (wr.alloc (.cells #[.int .i64 3, .slice none 0 0] 28)) w.heap.size (.slice (some ⟨wr.heap.size, 0, none⟩) 1 1) [(3, [])] :=
        ⟨[.int .i64 3, .slice none 0 0], ⟨rfl, fun i hi => by
          obtain rfl : i = 0 := by simpa using hi
          exact ⟨rfl, _, rfl, (own_nil8 w 0 0).rd⟩⟩, World.ownsRow_lit wr #[.int .i64 3, .slice none 0 0] 1 HB.size (by decide) rfl⟩
      have hB1 := bel_trans HB hal
      have hRF1 := hRF.keep hB1
      have HO1 := HO.keep hal
      clear HO hc
      go_wp2_with (at_builtin; (refine app_fri (w0 := w) w.heap.size rfl _ _ rfl (.slice (some ⟨wr.heap.size, 0, none⟩) 1 1) v [(3, [])] L rfl rfl hI hRF1 hB1 hB1.size hLL.out ?_); intro v5 w5 HF5 HB5 hg5 hk5)
      have HO5 : Own w5 w.heap.size 5 (.slice A7 q.length c7) q := by
        obtain ⟨vs, _, h2⟩ := hI
        exact HO1.kept hg5 (own_types HO1.2 h2 (by decide))
      have HF5m : RdF w5 w5 v5 ((3, []) :: L) := HF5.rdf.mono HB5
      have hFb := HF5m.bytes
      clear hg5 hk5 hI hRF1 HO1 HF5 hal hB1 hRF
      refine (laid_any v5 ((3, []) :: L) m w5 HF5m h1 (by have := hcL2.out; omega)).mono ?_
      rintro e w6 ⟨bv, sv, rfl, HO6, HF6, HB6⟩
      have hSm : ∀ f ∈ ((3, []) :: L).filter (mayB m), mayB m f = true ∧ IsBytes f.2 := fun f hf => ⟨(List.mem_filter.1 hf).2, hFb f (List.mem_filter.1 hf).1⟩
      have hSl : (laidB (((3, []) :: L).filter (mayB m))).length ≤ 5242894 := by
        rw [laidB_length]
        have h1 := cnt_filter (mayB m) ((3, []) :: L)
        have h2 := hcL2.out
        omega
      generalize ((3, []) :: L).filter (mayB m) = S at *
      have hfe := found_all (m := m) HQ.out HO5.1 hSm
      clear hFb hSm
      generalize laidB S = B at *
      have HFE := hd_ hfe
      clear hfe
      obtain ⟨A8, c8, rfl, _⟩ := own_slice HO6
      have htwo := rdl_two _ _ q B w6 (HO5.keep HB6).rd HO6.rd rfl rfl
      have hal := al1 (Below.refl w6.heap.size w6) (.cells #[.slice A7 q.length c7, .slice A8 B.length c8] 24)
      go_wp2_with fail
      refine (all_any m _ [q, B] _ htwo h0 h1 (by rw [show [q, B].flatten = q ++ B by simp, List.length_append]; omega)).mono ?_
      rintro e w7 ⟨lv, g, rfl, hg7, HS7, HL7, HB7⟩
      rw [HFE.out] at HS7 HL7
      simp only at HS7 HL7
      have hK7 := bel_trans hal HB7
      have hM7 := bel_trans HB6 hK7
      have HF7 := (HF6.rdf.keep hK7).mono hM7
      have hB7 := bel_trans HB5 hM7
      clear HO5 HO6 HF6 htwo hal HB7
      go_wp2_with fail
      refine (alike_rd lv sv S _ HL7.rdf HF7).mono ?_
      rintro e w8 ⟨rfl, HB8⟩
      obtain ⟨y1, by1, ry1⟩ := HS7.keep HB8
      have d12 := by1.cell 2 rfl
      have d13 := by1.cell 3 rfl
      have d14 := by1.cell 4 rfl
      have hy1 := ry1.1
      have hB8 := bel_trans hB7 HB8
      clear by1 ry1 HS7 HL7 HF7
      go_wp2_with (first
        | (go_at_call 37; with_reducible refine (Waits_any g y1 [] _ d12 hy1).mono ?_; rintro e w' ⟨rfl, rfl⟩)
        | (go_at_call 38; with_reducible refine (Junk_any g q.length _ d13).mono ?_; rintro e w' ⟨rfl, rfl⟩)
        | (go_at_call 39; with_reducible refine (Lost_any g 0 _ d14).mono ?_; rintro e w' ⟨rfl, rfl⟩))
      go_ret
      exact ⟨rfl, hB8⟩
end Go.Proofs.Ytilmmohkdgmhnaa
