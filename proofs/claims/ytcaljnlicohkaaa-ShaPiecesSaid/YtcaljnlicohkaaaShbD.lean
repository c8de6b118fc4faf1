/- The law ShaPieces. -/
import Derived.Test.YtcaljnlicohkaaaShbC
import Derived.Test.YtcaljnlicohkaaaShaV
import Derived.Test.YtcaljnlicohkaaaShaQ
import Derived.Test.YtcaljnlicohkaaaOpen2
import Derived.Test.YtcaljnlicohkaaaRegW
namespace Go.Proofs.Ytcaljnlicohkaaa
open Go.RowKit
set_option maxRecDepth 100000
set_option linter.unusedVariables false
theorem ints_read {w : World} {u : Value} {cs : List Int} (r : RSl 1 8 (RInt .i64) w [u] cs) : ∃ A cap, u = .slice A cs.length cap ∧ cs.length ≤ 140737488351232 ∧ cs.length ≤ cap ∧ ∀ j, j < cs.length → ∃ b off, A = some ⟨b, off, none⟩ ∧ w.cell? ⟨b, off + j, none⟩ = some (.int .i64 (cs.getD j 0)) ∧ -9223372036854775808 ≤ cs.getD j 0 ∧ cs.getD j 0 ≤ 9223372036854775807 := by
  obtain ⟨v, vs, hv, ⟨hl, A, cap, rfl, h1, h2, h3, h4⟩, hB, hx⟩ := r
  injection hv with hv
  refine ⟨A, cap, hv, by omega, h1, fun j hj => ?_⟩
  obtain ⟨b, off, hA, hc⟩ := h4 j (by omega)
  obtain ⟨a, ha, hal, hr, hwf⟩ := hx j hj
  have e1 : vs[j]? = some (.int .i64 a) := by
    have := congrArg (·[0]?) hr
    simp only [Nat.mul_one, List.getElem?_take, List.getElem?_drop] at this
    simpa using this
  have e2 : cs.getD j 0 = a := by rw [List.getD_eq_getElem?_getD, ha]; rfl
  refine ⟨b, off, hA, by rw [hc, e1, e2], ?_⟩
  rw [e2]
  exact wf_i64 hwf
theorem sha_Sum_abc1 (w : World) : Calls Try.prog 17 #[.slice (some ⟨w.heap.size + 1, 0, none⟩) 1 1] ((w.alloc (.cells #[.int .u8 97, .int .u8 98, .int .u8 99] 5 (3, 4))).alloc (.cells #[.slice (some ⟨w.heap.size, 0, none⟩) 3 3] 34)) fun e w' => e = .returned (.agg (u8A (digL [97, 98, 99]))) ∧ Below w.heap.size w w' := by
  have h1 : Rd (w.alloc (.cells #[.int .u8 97, .int .u8 98, .int .u8 99] 5 (3, 4))) (.slice (some ⟨w.heap.size, 0, none⟩) 3 3) [97, 98, 99] := rd_new [97, 98, 99] rfl rfl (by intro b hb; simp at hb; omega) (by decide)
  have h3 := rdl_one (t := 34) h1
  rw [show (w.alloc (.cells #[.int .u8 97, .int .u8 98, .int .u8 99] 5 (3, 4))).heap.size = w.heap.size + 1 by simp] at h3
  refine (sha_Sum_any _ _ _ h3 (by intro xs hx; simp at hx; subst hx; decide)).mono ?_
  rintro e w1 ⟨rfl, hb1⟩
  exact ⟨rfl, bel_trans (al1 (al1 (Below.refl _ _) _) _) hb1⟩
theorem take_drop_take (B : List Int) {m m2 : Nat} (h : m ≤ m2) : B.take m ++ (B.take m2).drop m = B.take m2 := by
  have h1 : B.take m = (B.take m2).take m := by rw [List.take_take, Nat.min_eq_left h]
  rw [h1, List.take_append_drop]
set_option maxHeartbeats 4000000 in
theorem law_ShaPieces (w : World) (v : Value) (B : List Int) (HR : Rd w v B) (hl : B.length ≤ 140737488351232) (u : Value) (cs : List Int) (r : RSl 1 8 (RInt .i64) w [u] cs) :
    Calls Try.prog 11 #[v, u] w fun e w' => e = .returned (.bool true) ∧ Below w.heap.size w w' := by
  obtain ⟨A, cap, rfl, hcl, hcap, hc⟩ := ints_read r
  obtain ⟨AB, cB, rfl, _⟩ := HR.form
  have hcH := hd_ hc
  have hRH := hd_ HR
  clear hc HR r
  go_enter Try.func11, Try.ntmps11
  go_upto_region 4 with (go_at_call 20; refine (HsL.new _).mono ?_; rintro e w1 ⟨g1, rfl, hH1, hg1, HB1⟩)
  have hh := hd_ (And.intro hH1 (And.intro hg1 HB1))
  clear hH1 hg1 HB1
  go_loopw [5, 6, 15] (fun vh va vi wr => ∃ (i at_ g : Nat), i ≤ cs.length ∧ at_ ≤ B.length ∧ vh = .pointer (some ⟨g, 0, none⟩) ∧ va = .int .i64 at_ ∧ vi = .int .i64 i ∧ HsL wr g (B.take at_) ∧ w.heap.size ≤ g ∧ Below w.heap.size w wr) (fun _ _ vi _ => cs.length - (intOf vi).toNat)
  case atStart => exact ⟨0, 0, g1, Nat.zero_le _, Nat.zero_le _, rfl, rfl, rfl, by rw [List.take_zero]; exact hh.out.1, hh.out.2.1, hh.out.2.2⟩
  case round =>
    clear hh
    obtain ⟨i, m, g, hi, hm, rfl, rfl, rfl, hH, hg, hB⟩ := hrel
    by_cases hlt : i < cs.length
    · obtain ⟨b, off, rfl, hc0, hcl0, hcl1⟩ := hcH.out i hlt
      have hcell := cell_keep hB hc0
      obtain ⟨c, hcE⟩ : ∃ c, c = cs.getD i 0 := ⟨_, rfl⟩
      rw [← hcE] at hcell hcl0 hcl1
      have hcr := hd_ (And.intro hcl0 hcl1)
      clear hc0 hcl0 hcl1 hcE
      have hq := hd_ (And.intro hH (And.intro hg hB))
      have hmH := hd_ (And.intro hm hi)
      have hw1 : wrap64 ((B.length : Int) - (m : Int)) = (B.length : Int) - (m : Int) := by unfold wrap64; omega
      have hw2 : wrap64 ((B.length : Int) - (m : Int) + 1) = (B.length : Int) - (m : Int) + 1 := by unfold wrap64; omega
      clear hH hg hB hi
      by_cases hpos : 0 < c
      · have hmod0 := Int.emod_nonneg c (show ((B.length : Int) - (m : Int) + 1) ≠ 0 by omega)
        have hmod1 := Int.emod_lt_of_pos c (show 0 < ((B.length : Int) - (m : Int) + 1) by omega)
        obtain ⟨n, hn⟩ := Int.eq_ofNat_of_zero_le hmod0
        rw [hn] at hmod1
        obtain ⟨m2, hm2⟩ : ∃ m2, m2 = m + n := ⟨_, rfl⟩
        have hmn : wrap64 ((m : Int) + (n : Int)) = (m2 : Int) := by unfold wrap64; omega
        have hmm : (m : Int) + (n : Int) = (m2 : Int) := by omega
        have hm2l : m2 ≤ B.length := by omega
        have hmm2 : m ≤ m2 := by omega
        clear hmod0 hmod1 hm2
        have hRq := hRH.out
        obtain ⟨u5, hu5, hRu5⟩ := hRq.sl Try.underlying34 infoB m m2 (by first | omega | exact Nat.le_refl _) (by omega)
        obtain ⟨u6, hu6, hRu6⟩ := hRq.sl_h Try.underlying34 infoB m2 (by omega)
        have hu5' : ∀ W, (Instr.slice 34 (.slice AB B.length cB) (some (.int .i64 (m : Int))) (some (.int .i64 (m2 : Int))) none).run Try.prog W = .ok u5 W := hu5
        have hu6' : ∀ W, (Instr.slice 34 (.slice AB B.length cB) none (some (.int .i64 (m2 : Int))) none).run Try.prog W = .ok u6 W := hu6
        have hj := hd_ (show B.take m ++ (B.take m2).drop m = B.take m2 from take_drop_take B (by first | omega | exact Nat.le_refl _))
        have hy5 := hd_ (show (B.take m2).drop m ≠ [] → u5.ownBlock ≠ some g from fun hne e => by have := rd_lt hRu5 hne g e; have := hq.out.2.1; omega)
        have hRu5k := hd_ (hRu5.keep hq.out.2.2)
        have hl5 := hd_ (show ((B.take m2).drop m).length ≤ 140737488351232 by rw [List.length_drop, List.length_take]; omega)
        have hR6 := hd_ hRu6
        have hl6 := hd_ (show ∀ xs ∈ [B.take m2], xs.length ≤ 140737488351232 by intro xs hx; simp only [List.mem_cons, List.not_mem_nil, or_false] at hx; subst hx; rw [List.length_take]; omega)
        have hlen6 := hd_ (show (B.take m2).length = m2 by rw [List.length_take]; omega)
        clear hRq hu5 hu6 hRu5 hRu6
        generalize hT : B.take m2 = T at *
        have HT := hd_ hT
        clear hT
        go_upto_region 9 with fail
        rw [hn]
        go_upto_region 11 with (go_at_call 22; (with_reducible refine (hq.out.1.write u5 _ hRu5k.out hl5.out hy5.out).mono ?_); rintro e wq ⟨rfl, hHq, hCq⟩; rw [hj.out] at hHq)
        have HBq := hd_ (Chg.then hq.out.2.2 hCq (fun b hb => by subst hb; exact hq.out.2.1) hq.out.2.2.size)
        have hX := hd_ hHq
        have hR6q := hd_ (hR6.out.keep HBq.out)
        have hone := hd_ (fun W t (h : Below wq.heap.size wq W) => rdl_one (t := t) (hR6q.out.keep h))
        have heq := eqDg (digL (T)) (digL (T)) (digL_length _) (digL_length _)
        rw [decide_eq_true rfl] at heq
        obtain ⟨A6, c6, rfl, _⟩ := hR6.out.form
        clear hHq hCq hu5'
        have hXk := hd_ (fun W (h : Below wq.heap.size wq W) => hX.out.keep h)
        by_cases hev : i % 2 = 0
        · have hevI : (i : Int).tmod 2 = 0 := by rw [Int.tmod_eq_emod_of_nonneg (Int.natCast_nonneg i)]; omega
          refine wp_region_any (by kernel_rfl) ?_
          change wpAny _ _ _ _ _ _ _ (World.drew _)
          refine take_W 0 _ _ (v := ?_) rfl (by kernel_rfl) (by kernel_rfl) (by kernel_rfl) (fun _ _ _ h => h) rfl ?_ ?_
          rotate_left
          · intro W; go_simp; try with_reducible rfl
          simp only [Act.put, List.setIfInBounds_toArray, List.set_cons_zero, List.set_cons_succ]
          refine take_W 1 _ _ (v := ?_) rfl (by kernel_rfl) (by kernel_rfl) (by kernel_rfl) (fun _ _ _ h => h) rfl ?_ ?_
          rotate_left
          · intro W; go_simp; try with_reducible rfl
          simp only [Act.put, List.setIfInBounds_toArray, List.set_cons_zero, List.set_cons_succ]
          refine take_W 2 _ _ (v := ?_) rfl (by kernel_rfl) (by kernel_rfl) (by kernel_rfl) (fun _ _ _ h => h) rfl ?_ ?_
          rotate_left
          · intro W; go_simp; try with_reducible rfl
          simp only [Act.put, List.setIfInBounds_toArray, List.set_cons_zero, List.set_cons_succ]
          refine take_W 3 _ _ (v := ?_) rfl (by kernel_rfl) (by kernel_rfl) (by kernel_rfl) (fun _ _ _ h => h) rfl ?_ ?_
          rotate_left
          · intro W; go_simp; try with_reducible rfl
          simp only [Act.put, List.setIfInBounds_toArray, List.set_cons_zero, List.set_cons_succ]
          refine take_W 4 _ _ (v := ?_) rfl (by kernel_rfl) (by kernel_rfl) (by kernel_rfl) (fun _ _ _ h => h) rfl ?_ ?_
          rotate_left
          · intro W; go_simp; try with_reducible rfl
          simp only [Act.put, List.setIfInBounds_toArray, List.set_cons_zero, List.set_cons_succ]
          refine take_W 6 _ _ (v := ?_) rfl (by kernel_rfl) (by kernel_rfl) (by kernel_rfl) (fun _ _ _ h => h) rfl ?_ ?_
          rotate_left
          · intro W; go_simp; try with_reducible rfl
          simp only [Act.put, List.setIfInBounds_toArray, List.set_cons_zero, List.set_cons_succ]
          refine take_W 7 _ _ (v := ?_) rfl (by kernel_rfl) (by kernel_rfl) (by kernel_rfl) (fun _ _ _ h => h) rfl ?_ ?_
          rotate_left
          · intro W; go_simp; try with_reducible rfl
          simp only [Act.put, List.setIfInBounds_toArray, List.set_cons_zero, List.set_cons_succ]
          refine take_W 8 _ _ (v := ?_) rfl (by kernel_rfl) (by kernel_rfl) (by kernel_rfl) (fun _ _ _ h => h) rfl ?_ ?_
          rotate_left
          · intro W; simp [execOp, Act.eval, Instr.sliceAt, hu6', Result.andThen]; try with_reducible rfl
          simp only [Act.put, List.setIfInBounds_toArray, List.set_cons_zero, List.set_cons_succ]
          refine ready2_W 5 9 _ _ _ _ rfl rfl (by kernel_rfl) rfl rfl (fun K hK => ?_) (fun K hK => ?_)
          · go_simp
            with_reducible refine (hXk.out _ (Below.refl wq.heap.size wq).drew).sum.mono ?_
            rintro e wa ⟨rfl, HBa⟩
            refine hK _ _ ?_
            clear hK K
            refine ready_W 9 _ _ rfl (by kernel_rfl) rfl (fun K hK => ?_)
            go_simp
            refine hK _ _ ?_
            clear hK K
            refine ready_W 10 _ _ rfl (by kernel_rfl) rfl (fun K hK => ?_)
            go_simp
            with_reducible refine (sha_Sum_any _ [T] _ (hone.out _ _ (bel_trans (Below.refl wq.heap.size wq).drew HBa)) hl6.out).mono ?_
            rintro e wb ⟨rfl, HBb⟩
            rw [List.flatten_singleton]
            refine hK _ _ ?_
            clear hK K
            have HBz := hd_ (bel_trans (al1 (bel_trans (Below.refl wq.heap.size wq).drew HBa) _) HBb)
            clear HBa HBb
            refine take_W 11 _ _ (v := ?_) rfl (by kernel_rfl) (by kernel_rfl) (by kernel_rfl) (fun _ _ _ h => h) rfl ?_ ?_
            rotate_left
            · intro W; go_simp; try with_reducible rfl
            simp only [Act.put, List.setIfInBounds_toArray, List.set_cons_zero, List.set_cons_succ]
            refine take_W 12 _ _ (v := ?_) rfl (by kernel_rfl) (by kernel_rfl) (by kernel_rfl) (fun _ _ _ h => h) rfl ?_ ?_
            rotate_left
            · intro W; go_simp; try with_reducible rfl
            simp only [Act.put, List.setIfInBounds_toArray, List.set_cons_zero, List.set_cons_succ]
            refine take_W 13 _ _ (v := ?_) rfl (by kernel_rfl) (by kernel_rfl) (by kernel_rfl) (fun _ _ _ h => h) rfl ?_ ?_
            rotate_left
            · intro W; go_simp; try with_reducible rfl
            simp only [Act.put, List.setIfInBounds_toArray, List.set_cons_zero, List.set_cons_succ]
            refine take_W 14 _ _ (v := ?_) rfl (by kernel_rfl) (by kernel_rfl) (by kernel_rfl) (fun _ _ _ h => h) rfl ?_ ?_
            rotate_left
            · intro W; go_simp; try with_reducible rfl
            simp only [Act.put, List.setIfInBounds_toArray, List.set_cons_zero, List.set_cons_succ]
            refine take_W 16 _ _ (v := ?_) rfl (by kernel_rfl) (by kernel_rfl) (by kernel_rfl) (fun _ _ _ h => h) rfl ?_ ?_
            rotate_left
            · intro W; go_simp; try with_reducible rfl
            simp only [Act.put, List.setIfInBounds_toArray, List.set_cons_zero, List.set_cons_succ]
            refine ready_W 15 _ _ rfl (by kernel_rfl) rfl (fun K hK => ?_)
            go_simp
            with_reducible refine (HsL.len (hXk.out _ HBz.out) (by rw [hlen6.out]; omega)).mono ?_
            rintro e wc ⟨rfl, rfl⟩
            rw [hlen6.out]
            refine hK _ _ ?_
            clear hK K
            refine take_W 17 _ _ (v := ?_) rfl (by kernel_rfl) (by kernel_rfl) (by kernel_rfl) (fun _ _ _ h => h) rfl ?_ ?_
            rotate_left
            · intro W; go_simp; try with_reducible rfl
            simp only [Act.put, List.setIfInBounds_toArray, List.set_cons_zero, List.set_cons_succ]
            refine take_W 18 _ _ (v := ?_) rfl (by kernel_rfl) (by kernel_rfl) (by kernel_rfl) (fun _ _ _ h => h) rfl ?_ ?_
            rotate_left
            · intro W; go_simp; try with_reducible rfl
            simp only [Act.put, List.setIfInBounds_toArray, List.set_cons_zero, List.set_cons_succ]
            refine wpAny_done (by kernel_rfl) ?_ _
            have hXz := hd_ (hXk.out _ HBz.out)
            have HBw := hd_ (bel_trans HBq.out HBz.out)
            clear HBz heq hu6'
            by_cases h3 : i % 3 = 1
            · have h3I : (i : Int).tmod 3 = 1 := by rw [Int.tmod_eq_emod_of_nonneg (Int.natCast_nonneg i)]; omega
              go_wp2_with (first
                | (go_at_call 25; (with_reducible refine (hXz.out.save).mono ?_); rintro e wy ⟨vy, rfl, HFy, HBy⟩)
                | (go_at_call 31; (with_reducible refine (HsL.load (L := T) vy HFy.rd (by rw [hlen6.out]; omega)).mono ?_); rintro e wx ⟨gx, rfl, hHx, hgx, HBx⟩))
              go_roundw
              case rel => exact ⟨i + 1, m2, gx, hlt, by omega, rfl, rfl, by go_num, by rw [HT.out]; exact hHx, Nat.le_trans (Nat.le_trans HBw.out.size HBy.size) hgx, bel_trans (bel_trans HBw.out HBy) HBx⟩
              case measure => (simp [intOf]; try omega)
            · have h3I : ((i : Int).tmod 3 == 1) = false := by rw [Int.tmod_eq_emod_of_nonneg (Int.natCast_nonneg i)]; simp; omega
              have h3J : ¬ ((i : Int).tmod 3 = 1) := by rw [Int.tmod_eq_emod_of_nonneg (Int.natCast_nonneg i)]; omega
              go_wp2
              go_roundw
              case rel => exact ⟨i + 1, m2, g, hlt, by omega, rfl, rfl, by go_num, by rw [HT.out]; exact hXz.out, hq.out.2.1, HBw.out⟩
              case measure => (simp [intOf]; try omega)
          · go_simp
            refine hK _ _ ?_
            clear hK K
            refine ready_W 5 _ _ rfl (by kernel_rfl) rfl (fun K hK => ?_)
            go_simp
            with_reducible refine (hXk.out _ (al1 (Below.refl wq.heap.size wq) _).drew).sum.mono ?_
            rintro e wa ⟨rfl, HBa⟩
            refine hK _ _ ?_
            clear hK K
            refine ready_W 10 _ _ rfl (by kernel_rfl) rfl (fun K hK => ?_)
            go_simp
            refine (sha_Sum_any _ [T] _ (((hone.out _ _ (Below.refl wq.heap.size wq)).keep (Below.refl _ _).drew).keep HBa) hl6.out).mono ?_
            rintro e wb ⟨rfl, HBb⟩
            rw [List.flatten_singleton]
            refine hK _ _ ?_
            clear hK K
            have HBz := hd_ (bel_trans (bel_trans (al1 (Below.refl wq.heap.size wq) _).drew HBa) HBb)
            clear HBa HBb
            refine take_W 11 _ _ (v := ?_) rfl (by kernel_rfl) (by kernel_rfl) (by kernel_rfl) (fun _ _ _ h => h) rfl ?_ ?_
            rotate_left
            · intro W; go_simp; try with_reducible rfl
            simp only [Act.put, List.setIfInBounds_toArray, List.set_cons_zero, List.set_cons_succ]
            refine take_W 12 _ _ (v := ?_) rfl (by kernel_rfl) (by kernel_rfl) (by kernel_rfl) (fun _ _ _ h => h) rfl ?_ ?_
            rotate_left
            · intro W; go_simp; try with_reducible rfl
            simp only [Act.put, List.setIfInBounds_toArray, List.set_cons_zero, List.set_cons_succ]
            refine take_W 13 _ _ (v := ?_) rfl (by kernel_rfl) (by kernel_rfl) (by kernel_rfl) (fun _ _ _ h => h) rfl ?_ ?_
            rotate_left
            · intro W; go_simp; try with_reducible rfl
            simp only [Act.put, List.setIfInBounds_toArray, List.set_cons_zero, List.set_cons_succ]
            refine take_W 14 _ _ (v := ?_) rfl (by kernel_rfl) (by kernel_rfl) (by kernel_rfl) (fun _ _ _ h => h) rfl ?_ ?_
            rotate_left
            · intro W; go_simp; try with_reducible rfl
            simp only [Act.put, List.setIfInBounds_toArray, List.set_cons_zero, List.set_cons_succ]
            refine take_W 16 _ _ (v := ?_) rfl (by kernel_rfl) (by kernel_rfl) (by kernel_rfl) (fun _ _ _ h => h) rfl ?_ ?_
            rotate_left
            · intro W; go_simp; try with_reducible rfl
            simp only [Act.put, List.setIfInBounds_toArray, List.set_cons_zero, List.set_cons_succ]
            refine ready_W 15 _ _ rfl (by kernel_rfl) rfl (fun K hK => ?_)
            go_simp
            with_reducible refine (HsL.len (hXk.out _ HBz.out) (by rw [hlen6.out]; omega)).mono ?_
            rintro e wc ⟨rfl, rfl⟩
            rw [hlen6.out]
            refine hK _ _ ?_
            clear hK K
            refine take_W 17 _ _ (v := ?_) rfl (by kernel_rfl) (by kernel_rfl) (by kernel_rfl) (fun _ _ _ h => h) rfl ?_ ?_
            rotate_left
            · intro W; go_simp; try with_reducible rfl
            simp only [Act.put, List.setIfInBounds_toArray, List.set_cons_zero, List.set_cons_succ]
            refine take_W 18 _ _ (v := ?_) rfl (by kernel_rfl) (by kernel_rfl) (by kernel_rfl) (fun _ _ _ h => h) rfl ?_ ?_
            rotate_left
            · intro W; go_simp; try with_reducible rfl
            simp only [Act.put, List.setIfInBounds_toArray, List.set_cons_zero, List.set_cons_succ]
            refine wpAny_done (by kernel_rfl) ?_ _
            have hXz := hd_ (hXk.out _ HBz.out)
            have HBw := hd_ (bel_trans HBq.out HBz.out)
            clear HBz heq hu6'
            by_cases h3 : i % 3 = 1
            · have h3I : (i : Int).tmod 3 = 1 := by rw [Int.tmod_eq_emod_of_nonneg (Int.natCast_nonneg i)]; omega
              go_wp2_with (first
                | (go_at_call 25; (with_reducible refine (hXz.out.save).mono ?_); rintro e wy ⟨vy, rfl, HFy, HBy⟩)
                | (go_at_call 31; (with_reducible refine (HsL.load (L := T) vy HFy.rd (by rw [hlen6.out]; omega)).mono ?_); rintro e wx ⟨gx, rfl, hHx, hgx, HBx⟩))
              go_roundw
              case rel => exact ⟨i + 1, m2, gx, hlt, by omega, rfl, rfl, by go_num, by rw [HT.out]; exact hHx, Nat.le_trans (Nat.le_trans HBw.out.size HBy.size) hgx, bel_trans (bel_trans HBw.out HBy) HBx⟩
              case measure => (simp [intOf]; try omega)
            · have h3I : ((i : Int).tmod 3 == 1) = false := by rw [Int.tmod_eq_emod_of_nonneg (Int.natCast_nonneg i)]; simp; omega
              have h3J : ¬ ((i : Int).tmod 3 = 1) := by rw [Int.tmod_eq_emod_of_nonneg (Int.natCast_nonneg i)]; omega
              go_wp2
              go_roundw
              case rel => exact ⟨i + 1, m2, g, hlt, by omega, rfl, rfl, by go_num, by rw [HT.out]; exact hXz.out, hq.out.2.1, HBw.out⟩
              case measure => (simp [intOf]; try omega)
        · have hevI : (i : Int).tmod 2 = 1 := by rw [Int.tmod_eq_emod_of_nonneg (Int.natCast_nonneg i)]; omega
          refine wp_region_any (by kernel_rfl) ?_
          change wpAny _ _ _ _ _ _ _ (World.drew _)
          refine take_W 0 _ _ (v := ?_) rfl (by kernel_rfl) (by kernel_rfl) (by kernel_rfl) (fun _ _ _ h => h) rfl ?_ ?_
          rotate_left
          · intro W; go_simp; try with_reducible rfl
          simp only [Act.put, List.setIfInBounds_toArray, List.set_cons_zero, List.set_cons_succ]
          refine take_W 1 _ _ (v := ?_) rfl (by kernel_rfl) (by kernel_rfl) (by kernel_rfl) (fun _ _ _ h => h) rfl ?_ ?_
          rotate_left
          · intro W; go_simp; try with_reducible rfl
          simp only [Act.put, List.setIfInBounds_toArray, List.set_cons_zero, List.set_cons_succ]
          refine take_W 2 _ _ (v := ?_) rfl (by kernel_rfl) (by kernel_rfl) (by kernel_rfl) (fun _ _ _ h => h) rfl ?_ ?_
          rotate_left
          · intro W; go_simp; try with_reducible rfl
          simp only [Act.put, List.setIfInBounds_toArray, List.set_cons_zero, List.set_cons_succ]
          refine take_W 3 _ _ (v := ?_) rfl (by kernel_rfl) (by kernel_rfl) (by kernel_rfl) (fun _ _ _ h => h) rfl ?_ ?_
          rotate_left
          · intro W; go_simp; try with_reducible rfl
          simp only [Act.put, List.setIfInBounds_toArray, List.set_cons_zero, List.set_cons_succ]
          refine skip_W 4 _ _ rfl (by kernel_rfl) (by kernel_rfl) (by kernel_rfl) (fun _ _ _ h => h) rfl ?_
          simp only [Act.put, List.setIfInBounds_toArray, List.set_cons_zero, List.set_cons_succ]
          refine skip_W 5 _ _ rfl (by kernel_rfl) (by kernel_rfl) (by kernel_rfl) (fun _ _ _ h => h) rfl ?_
          simp only [Act.put, List.setIfInBounds_toArray, List.set_cons_zero, List.set_cons_succ]
          refine skip_W 6 _ _ rfl (by kernel_rfl) (by kernel_rfl) (by kernel_rfl) (fun _ _ _ h => h) rfl ?_
          simp only [Act.put, List.setIfInBounds_toArray, List.set_cons_zero, List.set_cons_succ]
          refine skip_W 7 _ _ rfl (by kernel_rfl) (by kernel_rfl) (by kernel_rfl) (fun _ _ _ h => h) rfl ?_
          simp only [Act.put, List.setIfInBounds_toArray, List.set_cons_zero, List.set_cons_succ]
          refine skip_W 8 _ _ rfl (by kernel_rfl) (by kernel_rfl) (by kernel_rfl) (fun _ _ _ h => h) rfl ?_
          simp only [Act.put, List.setIfInBounds_toArray, List.set_cons_zero, List.set_cons_succ]
          refine skip_W 9 _ _ rfl (by kernel_rfl) (by kernel_rfl) (by kernel_rfl) (fun _ _ _ h => h) rfl ?_
          simp only [Act.put, List.setIfInBounds_toArray, List.set_cons_zero, List.set_cons_succ]
          refine skip_W 10 _ _ rfl (by kernel_rfl) (by kernel_rfl) (by kernel_rfl) (fun _ _ _ h => h) rfl ?_
          simp only [Act.put, List.setIfInBounds_toArray, List.set_cons_zero, List.set_cons_succ]
          refine skip_W 11 _ _ rfl (by kernel_rfl) (by kernel_rfl) (by kernel_rfl) (fun _ _ _ h => h) rfl ?_
          simp only [Act.put, List.setIfInBounds_toArray, List.set_cons_zero, List.set_cons_succ]
          refine take_W 12 _ _ (v := ?_) rfl (by kernel_rfl) (by kernel_rfl) (by kernel_rfl) (fun _ _ _ h => h) rfl ?_ ?_
          rotate_left
          · intro W; go_simp; try with_reducible rfl
          simp only [Act.put, List.setIfInBounds_toArray, List.set_cons_zero, List.set_cons_succ]
          refine take_W 13 _ _ (v := ?_) rfl (by kernel_rfl) (by kernel_rfl) (by kernel_rfl) (fun _ _ _ h => h) rfl ?_ ?_
          rotate_left
          · intro W; go_simp; try with_reducible rfl
          simp only [Act.put, List.setIfInBounds_toArray, List.set_cons_zero, List.set_cons_succ]
          have HBz := hd_ ((Below.refl wq.heap.size wq).drew)
          refine take_W 14 _ _ (v := ?_) rfl (by kernel_rfl) (by kernel_rfl) (by kernel_rfl) (fun _ _ _ h => h) rfl ?_ ?_
          rotate_left
          · intro W; go_simp; try with_reducible rfl
          simp only [Act.put, List.setIfInBounds_toArray, List.set_cons_zero, List.set_cons_succ]
          refine take_W 16 _ _ (v := ?_) rfl (by kernel_rfl) (by kernel_rfl) (by kernel_rfl) (fun _ _ _ h => h) rfl ?_ ?_
          rotate_left
          · intro W; go_simp; try with_reducible rfl
          simp only [Act.put, List.setIfInBounds_toArray, List.set_cons_zero, List.set_cons_succ]
          refine ready_W 15 _ _ rfl (by kernel_rfl) rfl (fun K hK => ?_)
          go_simp
          with_reducible refine (HsL.len (hXk.out _ HBz.out) (by rw [hlen6.out]; omega)).mono ?_
          rintro e wc ⟨rfl, rfl⟩
          rw [hlen6.out]
          refine hK _ _ ?_
          clear hK K
          refine take_W 17 _ _ (v := ?_) rfl (by kernel_rfl) (by kernel_rfl) (by kernel_rfl) (fun _ _ _ h => h) rfl ?_ ?_
          rotate_left
          · intro W; go_simp; try with_reducible rfl
          simp only [Act.put, List.setIfInBounds_toArray, List.set_cons_zero, List.set_cons_succ]
          refine take_W 18 _ _ (v := ?_) rfl (by kernel_rfl) (by kernel_rfl) (by kernel_rfl) (fun _ _ _ h => h) rfl ?_ ?_
          rotate_left
          · intro W; go_simp; try with_reducible rfl
          simp only [Act.put, List.setIfInBounds_toArray, List.set_cons_zero, List.set_cons_succ]
          refine wpAny_done (by kernel_rfl) ?_ _
          have hXz := hd_ (hXk.out _ HBz.out)
          have HBw := hd_ (bel_trans HBq.out HBz.out)
          clear HBz heq hu6'
          by_cases h3 : i % 3 = 1
          · have h3I : (i : Int).tmod 3 = 1 := by rw [Int.tmod_eq_emod_of_nonneg (Int.natCast_nonneg i)]; omega
            go_wp2_with (first
              | (go_at_call 25; (with_reducible refine (hXz.out.save).mono ?_); rintro e wy ⟨vy, rfl, HFy, HBy⟩)
              | (go_at_call 31; (with_reducible refine (HsL.load (L := T) vy HFy.rd (by rw [hlen6.out]; omega)).mono ?_); rintro e wx ⟨gx, rfl, hHx, hgx, HBx⟩))
            go_roundw
            case rel => exact ⟨i + 1, m2, gx, hlt, by omega, rfl, rfl, by go_num, by rw [HT.out]; exact hHx, Nat.le_trans (Nat.le_trans HBw.out.size HBy.size) hgx, bel_trans (bel_trans HBw.out HBy) HBx⟩
            case measure => (simp [intOf]; try omega)
          · have h3I : ((i : Int).tmod 3 == 1) = false := by rw [Int.tmod_eq_emod_of_nonneg (Int.natCast_nonneg i)]; simp; omega
            have h3J : ¬ ((i : Int).tmod 3 = 1) := by rw [Int.tmod_eq_emod_of_nonneg (Int.natCast_nonneg i)]; omega
            go_wp2
            go_roundw
            case rel => exact ⟨i + 1, m2, g, hlt, by omega, rfl, rfl, by go_num, by rw [HT.out]; exact hXz.out, hq.out.2.1, HBw.out⟩
            case measure => (simp [intOf]; try omega)
      · have hRq := hRH.out
        obtain ⟨u5, hu5, hRu5⟩ := hRq.sl Try.underlying34 infoB m m (by first | omega | exact Nat.le_refl _) (by omega)
        obtain ⟨u6, hu6, hRu6⟩ := hRq.sl_h Try.underlying34 infoB m (by omega)
        have hu5' : ∀ W, (Instr.slice 34 (.slice AB B.length cB) (some (.int .i64 (m : Int))) (some (.int .i64 (m : Int))) none).run Try.prog W = .ok u5 W := hu5
        have hu6' : ∀ W, (Instr.slice 34 (.slice AB B.length cB) none (some (.int .i64 (m : Int))) none).run Try.prog W = .ok u6 W := hu6
        have hj := hd_ (show B.take m ++ (B.take m).drop m = B.take m from take_drop_take B (by first | omega | exact Nat.le_refl _))
        have hy5 := hd_ (show (B.take m).drop m ≠ [] → u5.ownBlock ≠ some g from fun hne e => by have := rd_lt hRu5 hne g e; have := hq.out.2.1; omega)
        have hRu5k := hd_ (hRu5.keep hq.out.2.2)
        have hl5 := hd_ (show ((B.take m).drop m).length ≤ 140737488351232 by rw [List.length_drop, List.length_take]; omega)
        have hR6 := hd_ hRu6
        have hl6 := hd_ (show ∀ xs ∈ [B.take m], xs.length ≤ 140737488351232 by intro xs hx; simp only [List.mem_cons, List.not_mem_nil, or_false] at hx; subst hx; rw [List.length_take]; omega)
        have hlen6 := hd_ (show (B.take m).length = m by rw [List.length_take]; omega)
        clear hRq hu5 hu6 hRu5 hRu6
        generalize hT : B.take m = T at *
        have HT := hd_ hT
        clear hT
        go_upto_region 9 with fail
        go_upto_region 11 with (go_at_call 22; (with_reducible refine (hq.out.1.write u5 _ hRu5k.out hl5.out hy5.out).mono ?_); rintro e wq ⟨rfl, hHq, hCq⟩; rw [hj.out] at hHq)
        have HBq := hd_ (Chg.then hq.out.2.2 hCq (fun b hb => by subst hb; exact hq.out.2.1) hq.out.2.2.size)
        have hX := hd_ hHq
        have hR6q := hd_ (hR6.out.keep HBq.out)
        have hone := hd_ (fun W t (h : Below wq.heap.size wq W) => rdl_one (t := t) (hR6q.out.keep h))
        have heq := eqDg (digL (T)) (digL (T)) (digL_length _) (digL_length _)
        rw [decide_eq_true rfl] at heq
        obtain ⟨A6, c6, rfl, _⟩ := hR6.out.form
        clear hHq hCq hu5'
        have hXk := hd_ (fun W (h : Below wq.heap.size wq W) => hX.out.keep h)
        by_cases hev : i % 2 = 0
        · have hevI : (i : Int).tmod 2 = 0 := by rw [Int.tmod_eq_emod_of_nonneg (Int.natCast_nonneg i)]; omega
          refine wp_region_any (by kernel_rfl) ?_
          change wpAny _ _ _ _ _ _ _ (World.drew _)
          refine take_W 0 _ _ (v := ?_) rfl (by kernel_rfl) (by kernel_rfl) (by kernel_rfl) (fun _ _ _ h => h) rfl ?_ ?_
          rotate_left
          · intro W; go_simp; try with_reducible rfl
          simp only [Act.put, List.setIfInBounds_toArray, List.set_cons_zero, List.set_cons_succ]
          refine take_W 1 _ _ (v := ?_) rfl (by kernel_rfl) (by kernel_rfl) (by kernel_rfl) (fun _ _ _ h => h) rfl ?_ ?_
          rotate_left
          · intro W; go_simp; try with_reducible rfl
          simp only [Act.put, List.setIfInBounds_toArray, List.set_cons_zero, List.set_cons_succ]
          refine take_W 2 _ _ (v := ?_) rfl (by kernel_rfl) (by kernel_rfl) (by kernel_rfl) (fun _ _ _ h => h) rfl ?_ ?_
          rotate_left
          · intro W; go_simp; try with_reducible rfl
          simp only [Act.put, List.setIfInBounds_toArray, List.set_cons_zero, List.set_cons_succ]
          refine take_W 3 _ _ (v := ?_) rfl (by kernel_rfl) (by kernel_rfl) (by kernel_rfl) (fun _ _ _ h => h) rfl ?_ ?_
          rotate_left
          · intro W; go_simp; try with_reducible rfl
          simp only [Act.put, List.setIfInBounds_toArray, List.set_cons_zero, List.set_cons_succ]
          refine take_W 4 _ _ (v := ?_) rfl (by kernel_rfl) (by kernel_rfl) (by kernel_rfl) (fun _ _ _ h => h) rfl ?_ ?_
          rotate_left
          · intro W; go_simp; try with_reducible rfl
          simp only [Act.put, List.setIfInBounds_toArray, List.set_cons_zero, List.set_cons_succ]
          refine take_W 6 _ _ (v := ?_) rfl (by kernel_rfl) (by kernel_rfl) (by kernel_rfl) (fun _ _ _ h => h) rfl ?_ ?_
          rotate_left
          · intro W; go_simp; try with_reducible rfl
          simp only [Act.put, List.setIfInBounds_toArray, List.set_cons_zero, List.set_cons_succ]
          refine take_W 7 _ _ (v := ?_) rfl (by kernel_rfl) (by kernel_rfl) (by kernel_rfl) (fun _ _ _ h => h) rfl ?_ ?_
          rotate_left
          · intro W; go_simp; try with_reducible rfl
          simp only [Act.put, List.setIfInBounds_toArray, List.set_cons_zero, List.set_cons_succ]
          refine take_W 8 _ _ (v := ?_) rfl (by kernel_rfl) (by kernel_rfl) (by kernel_rfl) (fun _ _ _ h => h) rfl ?_ ?_
          rotate_left
          · intro W; simp [execOp, Act.eval, Instr.sliceAt, hu6', Result.andThen]; try with_reducible rfl
          simp only [Act.put, List.setIfInBounds_toArray, List.set_cons_zero, List.set_cons_succ]
          refine ready2_W 5 9 _ _ _ _ rfl rfl (by kernel_rfl) rfl rfl (fun K hK => ?_) (fun K hK => ?_)
          · go_simp
            with_reducible refine (hXk.out _ (Below.refl wq.heap.size wq).drew).sum.mono ?_
            rintro e wa ⟨rfl, HBa⟩
            refine hK _ _ ?_
            clear hK K
            refine ready_W 9 _ _ rfl (by kernel_rfl) rfl (fun K hK => ?_)
            go_simp
            refine hK _ _ ?_
            clear hK K
            refine ready_W 10 _ _ rfl (by kernel_rfl) rfl (fun K hK => ?_)
            go_simp
            with_reducible refine (sha_Sum_any _ [T] _ (hone.out _ _ (bel_trans (Below.refl wq.heap.size wq).drew HBa)) hl6.out).mono ?_
            rintro e wb ⟨rfl, HBb⟩
            rw [List.flatten_singleton]
            refine hK _ _ ?_
            clear hK K
            have HBz := hd_ (bel_trans (al1 (bel_trans (Below.refl wq.heap.size wq).drew HBa) _) HBb)
            clear HBa HBb
            refine take_W 11 _ _ (v := ?_) rfl (by kernel_rfl) (by kernel_rfl) (by kernel_rfl) (fun _ _ _ h => h) rfl ?_ ?_
            rotate_left
            · intro W; go_simp; try with_reducible rfl
            simp only [Act.put, List.setIfInBounds_toArray, List.set_cons_zero, List.set_cons_succ]
            refine take_W 12 _ _ (v := ?_) rfl (by kernel_rfl) (by kernel_rfl) (by kernel_rfl) (fun _ _ _ h => h) rfl ?_ ?_
            rotate_left
            · intro W; go_simp; try with_reducible rfl
            simp only [Act.put, List.setIfInBounds_toArray, List.set_cons_zero, List.set_cons_succ]
            refine take_W 13 _ _ (v := ?_) rfl (by kernel_rfl) (by kernel_rfl) (by kernel_rfl) (fun _ _ _ h => h) rfl ?_ ?_
            rotate_left
            · intro W; go_simp; try with_reducible rfl
            simp only [Act.put, List.setIfInBounds_toArray, List.set_cons_zero, List.set_cons_succ]
            refine take_W 14 _ _ (v := ?_) rfl (by kernel_rfl) (by kernel_rfl) (by kernel_rfl) (fun _ _ _ h => h) rfl ?_ ?_
            rotate_left
            · intro W; go_simp; try with_reducible rfl
            simp only [Act.put, List.setIfInBounds_toArray, List.set_cons_zero, List.set_cons_succ]
            refine take_W 16 _ _ (v := ?_) rfl (by kernel_rfl) (by kernel_rfl) (by kernel_rfl) (fun _ _ _ h => h) rfl ?_ ?_
            rotate_left
            · intro W; go_simp; try with_reducible rfl
            simp only [Act.put, List.setIfInBounds_toArray, List.set_cons_zero, List.set_cons_succ]
            refine ready_W 15 _ _ rfl (by kernel_rfl) rfl (fun K hK => ?_)
            go_simp
            with_reducible refine (HsL.len (hXk.out _ HBz.out) (by rw [hlen6.out]; omega)).mono ?_
            rintro e wc ⟨rfl, rfl⟩
            rw [hlen6.out]
            refine hK _ _ ?_
            clear hK K
            refine take_W 17 _ _ (v := ?_) rfl (by kernel_rfl) (by kernel_rfl) (by kernel_rfl) (fun _ _ _ h => h) rfl ?_ ?_
            rotate_left
            · intro W; go_simp; try with_reducible rfl
            simp only [Act.put, List.setIfInBounds_toArray, List.set_cons_zero, List.set_cons_succ]
            refine take_W 18 _ _ (v := ?_) rfl (by kernel_rfl) (by kernel_rfl) (by kernel_rfl) (fun _ _ _ h => h) rfl ?_ ?_
            rotate_left
            · intro W; go_simp; try with_reducible rfl
            simp only [Act.put, List.setIfInBounds_toArray, List.set_cons_zero, List.set_cons_succ]
            refine wpAny_done (by kernel_rfl) ?_ _
            have hXz := hd_ (hXk.out _ HBz.out)
            have HBw := hd_ (bel_trans HBq.out HBz.out)
            clear HBz heq hu6'
            by_cases h3 : i % 3 = 1
            · have h3I : (i : Int).tmod 3 = 1 := by rw [Int.tmod_eq_emod_of_nonneg (Int.natCast_nonneg i)]; omega
              go_wp2_with (first
                | (go_at_call 25; (with_reducible refine (hXz.out.save).mono ?_); rintro e wy ⟨vy, rfl, HFy, HBy⟩)
                | (go_at_call 31; (with_reducible refine (HsL.load (L := T) vy HFy.rd (by rw [hlen6.out]; omega)).mono ?_); rintro e wx ⟨gx, rfl, hHx, hgx, HBx⟩))
              go_roundw
              case rel => exact ⟨i + 1, m, gx, hlt, by omega, rfl, rfl, by go_num, by rw [HT.out]; exact hHx, Nat.le_trans (Nat.le_trans HBw.out.size HBy.size) hgx, bel_trans (bel_trans HBw.out HBy) HBx⟩
              case measure => (simp [intOf]; try omega)
            · have h3I : ((i : Int).tmod 3 == 1) = false := by rw [Int.tmod_eq_emod_of_nonneg (Int.natCast_nonneg i)]; simp; omega
              have h3J : ¬ ((i : Int).tmod 3 = 1) := by rw [Int.tmod_eq_emod_of_nonneg (Int.natCast_nonneg i)]; omega
              go_wp2
              go_roundw
              case rel => exact ⟨i + 1, m, g, hlt, by omega, rfl, rfl, by go_num, by rw [HT.out]; exact hXz.out, hq.out.2.1, HBw.out⟩
              case measure => (simp [intOf]; try omega)
          · go_simp
            refine hK _ _ ?_
            clear hK K
            refine ready_W 5 _ _ rfl (by kernel_rfl) rfl (fun K hK => ?_)
            go_simp
            with_reducible refine (hXk.out _ (al1 (Below.refl wq.heap.size wq) _).drew).sum.mono ?_
            rintro e wa ⟨rfl, HBa⟩
            refine hK _ _ ?_
            clear hK K
            refine ready_W 10 _ _ rfl (by kernel_rfl) rfl (fun K hK => ?_)
            go_simp
            refine (sha_Sum_any _ [T] _ (((hone.out _ _ (Below.refl wq.heap.size wq)).keep (Below.refl _ _).drew).keep HBa) hl6.out).mono ?_
            rintro e wb ⟨rfl, HBb⟩
            rw [List.flatten_singleton]
            refine hK _ _ ?_
            clear hK K
            have HBz := hd_ (bel_trans (bel_trans (al1 (Below.refl wq.heap.size wq) _).drew HBa) HBb)
            clear HBa HBb
            refine take_W 11 _ _ (v := ?_) rfl (by kernel_rfl) (by kernel_rfl) (by kernel_rfl) (fun _ _ _ h => h) rfl ?_ ?_
            rotate_left
            · intro W; go_simp; try with_reducible rfl
            simp only [Act.put, List.setIfInBounds_toArray, List.set_cons_zero, List.set_cons_succ]
            refine take_W 12 _ _ (v := ?_) rfl (by kernel_rfl) (by kernel_rfl) (by kernel_rfl) (fun _ _ _ h => h) rfl ?_ ?_
            rotate_left
            · intro W; go_simp; try with_reducible rfl
            simp only [Act.put, List.setIfInBounds_toArray, List.set_cons_zero, List.set_cons_succ]
            refine take_W 13 _ _ (v := ?_) rfl (by kernel_rfl) (by kernel_rfl) (by kernel_rfl) (fun _ _ _ h => h) rfl ?_ ?_
            rotate_left
            · intro W; go_simp; try with_reducible rfl
            simp only [Act.put, List.setIfInBounds_toArray, List.set_cons_zero, List.set_cons_succ]
            refine take_W 14 _ _ (v := ?_) rfl (by kernel_rfl) (by kernel_rfl) (by kernel_rfl) (fun _ _ _ h => h) rfl ?_ ?_
            rotate_left
            · intro W; go_simp; try with_reducible rfl
            simp only [Act.put, List.setIfInBounds_toArray, List.set_cons_zero, List.set_cons_succ]
            refine take_W 16 _ _ (v := ?_) rfl (by kernel_rfl) (by kernel_rfl) (by kernel_rfl) (fun _ _ _ h => h) rfl ?_ ?_
            rotate_left
            · intro W; go_simp; try with_reducible rfl
            simp only [Act.put, List.setIfInBounds_toArray, List.set_cons_zero, List.set_cons_succ]
            refine ready_W 15 _ _ rfl (by kernel_rfl) rfl (fun K hK => ?_)
            go_simp
            with_reducible refine (HsL.len (hXk.out _ HBz.out) (by rw [hlen6.out]; omega)).mono ?_
            rintro e wc ⟨rfl, rfl⟩
            rw [hlen6.out]
            refine hK _ _ ?_
            clear hK K
            refine take_W 17 _ _ (v := ?_) rfl (by kernel_rfl) (by kernel_rfl) (by kernel_rfl) (fun _ _ _ h => h) rfl ?_ ?_
            rotate_left
            · intro W; go_simp; try with_reducible rfl
            simp only [Act.put, List.setIfInBounds_toArray, List.set_cons_zero, List.set_cons_succ]
            refine take_W 18 _ _ (v := ?_) rfl (by kernel_rfl) (by kernel_rfl) (by kernel_rfl) (fun _ _ _ h => h) rfl ?_ ?_
            rotate_left
            · intro W; go_simp; try with_reducible rfl
            simp only [Act.put, List.setIfInBounds_toArray, List.set_cons_zero, List.set_cons_succ]
            refine wpAny_done (by kernel_rfl) ?_ _
            have hXz := hd_ (hXk.out _ HBz.out)
            have HBw := hd_ (bel_trans HBq.out HBz.out)
            clear HBz heq hu6'
            by_cases h3 : i % 3 = 1
            · have h3I : (i : Int).tmod 3 = 1 := by rw [Int.tmod_eq_emod_of_nonneg (Int.natCast_nonneg i)]; omega
              go_wp2_with (first
                | (go_at_call 25; (with_reducible refine (hXz.out.save).mono ?_); rintro e wy ⟨vy, rfl, HFy, HBy⟩)
                | (go_at_call 31; (with_reducible refine (HsL.load (L := T) vy HFy.rd (by rw [hlen6.out]; omega)).mono ?_); rintro e wx ⟨gx, rfl, hHx, hgx, HBx⟩))
              go_roundw
              case rel => exact ⟨i + 1, m, gx, hlt, by omega, rfl, rfl, by go_num, by rw [HT.out]; exact hHx, Nat.le_trans (Nat.le_trans HBw.out.size HBy.size) hgx, bel_trans (bel_trans HBw.out HBy) HBx⟩
              case measure => (simp [intOf]; try omega)
            · have h3I : ((i : Int).tmod 3 == 1) = false := by rw [Int.tmod_eq_emod_of_nonneg (Int.natCast_nonneg i)]; simp; omega
              have h3J : ¬ ((i : Int).tmod 3 = 1) := by rw [Int.tmod_eq_emod_of_nonneg (Int.natCast_nonneg i)]; omega
              go_wp2
              go_roundw
              case rel => exact ⟨i + 1, m, g, hlt, by omega, rfl, rfl, by go_num, by rw [HT.out]; exact hXz.out, hq.out.2.1, HBw.out⟩
              case measure => (simp [intOf]; try omega)
        · have hevI : (i : Int).tmod 2 = 1 := by rw [Int.tmod_eq_emod_of_nonneg (Int.natCast_nonneg i)]; omega
          refine wp_region_any (by kernel_rfl) ?_
          change wpAny _ _ _ _ _ _ _ (World.drew _)
          refine take_W 0 _ _ (v := ?_) rfl (by kernel_rfl) (by kernel_rfl) (by kernel_rfl) (fun _ _ _ h => h) rfl ?_ ?_
          rotate_left
          · intro W; go_simp; try with_reducible rfl
          simp only [Act.put, List.setIfInBounds_toArray, List.set_cons_zero, List.set_cons_succ]
          refine take_W 1 _ _ (v := ?_) rfl (by kernel_rfl) (by kernel_rfl) (by kernel_rfl) (fun _ _ _ h => h) rfl ?_ ?_
          rotate_left
          · intro W; go_simp; try with_reducible rfl
          simp only [Act.put, List.setIfInBounds_toArray, List.set_cons_zero, List.set_cons_succ]
          refine take_W 2 _ _ (v := ?_) rfl (by kernel_rfl) (by kernel_rfl) (by kernel_rfl) (fun _ _ _ h => h) rfl ?_ ?_
          rotate_left
          · intro W; go_simp; try with_reducible rfl
          simp only [Act.put, List.setIfInBounds_toArray, List.set_cons_zero, List.set_cons_succ]
          refine take_W 3 _ _ (v := ?_) rfl (by kernel_rfl) (by kernel_rfl) (by kernel_rfl) (fun _ _ _ h => h) rfl ?_ ?_
          rotate_left
          · intro W; go_simp; try with_reducible rfl
          simp only [Act.put, List.setIfInBounds_toArray, List.set_cons_zero, List.set_cons_succ]
          refine skip_W 4 _ _ rfl (by kernel_rfl) (by kernel_rfl) (by kernel_rfl) (fun _ _ _ h => h) rfl ?_
          simp only [Act.put, List.setIfInBounds_toArray, List.set_cons_zero, List.set_cons_succ]
          refine skip_W 5 _ _ rfl (by kernel_rfl) (by kernel_rfl) (by kernel_rfl) (fun _ _ _ h => h) rfl ?_
          simp only [Act.put, List.setIfInBounds_toArray, List.set_cons_zero, List.set_cons_succ]
          refine skip_W 6 _ _ rfl (by kernel_rfl) (by kernel_rfl) (by kernel_rfl) (fun _ _ _ h => h) rfl ?_
          simp only [Act.put, List.setIfInBounds_toArray, List.set_cons_zero, List.set_cons_succ]
          refine skip_W 7 _ _ rfl (by kernel_rfl) (by kernel_rfl) (by kernel_rfl) (fun _ _ _ h => h) rfl ?_
          simp only [Act.put, List.setIfInBounds_toArray, List.set_cons_zero, List.set_cons_succ]
          refine skip_W 8 _ _ rfl (by kernel_rfl) (by kernel_rfl) (by kernel_rfl) (fun _ _ _ h => h) rfl ?_
          simp only [Act.put, List.setIfInBounds_toArray, List.set_cons_zero, List.set_cons_succ]
          refine skip_W 9 _ _ rfl (by kernel_rfl) (by kernel_rfl) (by kernel_rfl) (fun _ _ _ h => h) rfl ?_
          simp only [Act.put, List.setIfInBounds_toArray, List.set_cons_zero, List.set_cons_succ]
          refine skip_W 10 _ _ rfl (by kernel_rfl) (by kernel_rfl) (by kernel_rfl) (fun _ _ _ h => h) rfl ?_
          simp only [Act.put, List.setIfInBounds_toArray, List.set_cons_zero, List.set_cons_succ]
          refine skip_W 11 _ _ rfl (by kernel_rfl) (by kernel_rfl) (by kernel_rfl) (fun _ _ _ h => h) rfl ?_
          simp only [Act.put, List.setIfInBounds_toArray, List.set_cons_zero, List.set_cons_succ]
          refine take_W 12 _ _ (v := ?_) rfl (by kernel_rfl) (by kernel_rfl) (by kernel_rfl) (fun _ _ _ h => h) rfl ?_ ?_
          rotate_left
          · intro W; go_simp; try with_reducible rfl
          simp only [Act.put, List.setIfInBounds_toArray, List.set_cons_zero, List.set_cons_succ]
          refine take_W 13 _ _ (v := ?_) rfl (by kernel_rfl) (by kernel_rfl) (by kernel_rfl) (fun _ _ _ h => h) rfl ?_ ?_
          rotate_left
          · intro W; go_simp; try with_reducible rfl
          simp only [Act.put, List.setIfInBounds_toArray, List.set_cons_zero, List.set_cons_succ]
          have HBz := hd_ ((Below.refl wq.heap.size wq).drew)
          refine take_W 14 _ _ (v := ?_) rfl (by kernel_rfl) (by kernel_rfl) (by kernel_rfl) (fun _ _ _ h => h) rfl ?_ ?_
          rotate_left
          · intro W; go_simp; try with_reducible rfl
          simp only [Act.put, List.setIfInBounds_toArray, List.set_cons_zero, List.set_cons_succ]
          refine take_W 16 _ _ (v := ?_) rfl (by kernel_rfl) (by kernel_rfl) (by kernel_rfl) (fun _ _ _ h => h) rfl ?_ ?_
          rotate_left
          · intro W; go_simp; try with_reducible rfl
          simp only [Act.put, List.setIfInBounds_toArray, List.set_cons_zero, List.set_cons_succ]
          refine ready_W 15 _ _ rfl (by kernel_rfl) rfl (fun K hK => ?_)
          go_simp
          with_reducible refine (HsL.len (hXk.out _ HBz.out) (by rw [hlen6.out]; omega)).mono ?_
          rintro e wc ⟨rfl, rfl⟩
          rw [hlen6.out]
          refine hK _ _ ?_
          clear hK K
          refine take_W 17 _ _ (v := ?_) rfl (by kernel_rfl) (by kernel_rfl) (by kernel_rfl) (fun _ _ _ h => h) rfl ?_ ?_
          rotate_left
          · intro W; go_simp; try with_reducible rfl
          simp only [Act.put, List.setIfInBounds_toArray, List.set_cons_zero, List.set_cons_succ]
          refine take_W 18 _ _ (v := ?_) rfl (by kernel_rfl) (by kernel_rfl) (by kernel_rfl) (fun _ _ _ h => h) rfl ?_ ?_
          rotate_left
          · intro W; go_simp; try with_reducible rfl
          simp only [Act.put, List.setIfInBounds_toArray, List.set_cons_zero, List.set_cons_succ]
          refine wpAny_done (by kernel_rfl) ?_ _
          have hXz := hd_ (hXk.out _ HBz.out)
          have HBw := hd_ (bel_trans HBq.out HBz.out)
          clear HBz heq hu6'
          by_cases h3 : i % 3 = 1
          · have h3I : (i : Int).tmod 3 = 1 := by rw [Int.tmod_eq_emod_of_nonneg (Int.natCast_nonneg i)]; omega
            go_wp2_with (first
              | (go_at_call 25; (with_reducible refine (hXz.out.save).mono ?_); rintro e wy ⟨vy, rfl, HFy, HBy⟩)
              | (go_at_call 31; (with_reducible refine (HsL.load (L := T) vy HFy.rd (by rw [hlen6.out]; omega)).mono ?_); rintro e wx ⟨gx, rfl, hHx, hgx, HBx⟩))
            go_roundw
            case rel => exact ⟨i + 1, m, gx, hlt, by omega, rfl, rfl, by go_num, by rw [HT.out]; exact hHx, Nat.le_trans (Nat.le_trans HBw.out.size HBy.size) hgx, bel_trans (bel_trans HBw.out HBy) HBx⟩
            case measure => (simp [intOf]; try omega)
          · have h3I : ((i : Int).tmod 3 == 1) = false := by rw [Int.tmod_eq_emod_of_nonneg (Int.natCast_nonneg i)]; simp; omega
            have h3J : ¬ ((i : Int).tmod 3 = 1) := by rw [Int.tmod_eq_emod_of_nonneg (Int.natCast_nonneg i)]; omega
            go_wp2
            go_roundw
            case rel => exact ⟨i + 1, m, g, hlt, by omega, rfl, rfl, by go_num, by rw [HT.out]; exact hXz.out, hq.out.2.1, HBw.out⟩
            case measure => (simp [intOf]; try omega)
    · have hi2 : i = cs.length := by omega
      subst hi2
      have hRq := hRH.out
      obtain ⟨u7, hu7, hRu7⟩ := hRq.sl_l Try.underlying34 infoB m hm
      obtain ⟨u6, hu6, hRu6⟩ := hRq.sl_h Try.underlying34 infoB m hm
      have hu7' : ∀ W, (Instr.slice 34 (.slice AB B.length cB) (some (.int .i64 (m : Int))) none none).run Try.prog W = .ok u7 W := hu7
      have hu6' : ∀ W, (Instr.slice 34 (.slice AB B.length cB) none (some (.int .i64 (m : Int))) none).run Try.prog W = .ok u6 W := hu6
      have hq := hd_ (And.intro hH (And.intro hg hB))
      have hj := hd_ (show B.take m ++ B.drop m = B from List.take_append_drop m B)
      have hfl := hd_ (show [B.take m, [], B.drop m].flatten = B by simp)
      have hy7 := hd_ (show B.drop m ≠ [] → u7.ownBlock ≠ some g from fun hne e => by have := rd_lt hRu7 hne g e; have := hq.out.2.1; omega)
      have hR7 := hd_ hRu7
      have hR6 := hd_ hRu6
      have hl7 := hd_ (show (B.drop m).length ≤ 140737488351232 by rw [List.length_drop]; omega)
      have hlT := hd_ (show ∀ xs ∈ [B.take m, [], B.drop m], xs.length ≤ 140737488351232 by intro xs hx; simp only [List.mem_cons, List.not_mem_nil, or_false] at hx; rcases hx with rfl | rfl | rfl <;> simp only [List.length_take, List.length_drop, List.length_nil] <;> omega)
      have hlL := hd_ (show ∀ xs ∈ [B], xs.length ≤ 140737488351232 by intro xs hx; simp only [List.mem_cons, List.not_mem_nil, or_false] at hx; subst hx; exact hl)
      have hR7k := hd_ (hRu7.keep hB)
      clear hRq hu6 hu7 hRu6 hRu7 hH hg hB
      generalize B.take m = T at *
      generalize B.drop m = D at *
      go_upto_region 20 with (go_at_call 22; (with_reducible refine (hq.out.1.write u7 _ hR7k.out hl7.out hy7.out).mono ?_); rintro e wq ⟨rfl, hHq, hCq⟩; rw [hj.out] at hHq)
      have HBq := hd_ (Chg.then hq.out.2.2 hCq (fun b hb => by subst hb; exact hq.out.2.1) hq.out.2.2.size)
      have hX := hd_ hHq
      have hXk := hd_ (fun W (h : Below wq.heap.size wq W) => hX.out.keep h)
      have hone := hd_ (fun W t (h : Below wq.heap.size wq W) => rdl_one (t := t) ((hRH.out.keep HBq.out).keep h))
      have hthree := hd_ (fun W t (h : Below wq.heap.size wq W) => rdl_three (t := t) ((hR6.out.keep HBq.out).keep h) (own_nil8 W 0 0).rd ((hR7.out.keep HBq.out).keep h))
      have heq := eqDg (digL B) (digL B) (digL_length _) (digL_length _)
      rw [decide_eq_true rfl] at heq
      have kc := fun (w : World) (C : Array Value) (n c : Nat) => Lib.run_convert_bytes_const (P := Try.prog) w 34 5 C n c Try.underlying34 Try.underlying5
      obtain ⟨A6, c6, rfl, _⟩ := hR6.out.form
      obtain ⟨A7, c7, rfl, _⟩ := hR7.out.form
      clear hHq hCq
      refine wp_region_any (by kernel_rfl) ?_
      change wpAny _ _ _ _ _ _ _ (World.drew _)
      refine take_W 0 _ _ (v := ?_) rfl (by kernel_rfl) (by kernel_rfl) (by kernel_rfl) (fun _ _ _ h => h) rfl ?_ ?_
      rotate_left
      · intro W; go_simp; try with_reducible rfl
      simp only [Act.put, List.setIfInBounds_toArray, List.set_cons_zero, List.set_cons_succ]
      refine take_W 2 _ _ (v := ?_) rfl (by kernel_rfl) (by kernel_rfl) (by kernel_rfl) (fun _ _ _ h => h) rfl ?_ ?_
      rotate_left
      · intro W; go_simp; try with_reducible rfl
      simp only [Act.put, List.setIfInBounds_toArray, List.set_cons_zero, List.set_cons_succ]
      refine ready2_W 1 3 _ _ _ _ rfl rfl (by kernel_rfl) rfl rfl (fun K hK => ?_) (fun K hK => ?_)
      · go_simp
        with_reducible refine (hXk.out _ (Below.refl wq.heap.size wq).drew).sum.mono ?_
        rintro e wa ⟨rfl, HBa⟩
        refine hK _ _ ?_
        clear hK K
        refine ready_W 3 _ _ rfl (by kernel_rfl) rfl (fun K hK => ?_)
        go_simp
        refine hK _ _ ?_
        clear hK K
        refine ready_W 4 _ _ rfl (by kernel_rfl) rfl (fun K hK => ?_)
        go_simp
        refine (sha_Sum_any _ [B] _ (hone.out _ _ (bel_trans (Below.refl wq.heap.size wq).drew HBa)) hlL.out).mono ?_
        rintro e wb ⟨rfl, HBb⟩
        rw [List.flatten_singleton]
        refine hK _ _ ?_
        clear hK K
        have HBy := hd_ (bel_trans (al1 (bel_trans (Below.refl wq.heap.size wq).drew HBa) _) HBb)
        clear HBa HBb
        generalize wb = wz at *
        have HBz := hd_ HBy.out
        clear HBy
        have hlL := hlT
        refine take_W 5 _ _ (v := ?_) rfl (by kernel_rfl) (by kernel_rfl) (by kernel_rfl) (fun _ _ _ h => h) rfl ?_ ?_
        rotate_left
        · intro W; go_simp; try with_reducible rfl
        simp only [Act.put, List.setIfInBounds_toArray, List.set_cons_zero, List.set_cons_succ]
        refine take_W 6 _ _ (v := ?_) rfl (by kernel_rfl) (by kernel_rfl) (by kernel_rfl) (fun _ _ _ h => h) rfl ?_ ?_
        rotate_left
        · intro W; go_simp; try with_reducible rfl
        simp only [Act.put, List.setIfInBounds_toArray, List.set_cons_zero, List.set_cons_succ]
        refine take_W 7 _ _ (v := ?_) rfl (by kernel_rfl) (by kernel_rfl) (by kernel_rfl) (fun _ _ _ h => h) rfl ?_ ?_
        rotate_left
        · intro W; go_simp; try with_reducible rfl
        simp only [Act.put, List.setIfInBounds_toArray, List.set_cons_zero, List.set_cons_succ]
        refine take_W 9 _ _ (v := ?_) rfl (by kernel_rfl) (by kernel_rfl) (by kernel_rfl) (fun _ _ _ h => h) rfl ?_ ?_
        rotate_left
        · intro W; go_simp; try with_reducible rfl
        simp only [Act.put, List.setIfInBounds_toArray, List.set_cons_zero, List.set_cons_succ]
        refine take_W 10 _ _ (v := ?_) rfl (by kernel_rfl) (by kernel_rfl) (by kernel_rfl) (fun _ _ _ h => h) rfl ?_ ?_
        rotate_left
        · intro W; go_simp; try with_reducible rfl
        simp only [Act.put, List.setIfInBounds_toArray, List.set_cons_zero, List.set_cons_succ]
        refine take_W 11 _ _ (v := ?_) rfl (by kernel_rfl) (by kernel_rfl) (by kernel_rfl) (fun _ _ _ h => h) rfl ?_ ?_
        rotate_left
        · intro W; simp [execOp, Act.eval, Instr.sliceAt, hu6', Result.andThen]; try with_reducible rfl
        simp only [Act.put, List.setIfInBounds_toArray, List.set_cons_zero, List.set_cons_succ]
        refine take_W 12 _ _ (v := ?_) rfl (by kernel_rfl) (by kernel_rfl) (by kernel_rfl) (fun _ _ _ h => h) rfl ?_ ?_
        rotate_left
        · intro W; go_simp; try with_reducible rfl
        simp only [Act.put, List.setIfInBounds_toArray, List.set_cons_zero, List.set_cons_succ]
        refine take_W 13 _ _ (v := ?_) rfl (by kernel_rfl) (by kernel_rfl) (by kernel_rfl) (fun _ _ _ h => h) rfl ?_ ?_
        rotate_left
        · intro W; go_simp; try with_reducible rfl
        simp only [Act.put, List.setIfInBounds_toArray, List.set_cons_zero, List.set_cons_succ]
        refine take_W 14 _ _ (v := ?_) rfl (by kernel_rfl) (by kernel_rfl) (by kernel_rfl) (fun _ _ _ h => h) rfl ?_ ?_
        rotate_left
        · intro W; simp [execOp, Act.eval, Instr.sliceAt, hu7', Result.andThen]; try with_reducible rfl
        simp only [Act.put, List.setIfInBounds_toArray, List.set_cons_zero, List.set_cons_succ]
        refine ready2_W 8 15 _ _ _ _ rfl rfl (by kernel_rfl) rfl rfl (fun K hK => ?_) (fun K hK => ?_)
        · go_simp
          with_reducible refine (hXk.out _ HBz.out).sum.mono ?_
          rintro e wa ⟨rfl, HBa⟩
          refine hK _ _ ?_
          clear hK K
          refine ready_W 15 _ _ rfl (by kernel_rfl) rfl (fun K hK => ?_)
          go_simp
          refine hK _ _ ?_
          clear hK K
          refine ready_W 16 _ _ rfl (by kernel_rfl) rfl (fun K hK => ?_)
          go_simp
          refine (sha_Sum_any _ [T, [], D] _ (hthree.out _ _ (bel_trans HBz.out HBa)) hlL.out).mono ?_
          rintro e wb ⟨rfl, HBb⟩
          rw [hfl.out]
          refine hK _ _ ?_
          clear hK K
          have HBy := hd_ (bel_trans (al1 (bel_trans HBz.out HBa) _) HBb)
          clear HBa HBb
          generalize wb = wz at *
          refine take_W 17 _ _ (v := ?_) rfl (by kernel_rfl) (by kernel_rfl) (by kernel_rfl) (fun _ _ _ h => h) rfl ?_ ?_
          rotate_left
          · intro W; go_simp; try with_reducible rfl
          simp only [Act.put, List.setIfInBounds_toArray, List.set_cons_zero, List.set_cons_succ]
          refine take_W 18 _ _ (v := ?_) rfl (by kernel_rfl) (by kernel_rfl) (by kernel_rfl) (fun _ _ _ h => h) rfl ?_ ?_
          rotate_left
          · intro W; go_simp; try with_reducible rfl
          simp only [Act.put, List.setIfInBounds_toArray, List.set_cons_zero, List.set_cons_succ]
          refine take_W 19 _ _ (v := ?_) rfl (by kernel_rfl) (by kernel_rfl) (by kernel_rfl) (fun _ _ _ h => h) rfl ?_ ?_
          rotate_left
          · intro W; go_simp; try with_reducible rfl
          simp only [Act.put, List.setIfInBounds_toArray, List.set_cons_zero, List.set_cons_succ]
          refine ready_W 20 _ _ rfl (by kernel_rfl) rfl (fun K hK => ?_)
          go_simp
          refine hK _ _ ?_
          clear hK K
          refine ready_W 21 _ _ rfl (by kernel_rfl) rfl (fun K hK => ?_)
          go_simp
          refine hK _ _ ?_
          clear hK K
          refine ready_W 22 _ _ rfl (by kernel_rfl) rfl (fun K hK => ?_)
          go_simp
          refine hK _ _ ?_
          clear hK K
          refine ready_W 23 _ _ rfl (by kernel_rfl) rfl (fun K hK => ?_)
          go_simp
          refine (sha_Sum_abc1 _).mono ?_
          rintro e we ⟨rfl, HBe⟩
          refine hK _ _ ?_
          clear hK K
          refine ready_W 24 _ _ rfl (by kernel_rfl) rfl (fun K hK => ?_)
          go_simp
          with_reducible refine (Print_abc _).mono ?_
          rintro e wf ⟨rfl, HBf⟩
          refine hK _ _ ?_
          clear hK K
          refine take_W 25 _ _ (v := ?_) rfl (by kernel_rfl) (by kernel_rfl) (by kernel_rfl) (fun _ _ _ h => h) rfl ?_ ?_
          rotate_left
          · intro W; go_simp; try with_reducible rfl
          simp only [Act.put, List.setIfInBounds_toArray, List.set_cons_zero, List.set_cons_succ]
          refine take_W 26 _ _ (v := ?_) rfl (by kernel_rfl) (by kernel_rfl) (by kernel_rfl) (fun _ _ _ h => h) rfl ?_ ?_
          rotate_left
          · intro W; go_simp; try with_reducible rfl
          simp only [Act.put, List.setIfInBounds_toArray, List.set_cons_zero, List.set_cons_succ]
          refine take_W 27 _ _ (v := ?_) rfl (by kernel_rfl) (by kernel_rfl) (by kernel_rfl) (fun _ _ _ h => h) rfl ?_ ?_
          rotate_left
          · intro W; go_simp; try with_reducible rfl
          simp only [Act.put, List.setIfInBounds_toArray, List.set_cons_zero, List.set_cons_succ]
          refine wpAny_done (by kernel_rfl) ?_ _
          go_wp2
          go_ret
          exact ⟨rfl, bel_trans HBq.out (bel_trans (bel_trans HBy.out HBe) HBf)⟩
        · go_simp
          refine hK _ _ ?_
          clear hK K
          refine ready_W 8 _ _ rfl (by kernel_rfl) rfl (fun K hK => ?_)
          go_simp
          with_reducible refine (hXk.out _ (al1 HBz.out _)).sum.mono ?_
          rintro e wa ⟨rfl, HBa⟩
          refine hK _ _ ?_
          clear hK K
          refine ready_W 16 _ _ rfl (by kernel_rfl) rfl (fun K hK => ?_)
          go_simp
          refine (sha_Sum_any _ [T, [], D] _ ((hthree.out _ _ HBz.out).keep HBa) hlL.out).mono ?_
          rintro e wb ⟨rfl, HBb⟩
          rw [hfl.out]
          refine hK _ _ ?_
          clear hK K
          have HBy := hd_ (bel_trans (bel_trans (al1 HBz.out _) HBa) HBb)
          clear HBa HBb
          generalize wb = wz at *
          refine take_W 17 _ _ (v := ?_) rfl (by kernel_rfl) (by kernel_rfl) (by kernel_rfl) (fun _ _ _ h => h) rfl ?_ ?_
          rotate_left
          · intro W; go_simp; try with_reducible rfl
          simp only [Act.put, List.setIfInBounds_toArray, List.set_cons_zero, List.set_cons_succ]
          refine take_W 18 _ _ (v := ?_) rfl (by kernel_rfl) (by kernel_rfl) (by kernel_rfl) (fun _ _ _ h => h) rfl ?_ ?_
          rotate_left
          · intro W; go_simp; try with_reducible rfl
          simp only [Act.put, List.setIfInBounds_toArray, List.set_cons_zero, List.set_cons_succ]
          refine take_W 19 _ _ (v := ?_) rfl (by kernel_rfl) (by kernel_rfl) (by kernel_rfl) (fun _ _ _ h => h) rfl ?_ ?_
          rotate_left
          · intro W; go_simp; try with_reducible rfl
          simp only [Act.put, List.setIfInBounds_toArray, List.set_cons_zero, List.set_cons_succ]
          refine ready_W 20 _ _ rfl (by kernel_rfl) rfl (fun K hK => ?_)
          go_simp
          refine hK _ _ ?_
          clear hK K
          refine ready_W 21 _ _ rfl (by kernel_rfl) rfl (fun K hK => ?_)
          go_simp
          refine hK _ _ ?_
          clear hK K
          refine ready_W 22 _ _ rfl (by kernel_rfl) rfl (fun K hK => ?_)
          go_simp
          refine hK _ _ ?_
          clear hK K
          refine ready_W 23 _ _ rfl (by kernel_rfl) rfl (fun K hK => ?_)
          go_simp
          refine (sha_Sum_abc1 _).mono ?_
          rintro e we ⟨rfl, HBe⟩
          refine hK _ _ ?_
          clear hK K
          refine ready_W 24 _ _ rfl (by kernel_rfl) rfl (fun K hK => ?_)
          go_simp
          with_reducible refine (Print_abc _).mono ?_
          rintro e wf ⟨rfl, HBf⟩
          refine hK _ _ ?_
          clear hK K
          refine take_W 25 _ _ (v := ?_) rfl (by kernel_rfl) (by kernel_rfl) (by kernel_rfl) (fun _ _ _ h => h) rfl ?_ ?_
          rotate_left
          · intro W; go_simp; try with_reducible rfl
          simp only [Act.put, List.setIfInBounds_toArray, List.set_cons_zero, List.set_cons_succ]
          refine take_W 26 _ _ (v := ?_) rfl (by kernel_rfl) (by kernel_rfl) (by kernel_rfl) (fun _ _ _ h => h) rfl ?_ ?_
          rotate_left
          · intro W; go_simp; try with_reducible rfl
          simp only [Act.put, List.setIfInBounds_toArray, List.set_cons_zero, List.set_cons_succ]
          refine take_W 27 _ _ (v := ?_) rfl (by kernel_rfl) (by kernel_rfl) (by kernel_rfl) (fun _ _ _ h => h) rfl ?_ ?_
          rotate_left
          · intro W; go_simp; try with_reducible rfl
          simp only [Act.put, List.setIfInBounds_toArray, List.set_cons_zero, List.set_cons_succ]
          refine wpAny_done (by kernel_rfl) ?_ _
          go_wp2
          go_ret
          exact ⟨rfl, bel_trans HBq.out (bel_trans (bel_trans HBy.out HBe) HBf)⟩
      · go_simp
        refine hK _ _ ?_
        clear hK K
        refine ready_W 1 _ _ rfl (by kernel_rfl) rfl (fun K hK => ?_)
        go_simp
        with_reducible refine (hXk.out _ (al1 (Below.refl wq.heap.size wq) _).drew).sum.mono ?_
        rintro e wa ⟨rfl, HBa⟩
        refine hK _ _ ?_
        clear hK K
        refine ready_W 4 _ _ rfl (by kernel_rfl) rfl (fun K hK => ?_)
        go_simp
        refine (sha_Sum_any _ [B] _ (((hone.out _ _ (Below.refl wq.heap.size wq)).keep (Below.refl _ _).drew).keep HBa) hlL.out).mono ?_
        rintro e wb ⟨rfl, HBb⟩
        rw [List.flatten_singleton]
        refine hK _ _ ?_
        clear hK K
        have HBy := hd_ (bel_trans (bel_trans (al1 (Below.refl wq.heap.size wq) _).drew HBa) HBb)
        clear HBa HBb
        generalize wb = wz at *
        have HBz := hd_ HBy.out
        clear HBy
        have hlL := hlT
        refine take_W 5 _ _ (v := ?_) rfl (by kernel_rfl) (by kernel_rfl) (by kernel_rfl) (fun _ _ _ h => h) rfl ?_ ?_
        rotate_left
        · intro W; go_simp; try with_reducible rfl
        simp only [Act.put, List.setIfInBounds_toArray, List.set_cons_zero, List.set_cons_succ]
        refine take_W 6 _ _ (v := ?_) rfl (by kernel_rfl) (by kernel_rfl) (by kernel_rfl) (fun _ _ _ h => h) rfl ?_ ?_
        rotate_left
        · intro W; go_simp; try with_reducible rfl
        simp only [Act.put, List.setIfInBounds_toArray, List.set_cons_zero, List.set_cons_succ]
        refine take_W 7 _ _ (v := ?_) rfl (by kernel_rfl) (by kernel_rfl) (by kernel_rfl) (fun _ _ _ h => h) rfl ?_ ?_
        rotate_left
        · intro W; go_simp; try with_reducible rfl
        simp only [Act.put, List.setIfInBounds_toArray, List.set_cons_zero, List.set_cons_succ]
        refine take_W 9 _ _ (v := ?_) rfl (by kernel_rfl) (by kernel_rfl) (by kernel_rfl) (fun _ _ _ h => h) rfl ?_ ?_
        rotate_left
        · intro W; go_simp; try with_reducible rfl
        simp only [Act.put, List.setIfInBounds_toArray, List.set_cons_zero, List.set_cons_succ]
        refine take_W 10 _ _ (v := ?_) rfl (by kernel_rfl) (by kernel_rfl) (by kernel_rfl) (fun _ _ _ h => h) rfl ?_ ?_
        rotate_left
        · intro W; go_simp; try with_reducible rfl
        simp only [Act.put, List.setIfInBounds_toArray, List.set_cons_zero, List.set_cons_succ]
        refine take_W 11 _ _ (v := ?_) rfl (by kernel_rfl) (by kernel_rfl) (by kernel_rfl) (fun _ _ _ h => h) rfl ?_ ?_
        rotate_left
        · intro W; simp [execOp, Act.eval, Instr.sliceAt, hu6', Result.andThen]; try with_reducible rfl
        simp only [Act.put, List.setIfInBounds_toArray, List.set_cons_zero, List.set_cons_succ]
        refine take_W 12 _ _ (v := ?_) rfl (by kernel_rfl) (by kernel_rfl) (by kernel_rfl) (fun _ _ _ h => h) rfl ?_ ?_
        rotate_left
        · intro W; go_simp; try with_reducible rfl
        simp only [Act.put, List.setIfInBounds_toArray, List.set_cons_zero, List.set_cons_succ]
        refine take_W 13 _ _ (v := ?_) rfl (by kernel_rfl) (by kernel_rfl) (by kernel_rfl) (fun _ _ _ h => h) rfl ?_ ?_
        rotate_left
        · intro W; go_simp; try with_reducible rfl
        simp only [Act.put, List.setIfInBounds_toArray, List.set_cons_zero, List.set_cons_succ]
        refine take_W 14 _ _ (v := ?_) rfl (by kernel_rfl) (by kernel_rfl) (by kernel_rfl) (fun _ _ _ h => h) rfl ?_ ?_
        rotate_left
        · intro W; simp [execOp, Act.eval, Instr.sliceAt, hu7', Result.andThen]; try with_reducible rfl
        simp only [Act.put, List.setIfInBounds_toArray, List.set_cons_zero, List.set_cons_succ]
        refine ready2_W 8 15 _ _ _ _ rfl rfl (by kernel_rfl) rfl rfl (fun K hK => ?_) (fun K hK => ?_)
        · go_simp
          with_reducible refine (hXk.out _ HBz.out).sum.mono ?_
          rintro e wa ⟨rfl, HBa⟩
          refine hK _ _ ?_
          clear hK K
          refine ready_W 15 _ _ rfl (by kernel_rfl) rfl (fun K hK => ?_)
          go_simp
          refine hK _ _ ?_
          clear hK K
          refine ready_W 16 _ _ rfl (by kernel_rfl) rfl (fun K hK => ?_)
          go_simp
          refine (sha_Sum_any _ [T, [], D] _ (hthree.out _ _ (bel_trans HBz.out HBa)) hlL.out).mono ?_
          rintro e wb ⟨rfl, HBb⟩
          rw [hfl.out]
          refine hK _ _ ?_
          clear hK K
          have HBy := hd_ (bel_trans (al1 (bel_trans HBz.out HBa) _) HBb)
          clear HBa HBb
          generalize wb = wz at *
          refine take_W 17 _ _ (v := ?_) rfl (by kernel_rfl) (by kernel_rfl) (by kernel_rfl) (fun _ _ _ h => h) rfl ?_ ?_
          rotate_left
          · intro W; go_simp; try with_reducible rfl
          simp only [Act.put, List.setIfInBounds_toArray, List.set_cons_zero, List.set_cons_succ]
          refine take_W 18 _ _ (v := ?_) rfl (by kernel_rfl) (by kernel_rfl) (by kernel_rfl) (fun _ _ _ h => h) rfl ?_ ?_
          rotate_left
          · intro W; go_simp; try with_reducible rfl
          simp only [Act.put, List.setIfInBounds_toArray, List.set_cons_zero, List.set_cons_succ]
          refine take_W 19 _ _ (v := ?_) rfl (by kernel_rfl) (by kernel_rfl) (by kernel_rfl) (fun _ _ _ h => h) rfl ?_ ?_
          rotate_left
          · intro W; go_simp; try with_reducible rfl
          simp only [Act.put, List.setIfInBounds_toArray, List.set_cons_zero, List.set_cons_succ]
          refine ready_W 20 _ _ rfl (by kernel_rfl) rfl (fun K hK => ?_)
          go_simp
          refine hK _ _ ?_
          clear hK K
          refine ready_W 21 _ _ rfl (by kernel_rfl) rfl (fun K hK => ?_)
          go_simp
          refine hK _ _ ?_
          clear hK K
          refine ready_W 22 _ _ rfl (by kernel_rfl) rfl (fun K hK => ?_)
          go_simp
          refine hK _ _ ?_
          clear hK K
          refine ready_W 23 _ _ rfl (by kernel_rfl) rfl (fun K hK => ?_)
          go_simp
          refine (sha_Sum_abc1 _).mono ?_
          rintro e we ⟨rfl, HBe⟩
          refine hK _ _ ?_
          clear hK K
          refine ready_W 24 _ _ rfl (by kernel_rfl) rfl (fun K hK => ?_)
          go_simp
          with_reducible refine (Print_abc _).mono ?_
          rintro e wf ⟨rfl, HBf⟩
          refine hK _ _ ?_
          clear hK K
          refine take_W 25 _ _ (v := ?_) rfl (by kernel_rfl) (by kernel_rfl) (by kernel_rfl) (fun _ _ _ h => h) rfl ?_ ?_
          rotate_left
          · intro W; go_simp; try with_reducible rfl
          simp only [Act.put, List.setIfInBounds_toArray, List.set_cons_zero, List.set_cons_succ]
          refine take_W 26 _ _ (v := ?_) rfl (by kernel_rfl) (by kernel_rfl) (by kernel_rfl) (fun _ _ _ h => h) rfl ?_ ?_
          rotate_left
          · intro W; go_simp; try with_reducible rfl
          simp only [Act.put, List.setIfInBounds_toArray, List.set_cons_zero, List.set_cons_succ]
          refine take_W 27 _ _ (v := ?_) rfl (by kernel_rfl) (by kernel_rfl) (by kernel_rfl) (fun _ _ _ h => h) rfl ?_ ?_
          rotate_left
          · intro W; go_simp; try with_reducible rfl
          simp only [Act.put, List.setIfInBounds_toArray, List.set_cons_zero, List.set_cons_succ]
          refine wpAny_done (by kernel_rfl) ?_ _
          go_wp2
          go_ret
          exact ⟨rfl, bel_trans HBq.out (bel_trans (bel_trans HBy.out HBe) HBf)⟩
        · go_simp
          refine hK _ _ ?_
          clear hK K
          refine ready_W 8 _ _ rfl (by kernel_rfl) rfl (fun K hK => ?_)
          go_simp
          with_reducible refine (hXk.out _ (al1 HBz.out _)).sum.mono ?_
          rintro e wa ⟨rfl, HBa⟩
          refine hK _ _ ?_
          clear hK K
          refine ready_W 16 _ _ rfl (by kernel_rfl) rfl (fun K hK => ?_)
          go_simp
          refine (sha_Sum_any _ [T, [], D] _ ((hthree.out _ _ HBz.out).keep HBa) hlL.out).mono ?_
          rintro e wb ⟨rfl, HBb⟩
          rw [hfl.out]
          refine hK _ _ ?_
          clear hK K
          have HBy := hd_ (bel_trans (bel_trans (al1 HBz.out _) HBa) HBb)
          clear HBa HBb
          generalize wb = wz at *
          refine take_W 17 _ _ (v := ?_) rfl (by kernel_rfl) (by kernel_rfl) (by kernel_rfl) (fun _ _ _ h => h) rfl ?_ ?_
          rotate_left
          · intro W; go_simp; try with_reducible rfl
          simp only [Act.put, List.setIfInBounds_toArray, List.set_cons_zero, List.set_cons_succ]
          refine take_W 18 _ _ (v := ?_) rfl (by kernel_rfl) (by kernel_rfl) (by kernel_rfl) (fun _ _ _ h => h) rfl ?_ ?_
          rotate_left
          · intro W; go_simp; try with_reducible rfl
          simp only [Act.put, List.setIfInBounds_toArray, List.set_cons_zero, List.set_cons_succ]
          refine take_W 19 _ _ (v := ?_) rfl (by kernel_rfl) (by kernel_rfl) (by kernel_rfl) (fun _ _ _ h => h) rfl ?_ ?_
          rotate_left
          · intro W; go_simp; try with_reducible rfl
          simp only [Act.put, List.setIfInBounds_toArray, List.set_cons_zero, List.set_cons_succ]
          refine ready_W 20 _ _ rfl (by kernel_rfl) rfl (fun K hK => ?_)
          go_simp
          refine hK _ _ ?_
          clear hK K
          refine ready_W 21 _ _ rfl (by kernel_rfl) rfl (fun K hK => ?_)
          go_simp
          refine hK _ _ ?_
          clear hK K
          refine ready_W 22 _ _ rfl (by kernel_rfl) rfl (fun K hK => ?_)
          go_simp
          refine hK _ _ ?_
          clear hK K
          refine ready_W 23 _ _ rfl (by kernel_rfl) rfl (fun K hK => ?_)
          go_simp
          refine (sha_Sum_abc1 _).mono ?_
          rintro e we ⟨rfl, HBe⟩
          refine hK _ _ ?_
          clear hK K
          refine ready_W 24 _ _ rfl (by kernel_rfl) rfl (fun K hK => ?_)
          go_simp
          with_reducible refine (Print_abc _).mono ?_
          rintro e wf ⟨rfl, HBf⟩
          refine hK _ _ ?_
          clear hK K
          refine take_W 25 _ _ (v := ?_) rfl (by kernel_rfl) (by kernel_rfl) (by kernel_rfl) (fun _ _ _ h => h) rfl ?_ ?_
          rotate_left
          · intro W; go_simp; try with_reducible rfl
          simp only [Act.put, List.setIfInBounds_toArray, List.set_cons_zero, List.set_cons_succ]
          refine take_W 26 _ _ (v := ?_) rfl (by kernel_rfl) (by kernel_rfl) (by kernel_rfl) (fun _ _ _ h => h) rfl ?_ ?_
          rotate_left
          · intro W; go_simp; try with_reducible rfl
          simp only [Act.put, List.setIfInBounds_toArray, List.set_cons_zero, List.set_cons_succ]
          refine take_W 27 _ _ (v := ?_) rfl (by kernel_rfl) (by kernel_rfl) (by kernel_rfl) (fun _ _ _ h => h) rfl ?_ ?_
          rotate_left
          · intro W; go_simp; try with_reducible rfl
          simp only [Act.put, List.setIfInBounds_toArray, List.set_cons_zero, List.set_cons_succ]
          refine wpAny_done (by kernel_rfl) ?_ _
          go_wp2
          go_ret
          exact ⟨rfl, bel_trans HBq.out (bel_trans (bel_trans HBy.out HBe) HBf)⟩
end Go.Proofs.Ytcaljnlicohkaaa
