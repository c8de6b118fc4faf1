import Derived.Test.YtcaljnlicohkaaaShaB
namespace Go.Proofs.Ytcaljnlicohkaaa
open Go.RowKit
set_option maxRecDepth 100000
set_option linter.unusedVariables false
theorem infoD : (Try.prog.info? 24).map (·.size) = some 32 := by kernel_rfl
set_option maxHeartbeats 2000000 in
theorem sha_Parse_any (s : ByteArray) (hs : s.size ≤ 140737488351232) (w : World) : Calls Try.prog 13 #[.string s] w (ParRet w (byL s)) := by
  have hTl := byL_length s
  have hTb := byL_bytes s
  have hix : ∀ j, j < s.size → ∀ W, Sem.run Try.prog (Instr.index 9 (.string s) (.int .i64 (j : Int))) W = .ok (.int .u8 ((byL s).getD j 0)) W := fun j hj W => byL_at W s .i64 j (by rw [hTl]; exact hj)
  generalize byL s = T at *
  have HTL := hd_ hTl
  have HIX := hd_ hix
  clear hTl hix
  go_enter Try.func13, Try.ntmps13
  go_upto_region 2 with fail
  have hb1 : Box ((w.alloc (.cells #[.int .u8 0, .int .u8 0, .int .u8 0, .int .u8 0, .int .u8 0, .int .u8 0, .int .u8 0, .int .u8 0, .int .u8 0, .int .u8 0, .int .u8 0, .int .u8 0, .int .u8 0, .int .u8 0, .int .u8 0, .int .u8 0, .int .u8 0, .int .u8 0, .int .u8 0, .int .u8 0, .int .u8 0, .int .u8 0, .int .u8 0, .int .u8 0, .int .u8 0, .int .u8 0, .int .u8 0, .int .u8 0, .int .u8 0, .int .u8 0, .int .u8 0, .int .u8 0] 24)).alloc (.cells #[.int .u8 0, .int .u8 0, .int .u8 0, .int .u8 0, .int .u8 0, .int .u8 0, .int .u8 0, .int .u8 0, .int .u8 0, .int .u8 0, .int .u8 0, .int .u8 0, .int .u8 0, .int .u8 0, .int .u8 0, .int .u8 0, .int .u8 0, .int .u8 0, .int .u8 0, .int .u8 0, .int .u8 0, .int .u8 0, .int .u8 0, .int .u8 0, .int .u8 0, .int .u8 0, .int .u8 0, .int .u8 0, .int .u8 0, .int .u8 0, .int .u8 0, .int .u8 0] 24)) w.heap.size 24 (u8A (List.replicate 32 0)) := (Box.new w #[.int .u8 0, .int .u8 0, .int .u8 0, .int .u8 0, .int .u8 0, .int .u8 0, .int .u8 0, .int .u8 0, .int .u8 0, .int .u8 0, .int .u8 0, .int .u8 0, .int .u8 0, .int .u8 0, .int .u8 0, .int .u8 0, .int .u8 0, .int .u8 0, .int .u8 0, .int .u8 0, .int .u8 0, .int .u8 0, .int .u8 0, .int .u8 0, .int .u8 0, .int .u8 0, .int .u8 0, .int .u8 0, .int .u8 0, .int .u8 0, .int .u8 0, .int .u8 0] 24).keep (al1 (Below.refl _ _) _)
  have hb2 : Box ((w.alloc (.cells #[.int .u8 0, .int .u8 0, .int .u8 0, .int .u8 0, .int .u8 0, .int .u8 0, .int .u8 0, .int .u8 0, .int .u8 0, .int .u8 0, .int .u8 0, .int .u8 0, .int .u8 0, .int .u8 0, .int .u8 0, .int .u8 0, .int .u8 0, .int .u8 0, .int .u8 0, .int .u8 0, .int .u8 0, .int .u8 0, .int .u8 0, .int .u8 0, .int .u8 0, .int .u8 0, .int .u8 0, .int .u8 0, .int .u8 0, .int .u8 0, .int .u8 0, .int .u8 0] 24)).alloc (.cells #[.int .u8 0, .int .u8 0, .int .u8 0, .int .u8 0, .int .u8 0, .int .u8 0, .int .u8 0, .int .u8 0, .int .u8 0, .int .u8 0, .int .u8 0, .int .u8 0, .int .u8 0, .int .u8 0, .int .u8 0, .int .u8 0, .int .u8 0, .int .u8 0, .int .u8 0, .int .u8 0, .int .u8 0, .int .u8 0, .int .u8 0, .int .u8 0, .int .u8 0, .int .u8 0, .int .u8 0, .int .u8 0, .int .u8 0, .int .u8 0, .int .u8 0, .int .u8 0] 24)) (w.alloc (.cells #[.int .u8 0, .int .u8 0, .int .u8 0, .int .u8 0, .int .u8 0, .int .u8 0, .int .u8 0, .int .u8 0, .int .u8 0, .int .u8 0, .int .u8 0, .int .u8 0, .int .u8 0, .int .u8 0, .int .u8 0, .int .u8 0, .int .u8 0, .int .u8 0, .int .u8 0, .int .u8 0, .int .u8 0, .int .u8 0, .int .u8 0, .int .u8 0, .int .u8 0, .int .u8 0, .int .u8 0, .int .u8 0, .int .u8 0, .int .u8 0, .int .u8 0, .int .u8 0] 24)).heap.size 24 (u8A (digD T 0)) := Box.new _ #[.int .u8 0, .int .u8 0, .int .u8 0, .int .u8 0, .int .u8 0, .int .u8 0, .int .u8 0, .int .u8 0, .int .u8 0, .int .u8 0, .int .u8 0, .int .u8 0, .int .u8 0, .int .u8 0, .int .u8 0, .int .u8 0, .int .u8 0, .int .u8 0, .int .u8 0, .int .u8 0, .int .u8 0, .int .u8 0, .int .u8 0, .int .u8 0, .int .u8 0, .int .u8 0, .int .u8 0, .int .u8 0, .int .u8 0, .int .u8 0, .int .u8 0, .int .u8 0] 24
  have hB0 := al1 (al1 (Below.refl w.heap.size w) (.cells #[.int .u8 0, .int .u8 0, .int .u8 0, .int .u8 0, .int .u8 0, .int .u8 0, .int .u8 0, .int .u8 0, .int .u8 0, .int .u8 0, .int .u8 0, .int .u8 0, .int .u8 0, .int .u8 0, .int .u8 0, .int .u8 0, .int .u8 0, .int .u8 0, .int .u8 0, .int .u8 0, .int .u8 0, .int .u8 0, .int .u8 0, .int .u8 0, .int .u8 0, .int .u8 0, .int .u8 0, .int .u8 0, .int .u8 0, .int .u8 0, .int .u8 0, .int .u8 0] 24)) (.cells #[.int .u8 0, .int .u8 0, .int .u8 0, .int .u8 0, .int .u8 0, .int .u8 0, .int .u8 0, .int .u8 0, .int .u8 0, .int .u8 0, .int .u8 0, .int .u8 0, .int .u8 0, .int .u8 0, .int .u8 0, .int .u8 0, .int .u8 0, .int .u8 0, .int .u8 0, .int .u8 0, .int .u8 0, .int .u8 0, .int .u8 0, .int .u8 0, .int .u8 0, .int .u8 0, .int .u8 0, .int .u8 0, .int .u8 0, .int .u8 0, .int .u8 0, .int .u8 0] 24)
  rw [World.size_alloc] at hb2
  generalize (w.alloc (.cells #[.int .u8 0, .int .u8 0, .int .u8 0, .int .u8 0, .int .u8 0, .int .u8 0, .int .u8 0, .int .u8 0, .int .u8 0, .int .u8 0, .int .u8 0, .int .u8 0, .int .u8 0, .int .u8 0, .int .u8 0, .int .u8 0, .int .u8 0, .int .u8 0, .int .u8 0, .int .u8 0, .int .u8 0, .int .u8 0, .int .u8 0, .int .u8 0, .int .u8 0, .int .u8 0, .int .u8 0, .int .u8 0, .int .u8 0, .int .u8 0, .int .u8 0, .int .u8 0] 24)).alloc (.cells #[.int .u8 0, .int .u8 0, .int .u8 0, .int .u8 0, .int .u8 0, .int .u8 0, .int .u8 0, .int .u8 0, .int .u8 0, .int .u8 0, .int .u8 0, .int .u8 0, .int .u8 0, .int .u8 0, .int .u8 0, .int .u8 0, .int .u8 0, .int .u8 0, .int .u8 0, .int .u8 0, .int .u8 0, .int .u8 0, .int .u8 0, .int .u8 0, .int .u8 0, .int .u8 0, .int .u8 0, .int .u8 0, .int .u8 0, .int .u8 0, .int .u8 0, .int .u8 0] 24) = W0 at *
  have hg2 : w.heap.size ≤ w.heap.size + 1 := by omega
  have hgn : some w.heap.size ≠ some (w.heap.size + 1) := fun h => by injection h with h; omega
  have HG2 := hd_ hg2
  have HGN := hd_ hgn
  clear hg2 hgn
  generalize w.heap.size + 1 = g2 at *
  have hH0 : Hid (∀ j, j < 0 → j < T.length ∧ 0 ≤ digN (T.getD j 0)) := hd_ fun j hj => absurd hj (Nat.not_lt_zero j)
  go_wp2
  go_loopw [7] (fun vi wr => ∃ k : Nat, k ≤ 64 ∧ vi = .int .i64 k ∧ Box wr w.heap.size 24 (u8A (List.replicate 32 0)) ∧ Box wr g2 24 (u8A (digD T k)) ∧ Below w.heap.size w wr ∧ Hid (∀ j, j < k → j < T.length ∧ 0 ≤ digN (T.getD j 0))) (fun i _ => 64 - (intOf i).toNat)
  case atStart => exact ⟨0, Nat.zero_le _, rfl, hb1, hb2, hB0, hH0⟩
  case round =>
    clear hb1 hb2 hB0 hH0
    obtain ⟨k, hk, rfl, hb1, hb2, hbel, HA⟩ := hrel
    by_cases hlt : k < 64
    · by_cases hend : k = s.size
      · have hbad := hd_ (badAt_some (T := T) 64 0 k (fun j _ hj => HA.out j hj) (.inl (by rw [HTL.out]; exact hend)) (Nat.zero_le _) (by omega))
        have hendI : (k : Int) = (s.size : Int) := by omega
        go_wp2_with (refine store_box rfl 24 _ _ rfl w.heap.size 24 _ (u8A (List.replicate 32 0)) rfl rfl hb1 infoD rfl (u8A_one _) ?_; intro w9 hb9 hg9)
        exact bodyPost_ret (results_cell3 rfl _ _ _ rfl (run_load_box _ _ _ _ _ hb9 Try.underlying24 rfl infoD)) rfl (par_bad hbad.out (by subst hend; rfl) (below_row hbel hg9 (Nat.le_refl _) hbel.size))
      · have hendI : ¬ (k : Int) = (s.size : Int) := by omega
        have hendB : ((k : Int) == (s.size : Int)) = false := by rw [beq_eq_false_iff_ne]; exact hendI
        have hne : k ≠ T.length := by rw [HTL.out]; exact hend
        by_cases hkl : k < s.size
        · have hi := HIX.out k hkl
          obtain ⟨p0, p1⟩ := byte_at hTb (show k < T.length by rw [HTL.out]; exact hkl)
          have hkI : (k : Int) < (s.size : Int) := by omega
          by_cases hd : digN (T.getD k 0) < 0
          · have hbad := hd_ (badAt_some (T := T) 64 0 k (fun j _ hj => HA.out j hj) (.inr hd) (Nat.zero_le _) (by omega))
            generalize T.getD k 0 = c at *
            clear hne hend
            go_wp2_with (first
              | (go_at_call 34; refine (sha_digit_any c p0 p1 _).mono ?_; rintro e w' ⟨rfl, rfl⟩)
              | (refine store_box rfl 24 _ _ rfl w.heap.size 24 _ (u8A (List.replicate 32 0)) rfl rfl hb1 infoD rfl (u8A_one _) ?_; intro w9 hb9 hg9))
            exact bodyPost_ret (results_cell3 rfl _ _ _ rfl (run_load_box _ _ _ _ _ hb9 Try.underlying24 rfl infoD)) rfl (par_bad hbad.out rfl (below_row hbel hg9 (Nat.le_refl _) hbel.size))
          · obtain ⟨x0, x1⟩ := digD_low T hlt (fun i hi => (HA.out i hi).2)
            have hH2 := HA
            have HA2 : Hid (∀ j, j < k + 1 → j < T.length ∧ 0 ≤ digN (T.getD j 0)) := hd_ fun j hj => by
              by_cases hjk : j < k
              · exact HA.out j hjk
              · obtain rfl : j = k := by omega
                exact ⟨by rw [HTL.out]; exact hkl, by omega⟩
            have hE : Hid (digD T (k + 1) = (digD T k).set (k / 2) ((digD T k).getD (k / 2) 0 * 16 + digN (T.getD k 0))) := hd_ rfl
            have hcell := hb2.cell (k / 2) (u8A_cell (digD T k) (k / 2) (by rw [digD_length]; omega))
            have hfro := hb2.frozen (k / 2)
            have hwd : IntKind.i64.wrap ((k : Int).tdiv 2) = ((k / 2 : Nat) : Int) := by
              rw [Int.tdiv_eq_ediv_of_nonneg (by omega), IntKind.wrap_i64]; omega
            have hwd2 : (k : Int) / 2 = ((k / 2 : Nat) : Int) := by omega
            have hh32 : k / 2 < 32 := by omega
            have hd1 := digN_hi (T.getD k 0)
            generalize T.getD k 0 = c at *
            have hdr := sha_digit_any c p0 p1
            generalize digN c = d at *
            generalize (digD T k).getD (k / 2) 0 = x at *
            have hor := or_u8 (m := d) (n := x) (by omega) hd1 x0 x1
            rw [Int.emod_eq_of_lt (by omega) (by omega)] at hor
            have hdw : IntKind.u8.wrap d = d := by rw [IntKind.wrap_u8]; omega
            clear hH2 HA hne hend
            generalize k / 2 = h at *
            have hhI : (h : Int) < 32 := by omega
            have hwh : IntKind.i64.wrap (h : Int) = (h : Int) := by rw [IntKind.wrap_i64]; omega
            go_upto_region 7 with (go_at_call 34; refine (hdr _).mono ?_; rintro e w' ⟨rfl, rfl⟩)
            go_region_law (go_simp; go_at_call 34; refine (hdr _).mono ?_; rintro e w' ⟨rfl, rfl⟩)
            all_goals
              go_wp2
              rw [hor]
              obtain ⟨g3, g4⟩ := hb2.put h (.int .u8 (x * 16 + d))
              rw [u8A_set, ← hE.out] at g3
              have g5 := hb1.grown g4 HGN.out
              go_roundw
              case rel => exact ⟨k + 1, by omega, by go_num, g5, g3, (below_row hbel g4 HG2.out hbel.size).drew, HA2⟩
              case measure => (simp [intOf]; try omega)
        · exfalso
          have := (HA.out s.size (by omega)).1
          rw [HTL.out] at this
          omega
    · obtain rfl : k = 64 := by omega
      have hnone := hd_ (badAt_none (T := T) 64 0 (fun j _ hj => HA.out j (by omega)))
      by_cases hlong : 64 < s.size
      · have hl2 := hd_ (show 64 < T.length by rw [HTL.out]; exact hlong)
        have hlI : (64 : Int) < (s.size : Int) := by omega
        go_wp2_with (refine store_box rfl 24 _ _ rfl w.heap.size 24 _ (u8A (List.replicate 32 0)) rfl rfl hb1 infoD rfl (u8A_one _) ?_; intro w9 hb9 hg9)
        exact bodyPost_ret (results_cell3 rfl _ _ _ rfl (run_load_box _ _ _ _ _ hb9 Try.underlying24 rfl infoD)) rfl (par_long hnone.out hl2.out rfl (below_row hbel hg9 (Nat.le_refl _) hbel.size))
      · have hl2 := hd_ (show ¬ 64 < T.length by rw [HTL.out]; exact hlong)
        have hlI : ¬ (64 : Int) < (s.size : Int) := by omega
        have hinfo : (Try.prog.info? 24).map (·.size) = some (u8A (digD T 64)).size := by rw [u8A_size, digD_length]; exact infoD
        go_wp2_with (first
          | (refine load_box rfl 24 _ rfl g2 24 (u8A (digD T 64)) _ rfl hb2 Try.underlying24 rfl hinfo ?_)
          | (refine store_box rfl 24 _ _ rfl w.heap.size 24 _ (u8A (digD T 64)) rfl rfl hb1 hinfo (by rw [u8A_size, u8A_size, digD_length]; rfl) (u8A_one _) ?_; intro w9 hb9 hg9))
        exact bodyPost_ret (results_cell3 rfl _ _ _ rfl (run_load_box _ _ _ _ _ hb9 Try.underlying24 rfl hinfo)) rfl (par_good hnone.out hl2.out rfl (below_row hbel hg9 (Nat.le_refl _) hbel.size))
end Go.Proofs.Ytcaljnlicohkaaa
