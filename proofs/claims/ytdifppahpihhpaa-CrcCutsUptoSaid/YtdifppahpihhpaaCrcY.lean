import Derived.Test.YtdifppahpihhpaaCrcX
import Derived.Deep.RegionWith
namespace Go.Proofs.Ytdifppahpihhpaa
open Go.RowKit
set_option maxRecDepth 100000
set_option linter.unusedVariables false
theorem sum_join (a b : List Int) : mul (sumW a) (xpow (8 * b.length)) ^^^ sumW b = sumW (a ++ b) := by
  unfold sumW
  rw [mul_xpow, run_append]
  have h := run_xor b ones (run ones a ^^^ ones)
  rw [show ones ^^^ (run ones a ^^^ ones) = run ones a from by rw [BitVec.xor_comm (run ones a), ← BitVec.xor_assoc, BitVec.xor_self, BitVec.zero_xor]] at h
  rw [h, ← BitVec.xor_assoc, BitVec.xor_comm (upn _ _)]
theorem sum_more (a b : List Int) : run (sumW a ^^^ ones) b ^^^ ones = sumW (a ++ b) := by
  unfold sumW
  rw [BitVec.xor_assoc, BitVec.xor_self, BitVec.xor_zero, run_append]
theorem flatten_take {ps : List (List Int)} {k : Nat} (h : k < ps.length) : (ps.take (k + 1)).flatten = (ps.take k).flatten ++ ps.getD k [] := by
  rw [List.take_add_one, List.getElem?_eq_getElem h, List.getD_eq_getElem?_getD, List.getElem?_eq_getElem h, List.flatten_append]
  show _ ++ [ps[k]].flatten = _ ++ ps[k]
  rw [List.flatten_cons, List.flatten_nil, List.append_nil]
theorem flatten_take_le (ps : List (List Int)) (k : Nat) : (ps.take k).flatten.length ≤ ps.flatten.length := by
  conv => rhs; rw [← List.take_append_drop k ps]
  rw [List.flatten_append, List.length_append]; omega
theorem crc_More_w (x : W32) (v : Value) (l : List Int) (w : World) (HR : Rd w v l) :
    Calls Try.prog 21 #[.int .u32 (I x), v] w fun e w' => e = .returned (.int .u32 (I (run (x ^^^ ones) l ^^^ ones))) ∧ Below w.heap.size w w' := by
  have h := crc_More_any (I x) (I_lo x) (I_hi x) v l w HR
  rw [b32_I] at h
  exact h
set_option maxHeartbeats 2000000 in
theorem law_CrcCuts (w : World) (v : Value) (ps : List (List Int)) (HR : RdL w v ps) (hcnt : ps.length * 24 ≤ 140737488351232) (hl : ∀ xs ∈ ps, xs.length ≤ 140737488351232) (ht : ps.flatten.length + ps.length ≤ 1048576) :
    Calls Try.prog 19 #[v] w fun e w' => e = .returned (.bool true) ∧ Below w.heap.size w w' := by
  clear hl hcnt
  have hFl : Hid (ps.flatten.length ≤ 1048576) := hd_ (by omega)
  have hpl : ps.length ≤ 1048576 := by omega
  have hRf := HR
  obtain ⟨A, cap, rfl, hn, hmx, _, hc⟩ := HR.form
  unfold maxLen at hmx
  have hc := hd_ hc
  clear HR ht
  go_enter Try.func19, Try.ntmps19
  go_wp2_with (go_at_call 27; refine (awake_any _).mono ?_; rintro e w1 ⟨rfl, HB1⟩)
  have hRf1 := hRf.keep HB1
  go_loopw [3, 4, 5, 6] (fun vs va vb vi wr => ∃ k : Nat, k ≤ ps.length ∧ vi = .int .i64 k ∧ Own wr w.heap.size 5 vs (ps.take k).flatten ∧ va = .int .u32 (I (sumW (ps.take k).flatten)) ∧ vb = .int .u32 (I (sumW (ps.take k).flatten)) ∧ Below w.heap.size w wr) (fun _ _ _ i _ => ps.length - (intOf i).toNat)
  case atStart => exact ⟨0, Nat.zero_le _, rfl, own_nil8 _ _ _, by rw [List.take_zero, List.flatten_nil, sum_nil]; rfl, by rw [List.take_zero, List.flatten_nil, sum_nil]; rfl, HB1⟩
  case round =>
    obtain ⟨k, hk, rfl, HO, rfl, rfl, HB⟩ := hrel
    by_cases hlt : k < ps.length
    · obtain ⟨b, off, u, rfl, hcell0, hu0⟩ := hc.out k hlt
      have hcell := cell_keep HB hcell0
      have hu := hu0.keep HB
      have hft := flatten_take hlt
      have hfl := flatten_take_le ps (k + 1)
      have hFl' := hFl.out
      rw [hft, List.length_append] at hfl
      have hL : Hid ((ps.take k).flatten.length + (ps.getD k []).length ≤ 140737488355328) := hd_ (by omega)
      have hpL : ((ps.getD k []).length : Int) ≤ 1048576 := by omega
      have HFT := hd_ hft
      clear hc hft hfl hRf hRf1 hFl'
      generalize ps.getD k [] = p at *
      generalize (ps.take k).flatten = q at *
      have hp0 : Hid (¬ (p.length : Int) < 0) := hd_ (by omega)
      have hpM : (p.length : Int) ≤ 9223372036854775807 := by omega
      obtain ⟨A2, c2, rfl, _⟩ := hu0.form
      go_wp2_with (first
        | (at_builtin; (refine app_bytes (w0 := w) w.heap.size rfl _ _ 23 5 rfl Try.underlying23 info8 u3 (.slice A2 p.length c2) q p rfl rfl HO hu HB HB.size hL.out ?_); intro v5 w5 HO5 HB5 hg5 hat5; have hK5 : Hid (Below w.heap.size w w5) := hd_ HB5; have hu5 := hu0.keep HB5; have hcell5 := cell_keep HB5 hcell0)
        | (go_at_call 21; with_reducible refine (crc_More_w _ _ _ _ hu5).mono ?_; rintro e w6 ⟨rfl, HB6⟩; rw [sum_more]))
      have hB6 := bel_trans HB5 HB6
      have HO6 := HO5.keep HB6
      have hu6 := hu5.keep HB6
      have hcell6 := cell_keep HB6 hcell5
      clear HO5 HB5 hg5 hat5 hu5 hcell5 HO HB hcell hu hu0 hcell0 HB6 hK5
      have hone : RdL (w6.drew.alloc (.cells #[.slice A2 p.length c2] 23)) (.slice (some ⟨w6.drew.heap.size, 0, none⟩) 1 1) [p] := crc_Sum_one _ p w6.drew (hu6.keep (Below.refl _ _).drew) rfl
      have hal : Below w6.heap.size w6 (w6.drew.alloc (.cells #[.slice A2 p.length c2] 23)) := al1 (Below.refl w6.heap.size w6).drew _
      have KS : ∀ w', Below w6.heap.size w6 w' → (Below w6.heap.size w6 w' ∧ w'.cell? ⟨b, off + k, none⟩ = some (.slice A2 p.length c2)) := fun w' hw => ⟨hw, cell_keep hw hcell6⟩
      go_region_held3 (fun w' => Below w6.heap.size w6 w' ∧ w'.cell? ⟨b, off + k, none⟩ = some (.slice A2 p.length c2))
        (first | exact KS _ (Below.refl _ _).drew | exact KS _ hal | exact KS _ (bel_trans hal (by assumption)))
        (first
          | (go_at_call 28; refine (crc_Sum_any _ _ _ hone).mono ?_; rintro e w7 ⟨rfl, HB7⟩; rw [List.flatten_singleton])
          | (go_at_call 43; with_reducible refine (crc_Join_any (sumW q) (sumW p) (p.length : Int) (Int.not_lt.2 hp0.out) hpM _).mono ?_; rintro e w' ⟨rfl, rfl⟩; rw [show ((p.length : Int)).toNat = p.length from rfl, sum_join]))
      all_goals go_wp2
      all_goals go_roundw
      case rel => exact ⟨k + 1, by omega, by go_num, by rw [HFT.out]; exact HO6.keep (bel_trans hal HB7), by rw [HFT.out], by rw [HFT.out], bel_trans hB6 (bel_trans hal HB7)⟩
      case measure => (simp [intOf]; try omega)
    · obtain rfl : k = ps.length := by omega
      rw [List.take_length] at HO ⊢
      have hRk := hRf.keep HB
      obtain ⟨F, hF⟩ : ∃ F, ps.flatten = F := ⟨_, rfl⟩
      have hSm : ∀ W, RdL W (.slice A ps.length cap) ps → Calls Try.prog 28 #[.slice A ps.length cap] W fun e w' => e = .returned (.int .u32 (I (sumW F))) ∧ Below W.heap.size W w' := by
        rw [← hF]
        exact fun W h => crc_Sum_any _ _ W h
      rw [hF] at HO ⊢
      obtain ⟨A5, c5, rfl, _⟩ := HO.rd.form
      have hone := crc_Sum_one _ _ wr HO.rd rfl
      have hal := al1 (Below.refl wr.heap.size wr) (.cells #[.slice A5 F.length c5] 23)
      have hHSm := hd_ hSm
      have hHF := hd_ hF
      clear hc hF hSm hFl
      go_wp2_with fail
      refine (crc_Sum_any _ _ _ hone).mono ?_
      rintro e w7 ⟨rfl, HB7⟩
      rw [List.flatten_singleton]
      have hK7 := bel_trans HB (bel_trans hal HB7)
      go_wp2_with fail
      refine (hHSm.out _ (hRf.keep hK7)).mono ?_
      rintro e w8 ⟨rfl, HB8⟩
      go_wp2
      go_ret
      exact ⟨rfl, bel_trans hK7 HB8⟩
end Go.Proofs.Ytdifppahpihhpaa
