import Derived.Test.YtdifppahpihhpaaCrcS
namespace Go.Proofs.Ytdifppahpihhpaa
open Go.RowKit
set_option maxRecDepth 100000
set_option linter.unusedVariables false
theorem xor_u8 {a b : Int} (a0 : 0 ≤ a) (a1 : a < 256) (b0 : 0 ≤ b) (b1 : b < 256) : 0 ≤ bits .xor .u8 a b ∧ bits .xor .u8 a b < 256 ∧ byteW (bits .xor .u8 a b) = byteW a ^^^ byteW b := by
  obtain ⟨m, rfl⟩ := Int.eq_ofNat_of_zero_le a0
  obtain ⟨n, rfl⟩ := Int.eq_ofNat_of_zero_le b0
  have hm : m < 2 ^ 8 := by omega
  have hn : n < 2 ^ 8 := by omega
  have hx : m ^^^ n < 2 ^ 8 := Nat.xor_lt_two_pow hm hn
  have e : bits .xor .u8 (m : Int) (n : Int) = ((m ^^^ n : Nat) : Int) := by
    show IntKind.u8.wrap ((((BitVec.ofInt 8 (m : Int)) ^^^ (BitVec.ofInt 8 (n : Int))).toNat : Nat) : Int) = _
    rw [BitVec.ofInt_natCast, BitVec.ofInt_natCast, BitVec.toNat_xor, BitVec.toNat_ofNat, BitVec.toNat_ofNat, Nat.mod_eq_of_lt hm, Nat.mod_eq_of_lt hn, IntKind.wrap_u8']
    omega
  refine ⟨by rw [e]; omega, by rw [e]; omega, ?_⟩
  rw [e]
  unfold byteW
  rw [BitVec.ofInt_natCast, BitVec.ofInt_natCast, BitVec.ofInt_natCast]
  apply BitVec.eq_of_toNat_eq
  rw [BitVec.toNat_xor, BitVec.toNat_ofNat, BitVec.toNat_ofNat, BitVec.toNat_ofNat, Nat.mod_eq_of_lt (by omega), Nat.mod_eq_of_lt (by omega), Nat.mod_eq_of_lt (by omega)]
theorem run_set (r : W32) {l : List Int} (h : IsBytes l) {i : Nat} (hi : i < l.length) {m : Int} (m0 : 0 ≤ m) (m1 : m < 256) :
    run r (l.set i (bits .xor .u8 (l.getD i 0) m)) = run r l ^^^ upn (8 * (l.length - 1 - i) + 8) (byteW m) := by
  rw [List.getD_eq_getElem?_getD, List.getElem?_eq_getElem hi, Option.getD_some]
  obtain ⟨h2, h3⟩ := h _ (List.getElem_mem hi)
  obtain ⟨_, _, k3⟩ := xor_u8 h2 h3 m0 m1
  have e0 : l = l.take i ++ l[i] :: l.drop (i + 1) := by rw [List.getElem_cons_drop, List.take_append_drop]
  have e1 : l.set i (bits .xor .u8 l[i] m) = l.take i ++ bits .xor .u8 l[i] m :: l.drop (i + 1) := by rw [List.set_eq_take_append_cons_drop, if_pos hi]
  have e2 : run r l = run (upn 8 (run r (l.take i) ^^^ byteW l[i])) (l.drop (i + 1)) := by
    conv => lhs; rw [e0]
    rw [run_append, run_cons]
  rw [e1, e2, run_append, run_cons, k3, ← BitVec.xor_assoc, upn_xor 8, run_xor]
  congr 1
  rw [← upn_add, List.length_drop]
  congr 1
  omega
theorem turned_sum {l : List Int} (h : IsBytes l) {i : Nat} (hi : i < l.length) {m : Int} (m0 : 0 ≤ m) (m1 : m < 256) :
    turnedW (sumW l) l.length i m = sumW (l.set i (bits .xor .u8 (l.getD i 0) m)) := by
  unfold sumW turnedW
  rw [run_set ones h hi m0 m1, mul_xpow, ← upn_add, show ((l.length : Int) - 1 - (i : Int)).toNat = l.length - 1 - i by omega]
  rw [BitVec.xor_assoc, BitVec.xor_assoc, BitVec.xor_comm ones]
theorem turned_twice (x : W32) (n k m : Int) : turnedW (turnedW x n k m) n k m = x := by
  unfold turnedW
  rw [BitVec.xor_assoc, BitVec.xor_self, BitVec.xor_zero]
set_option maxHeartbeats 1000000 in
theorem law_CrcTurnsBack (w : World) (v : Value) (l : List Int) (HR : Rd w v l) (hl : l.length ≤ 140737488351232) (a : Int) (ha : (Lit.int .u64 a).wf = true) (c : Int) (hc : (Lit.int .u8 c).wf = true) :
    Calls Try.prog 20 #[v, .int .u64 a, .int .u8 c] w fun e w' => e = .returned (.bool true) ∧ Below w.heap.size w w' := by
  obtain ⟨b, rfl, hm⟩ := wf_u64 ha
  obtain ⟨c0, c1⟩ := wf_u8' hc
  clear ha hc
  have hlb := HR.1
  have HR0 := hd_ HR
  by_cases hne : l = []
  · subst hne
    obtain ⟨Av, cv, rfl, _⟩ := HR.form
    rw [List.length_nil] at HR0 ⊢
    go_enter Try.func20, Try.ntmps20
    go_wp2_with (go_at_call 27; refine (awake_any _).mono ?_; rintro e w1 ⟨rfl, hb1⟩)
    go_ret
    exact ⟨rfl, hb1⟩
  · have hpos : 0 < l.length := List.length_pos_iff.2 hne
    have hz : ((l.length : Int) == 0) = false := beq_eq_false_iff_ne.2 (by omega)
    have hdiv : b % l.length < l.length := Nat.mod_lt _ hpos
    have hmod : ((b : Int) % (l.length : Int)) = ((b % l.length : Nat) : Int) := (Int.natCast_emod _ _).symm
    generalize b % l.length = i at *
    obtain ⟨x0, x1⟩ := bytes_at hlb i
    obtain ⟨y0, y1, _⟩ := xor_u8 x0 x1 c0 (by omega : c < 256)
    have hts := hd_ (turned_sum hlb hdiv c0 (by omega : c < 256))
    have htt := hd_ (turned_twice (sumW l) l.length i c)
    obtain ⟨Av, cv, rfl, hcv, hcv2, _, hcells⟩ := HR.form
    unfold maxLen at hcv2
    clear hcells
    go_enter Try.func20, Try.ntmps20
    go_upto_region 5 with (go_at_call 27; refine (awake_any _).mono ?_; rintro e w1 ⟨rfl, hb1⟩)
    go_upto_region 6 with fail
    try rw [hmod]
    clear hmod
    go_upto_region 7 with (at_builtin; refine app_bytes (w0 := w) w.heap.size rfl _ _ 23 5 rfl Try.underlying23 info8 (.slice none 0 0) _ [] l rfl rfl (own_nil8 _ _ _) (HR0.out.keep hb1) hb1 hb1.size (by simp; omega) ?_; intro v1 w2 HO2 HB2 hg2 hat2; rw [List.nil_append] at HO2; obtain ⟨g, cp, rfl, hgb, hle, hcp2, hcl, hfz⟩ := HO2.slot hne)
    have hc1 := hcl i hdiv
    have hf1 := hfz i
    have hP := HO2.put i _ y0 y1
    have hPB := below_put HO2 HB2 HB2.size i (.int .u8 (bits .xor .u8 (l.getD i 0) c))
    clear hcl hfz
    generalize hxe : l.getD i 0 = x at *
    clear hxe
    have HP := hd_ hP.1
    have HPB := hd_ hPB
    clear hP hPB
    rw [hts.out] at htt
    go_wp2_with fail
    rw [show w2.heap.size = (w2.setCell ⟨g, i, none⟩ (.int .u8 (bits .xor .u8 x c))).heap.size from by simp]
    generalize w2.setCell ⟨g, i, none⟩ (.int .u8 (bits .xor .u8 x c)) = w3 at *
    have HRl : l.length = (l.set i (bits .xor .u8 x c)).length := by rw [List.length_set]
    have HPR := hd_ HP.out.rd
    generalize hqq : l.set i (bits .xor .u8 x c) = q at *
    have HRl' := hd_ HRl
    clear HRl hqq hc1 hf1
    have HR3 := HR0.out.keep HPB.out
    refine (crc_Sum_any _ _ _ (crc_Sum_one _ _ _ HR3 HR3.one)).mono ?_
    rintro e w4 ⟨rfl, hb4⟩
    rw [List.flatten_singleton]
    have A4 := bel_trans (al1 (Below.refl w3.heap.size w3) (.cells #[.slice Av l.length cv] 23)) hb4
    go_wp2_with fail
    refine (crc_Turned_in (sumW l) c l.length i c0 c1 (by omega) (by omega) (by omega) (by omega) _).mono ?_
    rintro e w5 ⟨rfl, hb5⟩
    rw [hts.out]
    have A5 := bel_trans A4 hb5
    go_wp2_with fail
    refine (crc_Turned_in (sumW q) c l.length i c0 c1 (by omega) (by omega) (by omega) (by omega) _).mono ?_
    rintro e w6 ⟨rfl, hb6⟩
    rw [htt.out]
    have A6 := bel_trans A5 hb6
    have HP6 := HPR.out.keep A6
    generalize hs1 : I (sumW l) = z1
    generalize hs2 : I (sumW q) = z2
    have HS1 := hd_ hs1
    have HS2 := hd_ hs2
    clear hs1 hs2
    go_wp2_with fail
    rw [HRl'.out] at *
    refine (crc_Sum_any _ _ _ (crc_Sum_one _ _ _ HP6 HP6.one)).mono ?_
    rintro e w7 ⟨rfl, hb7⟩
    rw [List.flatten_singleton, HS2.out]
    have A7 := bel_trans (bel_trans A6 (al1 (Below.refl w6.heap.size w6) (.cells #[.slice (some ⟨g, 0, none⟩) q.length cp] 23))) hb7
    have HR7 := HR3.keep A7
    go_wp2_with fail
    refine (crc_Sum_any _ _ _ (crc_Sum_one _ _ _ HR7 HR7.one)).mono ?_
    rintro e w8 ⟨rfl, hb8⟩
    rw [List.flatten_singleton, HS1.out]
    go_wp2
    go_ret
    exact ⟨rfl, bel_trans HPB.out (bel_trans (bel_trans A7 (al1 (Below.refl w7.heap.size w7) (.cells #[.slice Av q.length cv] 23))) hb8)⟩
end Go.Proofs.Ytdifppahpihhpaa
