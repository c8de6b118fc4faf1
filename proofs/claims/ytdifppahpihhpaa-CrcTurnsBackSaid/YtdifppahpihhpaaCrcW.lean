import Derived.Test.YtdifppahpihhpaaCrcM
namespace Go.Proofs.Ytdifppahpihhpaa
open Go.RowKit
set_option maxRecDepth 100000
set_option linter.unusedVariables false
attribute [local go_sem] u32_signed not_I xorOnes_I xor_I
def regS (x b : W32) : Nat → W32
  | 0 => x
  | j + 1 => up (regS x b j ^^^ (if b.getLsbD j then one1 else 0#32))
theorem regS_eq (x b : W32) (j : Nat) : regS x b j = regB x ((List.range j).map fun j => b.getLsbD j) := by
  induction j with
  | zero => rfl
  | succ j ih => rw [List.range_succ, List.map_append, regB_append, ← ih]; rfl
theorem regS_8 (x : W32) {c : Int} (h0 : 0 ≤ c) (h1 : c < 256) : regS x (byteW c) 8 = upn 8 (x ^^^ byteW c) := by
  rw [regS_eq]; exact regB_bits8 x c h0 h1
theorem up_flip (x : W32) (b : Bool) : up (x ^^^ (if b then one1 else 0#32)) = (x >>> 1) ^^^ (if (x.getLsbD 0 ^^ b) then gen else 0#32) := by
  cases b
  · simp [up]
  · rw [up_xor]
    have e : up one1 = gen := by decide
    simp only [if_true, e]
    unfold up
    cases x.getLsbD 0 <;> simp [BitVec.xor_assoc]
theorem half_mod (z : W32) : (I z).tdiv (2 : Int) % (4294967296 : Int) = I (z >>> 1) := by
  have h0 := I_lo z
  have h1 := I_hi z
  rw [Int.tdiv_eq_ediv_of_nonneg h0, half_i h0 h1, b32_I]
  exact Int.emod_eq_of_lt (I_lo _) (I_hi _)
theorem low_is (z : W32) : bits .and .u32 (I z) 1 = if z.getLsbD 0 then 1 else 0 := by
  rw [and_i, b32_I, show b32 1 = 1#32 from by decide, and_one]
  cases z.getLsbD 0 <;> decide
theorem bit8_is {c : Int} (h0 : 0 ≤ c) (h1 : c < 256) (j : Nat) (hj : j < 8) : bits .and .u8 (c / (2 : Int) ^ j) 1 = if (byteW c).getLsbD j then 1 else 0 := by
  have h := bit8_i h0 h1 j hj
  obtain ⟨n, rfl⟩ := Int.eq_ofNat_of_zero_le h0
  have e : ((n : Int) / (2 : Int) ^ j) = ((n / 2 ^ j : Nat) : Int) := by rw [Int.natCast_ediv, Int.natCast_pow]; rfl
  rw [e, and1_u8 _ (Nat.lt_of_le_of_lt (Nat.div_le_self _ _) (by omega))] at h ⊢
  rw [← h]
  by_cases hh : ((n / 2 ^ j % 2 : Nat) : Int) = 1
  · rw [hh]; rfl
  · rw [if_neg (by simpa using hh)]; omega
theorem ne_is (z : W32) {c : Int} (h0 : 0 ≤ c) (h1 : c < 256) (j : Nat) (hj : j < 8) : (bits .and .u32 (I z) 1 != bits .and .u8 (c / (2 : Int) ^ j) 1 % 4294967296) = (z.getLsbD 0 ^^ (byteW c).getLsbD j) := by
  rw [low_is, bit8_is h0 h1 j hj]
  cases z.getLsbD 0 <;> cases (byteW c).getLsbD j <;> decide
theorem regS_go {x b z : W32} {j : Nat} {t : Bool} (h : z = regS x b j) (ht : (z.getLsbD 0 ^^ b.getLsbD j) = t) : ((z >>> 1) ^^^ (if t then gen else 0#32)) = regS x b (j + 1) := by
  subst h; rw [regS, up_flip, ht]
theorem not_sub (y : W32) : I (y ^^^ ones) = 4294967295 - I y := by
  have e : y ^^^ ones = ~~~ y := by rw [show ones = BitVec.allOnes 32 from by decide, BitVec.xor_allOnes]
  rw [e]
  unfold I
  rw [BitVec.toNat_not]
  have := y.isLt
  omega
theorem law_WholeSums (w : World) (v : Value) (xss : List (List Int)) (HR : RdL w v xss) (hcnt : xss.length * 24 ≤ 140737488351232) (hl : ∀ xs ∈ xss, xs.length ≤ 140737488351232) :
    Calls Try.prog 14 #[v] w fun e w' => e = .returned (.bool true) ∧ Below w.heap.size w w' := by
  have HRR := hd_ HR
  obtain ⟨A, cap, rfl, hn, hm, _, hc⟩ := HR.form
  clear HR
  unfold maxLen at hm
  go_enter Try.func14, Try.ntmps14
  go_wp2
  go_loop [3, 12] (fun vr vi => ∃ (k : Nat) (x : W32), k ≤ xss.length ∧ vr = .int .u32 (I x) ∧ vi = .int .i64 k ∧ Hid (run x (xss.drop k).flatten = run ones xss.flatten)) (fun _ i => xss.length - (intOf i).toNat)
  case atStart => exact ⟨0, ones, Nat.zero_le _, rfl, rfl, rfl⟩
  case round =>
    obtain ⟨k, x, hk, rfl, rfl, H⟩ := hrel
    by_cases hlt : k < xss.length
    · obtain ⟨b, off, u, rfl, hcell, hu⟩ := hc k hlt
      have H2 : Hid (run (run x (xss.getD k [])) (xss.drop (k + 1)).flatten = run ones xss.flatten) := by
        have := H.out
        rw [drop_head [] xss hlt, List.flatten_cons, run_append] at this
        exact this
      clear hc H
      generalize xss.getD k [] = p at *
      have hb := hu.1
      obtain ⟨A2, cap2, rfl, hn2, hm2, _, hc2⟩ := hu.form
      unfold maxLen at hm2
      go_wp2
      go_loop [3, 18] (fun vr vi => ∃ (m : Nat) (y : W32), m ≤ p.length ∧ vr = .int .u32 (I y) ∧ vi = .int .i64 m ∧ Hid (run y (p.drop m) = run x p)) (fun _ i => p.length - (intOf i).toNat)
      case atStart => exact ⟨0, x, Nat.zero_le _, rfl, rfl, rfl⟩
      case round =>
        obtain ⟨m, y, hm1, rfl, rfl, G⟩ := hrel
        by_cases hmt : m < p.length
        · obtain ⟨b2, off2, rfl, hcell2⟩ := hc2 m hmt
          obtain ⟨c0, c1⟩ := byte_at hb hmt
          have G2 : Hid (run (upn 8 (y ^^^ byteW (p.getD m 0))) (p.drop (m + 1)) = run x p) := by
            have := G.out
            rw [drop_head 0 p hmt, run_cons] at this
            exact this
          clear hc2 G
          generalize p.getD m 0 = c at *
          go_wp2
          go_loop [3, 8] (fun vr vi => ∃ (j : Nat) (z : W32), j ≤ 8 ∧ vr = .int .u32 (I z) ∧ vi = .int .i64 j ∧ Hid (z = regS y (byteW c) j)) (fun _ i => 8 - (intOf i).toNat)
          case atStart => exact ⟨0, y, by omega, rfl, rfl, rfl⟩
          case round =>
            obtain ⟨j, z, hj, rfl, rfl, F⟩ := hrel
            by_cases hjt : j < 8
            · have hne := ne_is z c0 c1 j hjt
              have hhf := half_mod z
              have F2 := fun t ht => regS_go (t := t) F.out ht
              clear F
              cases ht : (z.getLsbD 0 ^^ (byteW c).getLsbD j)
              · have F3 := hd_ (F2 _ ht)
                rw [ht] at hne
                clear ht F2
                go_wp2
                go_round
                case rel => exact ⟨j + 1, z >>> 1, by omega, by first | rfl | rw [hhf], by go_num, by rw [← F3.out]; exact (BitVec.xor_zero).symm⟩
                case measure => (simp [intOf]; try omega)
              · have F3 := hd_ (F2 _ ht)
                rw [ht] at hne
                clear ht F2
                go_wp2
                go_round
                case rel => exact ⟨j + 1, (z >>> 1) ^^^ gen, by omega, by first | rw [hhf, xor_i, b32_I, b32_gen] | rw [xor_i, b32_I, b32_gen], by go_num, F3.out⟩
                case measure => (simp [intOf]; try omega)
            · obtain rfl : j = 8 := by omega
              have F2 := hd_ (F.out.trans (regS_8 y c0 c1))
              clear F
              go_wp2
              go_round
              case rel => exact ⟨m + 1, z, by omega, rfl, by go_num, by rw [F2.out]; exact G2⟩
              case measure => (simp [intOf]; try omega)
        · obtain rfl : m = p.length := by omega
          have G2 := G.out
          rw [List.drop_length] at G2
          have G3 := hd_ G2
          clear G G2 hc2
          go_wp2
          go_round
          case rel => exact ⟨k + 1, y, by omega, rfl, by go_num, by have := G3.out; rw [run_nil] at this; rw [this]; exact H2⟩
          case measure => (simp [intOf]; try omega)
    · obtain rfl : k = xss.length := by omega
      have H2 := H.out
      rw [List.drop_length] at H2
      have H3 : x = run ones xss.flatten := H2
      have hfin : Hid (I (sumW xss.flatten) = 4294967295 - I x) := by
        subst H3; exact not_sub _
      clear hc H H2
      go_wp2_with (go_at_call 28; refine (crc_Sum_any _ _ _ HRR.out).mono ?_; rintro e w1 ⟨rfl, hb1⟩)
      go_ret
      refine ⟨?_, hb1⟩
      have h9 := hfin.out
      have h8 := I_lo x
      have h7 := I_hi x
      subst H3
      show Ending.returned (Value.bool (I (sumW xss.flatten) == (4294967295 - I (run ones xss.flatten)) % 4294967296)) = _
      rw [show (I (sumW xss.flatten) == (4294967295 - I (run ones xss.flatten)) % 4294967296) = true from beq_iff_eq.2 (by omega)]
end Go.Proofs.Ytdifppahpihhpaa
