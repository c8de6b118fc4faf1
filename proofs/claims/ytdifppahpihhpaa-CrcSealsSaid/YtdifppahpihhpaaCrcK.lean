import Derived.Test.YtdifppahpihhpaaCrcJ
import Derived.Test.YtdifppahpihhpaaCrcF
namespace Go.Proofs.Ytdifppahpihhpaa
open Go.RowKit
set_option maxRecDepth 100000
set_option linter.unusedVariables false
attribute [local go_sem] u32_signed not_I xorOnes_I xor_I
theorem crc_Power_n (n : Nat) (hn : Lt64 n) (w : World) : Calls Try.prog 33 #[.int .u64 (n : Int)] w fun e w' => e = .returned (.int .u32 (I (xpow n))) ∧ w = w' := by
  have := crc_Power_any n hn w
  rw [Nat.one_mul] at this
  exact this
theorem crc_Power_0 (w : World) : Calls Try.prog 33 #[.int .u64 0] w fun e w' => e = .returned (.int .u32 (I one32)) ∧ w = w' := crc_Power_n 0 (by unfold Lt64; decide) w
def xone : W32 := 0x40000000#32
theorem crc_Power_1 (w : World) : Calls Try.prog 33 #[.int .u64 1] w fun e w' => e = .returned (.int .u32 (I xone)) ∧ w = w' := crc_Power_n 1 (by unfold Lt64; decide) w
theorem beq_I {x y : W32} (h : x = y) : (I x == I y) = true := by rw [h]; exact beq_self_eq_true _
theorem law_CrcRing (w : World) (a : Int) (ha : (Lit.int .u32 a).wf = true) (b : Int) (hb : (Lit.int .u32 b).wf = true) (c : Int) (hc : (Lit.int .u32 c).wf = true) :
    Calls Try.prog 15 #[.int .u32 a, .int .u32 b, .int .u32 c] w fun e w' => e = .returned (.bool true) ∧ Below w.heap.size w w' := by
  obtain ⟨a0, a1⟩ := wf_u32 ha
  obtain ⟨b0, b1⟩ := wf_u32 hb
  obtain ⟨c0, c1⟩ := wf_u32 hc
  obtain ⟨x, rfl⟩ := word_of a0 a1
  obtain ⟨y, rfl⟩ := word_of b0 b1
  obtain ⟨z, rfl⟩ := word_of c0 c1
  clear ha hb hc a0 a1 b0 b1 c0 c1
  have h0 : (I one32 != 2147483648) = false := by decide
  have h1 := beq_I (mul_comm x y)
  have h2 := beq_I (mul_assoc x y z)
  have h3 := beq_I (mul_xor_right x y z)
  have h4 := beq_I (mul_one x)
  have hbb := b32_I
  go_enter Try.func15, Try.ntmps15
  go_wp2_with (first
    | (go_at_call 27; refine (awake_any _).mono ?_; rintro e w1 ⟨rfl, hb1⟩)
    | (go_at_call 33; refine (crc_Power_0 _).mono ?_; rintro e w' ⟨rfl, rfl⟩)
    | (go_at_call 24; refine (crc_Mul_any _ _ (I_lo _) (I_hi _) (I_lo _) (I_hi _) _).mono ?_; rintro e w' ⟨rfl, rfl⟩))
  go_ret
  exact ⟨rfl, hb1⟩
theorem wrap_lt {m n : Nat} (hm : Lt64 m) (hn : Lt64 n) (h : ¬ m + n < 2 ^ 64) : IntKind.u64.wrap ((m : Int) + (n : Int)) < (m : Int) := by
  unfold Lt64 at hm hn
  rw [IntKind.wrap_u64]; omega
theorem wrap_ge {m n : Nat} (h : m + n < 2 ^ 64) : IntKind.u64.wrap ((m : Int) + (n : Int)) = ((m + n : Nat) : Int) := by
  rw [IntKind.wrap_u64]; omega
theorem law_CrcPowersAdd (w : World) (a : Int) (ha : (Lit.int .u64 a).wf = true) (b : Int) (hb : (Lit.int .u64 b).wf = true) :
    Calls Try.prog 16 #[.int .u64 a, .int .u64 b] w fun e w' => e = .returned (.bool true) ∧ Below w.heap.size w w' := by
  obtain ⟨m, rfl, hm⟩ := wf_u64 ha
  obtain ⟨n, rfl, hn⟩ := wf_u64 hb
  clear ha hb
  have h0 : (I xone != 1073741824) = false := by decide
  have h1 := beq_I (xpow_add m n)
  have hbb := b32_I
  have hm : Lt64 m := hm
  have hn : Lt64 n := hn
  by_cases hs : m + n < 2 ^ 64
  · have hd : decide (IntKind.u64.wrap ((m : Int) + (n : Int)) < (m : Int)) = false := by rw [wrap_ge hs]; exact decide_eq_false (by omega)
    have hP : ∀ w, Calls Try.prog 33 #[.int .u64 (IntKind.u64.wrap ((m : Int) + (n : Int)))] w fun e w' => e = .returned (.int .u32 (I (xpow (m + n)))) ∧ w = w' := fun w => by
      rw [wrap_ge hs]; exact crc_Power_n (m + n) hs w
    have HP := hd_ hP
    clear hs hP
    go_enter Try.func16, Try.ntmps16
    go_wp2_with fail
    refine (awake_any _).mono ?_
    rintro e w1 ⟨rfl, hb1⟩
    go_wp2_with fail
    refine (crc_Power_1 _).mono ?_
    rintro e w' ⟨rfl, rfl⟩
    go_wp2_with fail
    refine (crc_Power_n m hm _).mono ?_
    rintro e w' ⟨rfl, rfl⟩
    go_wp2_with fail
    refine (crc_Power_n n hn _).mono ?_
    rintro e w' ⟨rfl, rfl⟩
    go_wp2_with fail
    refine (crc_Mul_any _ _ (I_lo _) (I_hi _) (I_lo _) (I_hi _) _).mono ?_
    rintro e w' ⟨rfl, rfl⟩
    go_wp2_with fail
    refine (HP.out _).mono ?_
    rintro e w' ⟨rfl, rfl⟩
    go_wp2
    go_ret
    exact ⟨rfl, hb1⟩
  · have hw := wrap_lt hm hn hs
    clear hs h1
    go_enter Try.func16, Try.ntmps16
    go_wp2_with (first
      | (go_at_call 27; refine (awake_any _).mono ?_; rintro e w1 ⟨rfl, hb1⟩)
      | (go_at_call 33; (with_reducible refine (crc_Power_1 _).mono ?_); rintro e w' ⟨rfl, rfl⟩))
    go_ret
    exact ⟨rfl, hb1⟩
theorem law_CrcMores (w : World) (a : Int) (ha : (Lit.int .u32 a).wf = true) (v : Value) (l : List Int) (HR : Rd w v l) (hl : l.length ≤ 140737488351232) :
    Calls Try.prog 3 #[.int .u32 a, v] w fun e w' => e = .returned (.bool true) ∧ Below w.heap.size w w' := by
  obtain ⟨a0, a1⟩ := wf_u32 ha
  obtain ⟨x, rfl⟩ := word_of a0 a1
  clear ha a0 a1
  have hbb := b32_I
  have hdd : decide (l = l) = true := decide_eq_true rfl
  go_enter Try.func3, Try.ntmps3
  go_wp2_with (first
    | (at_builtin; refine app_bytes (w0 := w) w.heap.size rfl _ _ 23 5 rfl Try.underlying23 info8 (.slice none 0 0) v [] l rfl rfl (own_nil8 _ _ _) HR (Below.refl _ _) (Nat.le_refl _) (by simp; omega) ?_; intro v1 w1 HO1 HB1 hg1 hat1; rw [List.nil_append] at HO1)
    | (go_at_call 21; refine (crc_More_any _ (I_lo _) (I_hi _) _ _ _ HO1.rd).mono ?_; rintro e w2 ⟨rfl, hb2⟩; have HB2 := bel_trans HB1 hb2)
    | (go_at_call 22; refine (ref_More_any _ _ _ _ (HR.keep HB2) (by omega)).mono ?_; rintro e w' ⟨rfl, rfl⟩)
    | (go_at_call 23; refine (sameBytes_any _ _ _ _ _ (HO1.rd.keep hb2) (HR.keep HB2)).mono ?_; rintro e w' ⟨rfl, rfl⟩))
  go_ret
  exact ⟨by simp, HB2⟩
theorem law_CrcHolds (w : World) (v : Value) (l : List Int) (HR : Rd w v l) (hl : l.length ≤ 140737488351232) :
    Calls Try.prog 10 #[v] w fun e w' => e = .returned (.bool true) ∧ Below w.heap.size w w' := by
  have hdd : decide (l = l) = true := decide_eq_true rfl
  go_enter Try.func10, Try.ntmps10
  go_wp2_with (first
    | (at_builtin; refine app_bytes (w0 := w) w.heap.size rfl _ _ 23 5 rfl Try.underlying23 info8 (.slice none 0 0) v [] l rfl rfl (own_nil8 _ _ _) HR (Below.refl _ _) (Nat.le_refl _) (by simp; omega) ?_; intro v1 w1 HO1 HB1 hg1 hat1; rw [List.nil_append] at HO1)
    | (go_at_call 39; refine (crc_Holds_any _ _ _ HO1.rd (by omega)).mono ?_; rintro e w2 ⟨rfl, hb2⟩; have HB2 := bel_trans HB1 hb2)
    | (go_at_call 40; refine (ref_Holds_any _ _ _ (HR.keep HB2) (by omega)).mono ?_; rintro e w3 ⟨rfl, hb3⟩; have HB3 := bel_trans HB2 hb3)
    | (go_at_call 23; refine (sameBytes_any _ _ _ _ _ (HO1.rd.keep (bel_trans hb2 hb3)) (HR.keep HB3)).mono ?_; rintro e w' ⟨rfl, rfl⟩))
  go_ret
  exact ⟨by simp, HB3⟩
theorem run_zeros (x : W32) (m : Nat) : run (x ^^^ ones) (List.replicate m 0) ^^^ ones = mul (x ^^^ ones) (xpow (8 * m)) ^^^ ones := by
  rw [mul_xpow]
  congr 1
  have h0 : byteW 0 = 0#32 := by decide
  generalize x ^^^ ones = y
  induction m generalizing y with
  | zero => rfl
  | succ m ih => rw [List.replicate_succ, run_cons, h0, BitVec.xor_zero, ih, ← upn_add]; congr 1
theorem law_CrcZeros (w : World) (a : Int) (ha : (Lit.int .u32 a).wf = true) (n : Int) (hn : (Lit.int .i64 n).wf = true) :
    Calls Try.prog 17 #[.int .u32 a, .int .i64 n] w fun e w' => e = .returned (.bool true) ∧ Below w.heap.size w w' := by
  obtain ⟨a0, a1⟩ := wf_u32 ha
  obtain ⟨x, rfl⟩ := word_of a0 a1
  obtain ⟨n0, n1⟩ := wf_i64 hn
  clear ha a0 a1 hn
  have hbb := b32_I
  by_cases hneg : n < 0
  · go_enter Try.func17, Try.ntmps17
    go_wp2_with (first | (go_at_call 45; refine (crc_Zeros_neg _ _ (by omega) _).mono ?_; rintro e w' ⟨rfl, rfl⟩) | (go_at_call 46; refine (ref_Zeros_neg _ _ (by omega) _).mono ?_; rintro e w' ⟨rfl, rfl⟩) | (go_at_call 26; refine (num_any _ _).mono ?_; rintro e w' ⟨rfl, rfl⟩))
    go_ret
    exact ⟨rfl, Below.refl _ _⟩
  · by_cases hbig : 5000 < n
    · go_enter Try.func17, Try.ntmps17
      go_wp2_with (first | (go_at_call 45; refine (crc_Zeros_any _ _ (by omega) (by omega) _).mono ?_; rintro e w' ⟨rfl, rfl⟩) | (go_at_call 46; refine (ref_Zeros_any _ _ (by omega) (by omega) _).mono ?_; rintro e w' ⟨rfl, rfl⟩) | (go_at_call 26; refine (num_any _ _).mono ?_; rintro e w' ⟨rfl, rfl⟩))
      go_ret
      exact ⟨rfl, Below.refl _ _⟩
    · obtain ⟨m, rfl⟩ := Int.eq_ofNat_of_zero_le (show 0 ≤ n by omega)
      have hfin := hd_ (beq_I (run_zeros x m))
      have HM := hd_ (show m ≤ 5000 by omega)
      go_enter Try.func17, Try.ntmps17
      go_wp2_with fail
      refine (crc_Zeros_any _ _ (by omega) (by omega) _).mono ?_
      rintro e w' ⟨rfl, rfl⟩
      go_wp2_with fail
      refine (ref_Zeros_any _ _ (by omega) (by omega) _).mono ?_
      rintro e w' ⟨rfl, rfl⟩
      rw [Int.toNat_natCast]
      generalize mul (x ^^^ ones) (xpow (8 * m)) ^^^ ones = Y at *
      go_wp2_with fail
      refine (num_any _ _).mono ?_
      rintro e w' ⟨rfl, rfl⟩
      go_upto_region 5 with fail
      have a1 : decide ((m : Int) < 0) = false := decide_eq_false (by omega)
      have a2 : decide ((5000 : Int) < (m : Int)) = false := decide_eq_false (by omega)
      clear n0 n1 hneg hbig
      generalize (5000 : Int) = r at *
      go_wp2_with (first
        | (at_make; refine make_bytes (w0 := w) w.heap.size rfl _ _ 23 5 rfl Try.underlying23 info8 _ _ _ _ m rfl rfl rfl rfl (Nat.le_trans HM.out (by decide)) (Below.refl _ _) (Nat.le_refl _) ?_; intro v1 w1 HO1 HB1 hg1 hat1)
        | (go_at_call 21; refine (crc_More_any _ (I_lo _) (I_hi _) _ _ _ HO1.rd).mono ?_; rintro e w2 ⟨rfl, hb2⟩; have HB2 := bel_trans HB1 hb2))
      go_ret
      exact ⟨by rw [← hfin.out]; rfl, HB2⟩
end Go.Proofs.Ytdifppahpihhpaa
