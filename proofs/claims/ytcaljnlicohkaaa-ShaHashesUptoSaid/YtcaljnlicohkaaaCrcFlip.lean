/- What the sum tells: the order of x, parity, runs. No program in sight. -/
import Derived.Test.YtcaljnlicohkaaaCrcMath
namespace Go.Proofs.Ytcaljnlicohkaaa
def sqs : List W32 := [0x40000000#32, 0x20000000#32, 0x08000000#32, 0x00800000#32, 0x00008000#32, 0x82f63b78#32, 0x6ea2d55c#32, 0x18b8ea18#32, 0x510ac59a#32, 0xb82be955#32, 0xb8fdb1e7#32, 0x88e56f72#32, 0x74c360a4#32, 0xe4172b16#32, 0x0d65762a#32, 0x35d73a62#32, 0x28461564#32, 0xbf455269#32, 0xe2ea32dc#32, 0xfe7740e6#32, 0xf946610b#32, 0x3c204f8f#32, 0x538586e3#32, 0x59726915#32, 0x734d5309#32, 0xbc1ac763#32, 0x7d0722cc#32, 0xd289cabe#32, 0xe94ca9bc#32, 0x05b74f3f#32, 0xa51e1f42#32, 0x40000000#32]
theorem sqs_step : ∀ i, i < 31 → mul (sqs.getD i 0#32) (sqs.getD i 0#32) = sqs.getD (i + 1) 0#32 := by decide +kernel
theorem sqs_pow (i : Nat) (hi : i ≤ 31) : sqs.getD i 0#32 = xpow (2 ^ i) := by
  induction i with
  | zero => decide
  | succ i ih => rw [← sqs_step i (by omega), ih (by omega), xpow_add, Nat.pow_succ]; congr 1; omega
def ord : Nat := 2147483647
theorem xpow_ord : xpow ord = one32 := by
  have h : xpow (2 ^ 31) = xpow 1 := by rw [← sqs_pow 31 (by omega)]; decide
  have e : (2 ^ 31 : Nat) = 1 + ord := by decide
  rw [e] at h
  unfold xpow at h ⊢
  rw [upn_add] at h
  exact up_inj h
theorem upn_dvd {a : Nat} (h : xpow a = one32) (q : Nat) : xpow (a * q) = one32 := by
  induction q with
  | zero => rfl
  | succ q ih =>
    rw [Nat.mul_succ]; unfold xpow at h ih ⊢; rw [upn_add, h, ih]
theorem xpow_gcd (a b : Nat) : xpow a = one32 → xpow b = one32 → xpow (Nat.gcd a b) = one32 := by
  induction a, b using Nat.gcd.induction with
  | H0 b => intro _ h; rwa [Nat.gcd_zero_left]
  | H1 a b ha ih =>
    intro h1 h2
    rw [Nat.gcd_rec]
    refine ih ?_ h1
    have h3 := upn_dvd h1 (b / a)
    have e : b = b % a + a * (b / a) := (Nat.mod_add_div b a).symm
    rw [e] at h2
    unfold xpow at h2 h3 ⊢
    rw [upn_add, h3] at h2
    exact h2
/-- no number from 2 to 65535 divides it -/
def chk : Nat → Nat → Bool
  | 0, lo => decide (lo < 2) || !(ord % lo == 0)
  | d + 1, lo => chk d lo && chk d (lo + 2 ^ d)
theorem chk_all : chk 16 0 = true := by decide +kernel
theorem chk_at (d : Nat) : ∀ lo k, chk d lo = true → lo ≤ k → k < lo + 2 ^ d → 2 ≤ k → ord % k ≠ 0 := by
  induction d with
  | zero =>
    intro lo k h h1 h2 h3 e
    obtain rfl : k = lo := by simp at h2; omega
    simp [chk, e] at h
    omega
  | succ d ih =>
    intro lo k h h1 h2 h3
    rw [chk, Bool.and_eq_true] at h
    rw [Nat.pow_succ] at h2
    by_cases hk : k < lo + 2 ^ d
    · exact ih lo k h.1 h1 hk h3
    · exact ih (lo + 2 ^ d) k h.2 (by omega) (by omega) h3
theorem no_small {k : Nat} (h2 : 2 ≤ k) (hk : k < 65536) : ¬ k ∣ ord := fun h => chk_at 16 0 k chk_all (by omega) (by simpa using hk) h2 (Nat.mod_eq_zero_of_dvd h)
theorem gcd_ord {d : Nat} (h0 : 0 < d) (h1 : d < ord) : Nat.gcd d ord = 1 := by
  have hg : Nat.gcd d ord ∣ ord := Nat.gcd_dvd_right d ord
  have hd : Nat.gcd d ord ≤ d := Nat.le_of_dvd h0 (Nat.gcd_dvd_left d ord)
  have hp : 0 < Nat.gcd d ord := Nat.gcd_pos_of_pos_left _ h0
  generalize Nat.gcd d ord = g at *
  obtain ⟨h, hh⟩ := hg
  apply Classical.byContradiction
  intro hne
  have hg2 : 2 ≤ g := by omega
  have h2 : 2 ≤ h := by
    rcases Nat.lt_or_ge h 2 with hl | hl
    · have hle : g * h ≤ g * 1 := Nat.mul_le_mul_left g (by omega)
      omega
    · exact hl
  by_cases hs : g < 65536
  · exact no_small hg2 hs ⟨h, hh⟩
  · have hlt : h < 65536 := by
      apply Classical.byContradiction
      intro hb
      have : 65536 * 65536 ≤ g * h := Nat.mul_le_mul (by omega) (by omega)
      unfold ord at hh
      omega
    exact no_small h2 hlt ⟨g, by rw [hh, Nat.mul_comm]⟩
theorem xpow_ne_one {d : Nat} (h0 : 0 < d) (h1 : d < ord) : xpow d ≠ one32 := by
  intro h
  have := xpow_gcd d ord h xpow_ord
  rw [gcd_ord h0 h1] at this
  exact absurd this (by decide)
/-! ### parity -/
def parN (x : W32) : Nat → Bool
  | 0 => false
  | n + 1 => parN x n ^^ x.getLsbD n
theorem parN_xor (x y : W32) (n : Nat) : parN (x ^^^ y) n = (parN x n ^^ parN y n) := by
  induction n with
  | zero => rfl
  | succ n ih =>
    rw [parN, parN, parN, ih, BitVec.getLsbD_xor]
    cases parN x n <;> cases parN y n <;> cases x.getLsbD n <;> cases y.getLsbD n <;> rfl
theorem parN_shift (x : W32) (n : Nat) : (parN (x >>> 1) n ^^ x.getLsbD 0) = parN x (n + 1) := by
  induction n with
  | zero => simp [parN]
  | succ n ih =>
    have e : (x >>> 1).getLsbD n = x.getLsbD (n + 1) := by rw [BitVec.getLsbD_ushiftRight, Nat.add_comm]
    rw [parN, parN, ← ih, e]
    cases parN (x >>> 1) n <;> cases x.getLsbD 0 <;> cases x.getLsbD (n + 1) <;> rfl
def par (x : W32) : Bool := parN x 32
theorem par_xor (x y : W32) : par (x ^^^ y) = (par x ^^ par y) := parN_xor x y 32
theorem par_up (x : W32) : par (up x) = par x := by
  unfold up
  rw [par_xor]
  have h1 : par (x >>> 1) = parN (x >>> 1) 31 := by
    unfold par; rw [parN]
    have : (x >>> 1).getLsbD 31 = false := by rw [BitVec.getLsbD_ushiftRight]; exact BitVec.getLsbD_of_ge _ _ (by decide)
    rw [this, Bool.xor_false]
  have h2 := parN_shift x 31
  rw [h1]
  show _ = parN x (31 + 1)
  rw [← h2]
  have g0 : par 0#32 = false := by decide
  have g1 : par gen = true := by decide
  cases x.getLsbD 0
  · rw [if_neg (by simp), g0]
  · rw [if_pos rfl, g1]
theorem par_upn (n : Nat) (x : W32) : par (upn n x) = par x := by
  induction n with
  | zero => rfl
  | succ n ih => rw [upn, par_up, ih]
/-! ### one, two, three places -/
theorem upn_one_ne (n : Nat) : upn n one1 ≠ 0#32 := fun h => absurd (upn_eq_zero h) (by decide)
theorem upn_two_ne {m n : Nat} (hmn : m < n) (hd : n - m < ord) : upn m one1 ^^^ upn n one1 ≠ 0#32 := by
  intro h
  have h := xor_eq_zero h
  rw [show n = m + (n - m) by omega, upn_add] at h
  have h := upn_inj h
  rw [← upn31_one, upn_comm] at h
  have h := upn_inj h
  exact xpow_ne_one (by omega) hd h.symm
theorem upn_two_ne' {m n : Nat} (hmn : m ≠ n) (hm : m < ord) (hn : n < ord) : upn m one1 ^^^ upn n one1 ≠ 0#32 := by
  rcases Nat.lt_or_ge m n with h | h
  · exact upn_two_ne h (by omega)
  · rw [BitVec.xor_comm]; exact upn_two_ne (by omega) (by omega)
theorem upn_three_ne (l m n : Nat) : upn l one1 ^^^ upn m one1 ^^^ upn n one1 ≠ 0#32 := by
  intro h
  have := congrArg par h
  rw [par_xor, par_xor, par_upn, par_upn, par_upn] at this
  exact absurd this (by decide)
/-! ### a bit of a byte turned -/
def turnB (b : Int) (j : Nat) : Int := ((b.toNat ^^^ 2 ^ j : Nat) : Int)
theorem byteW_turn {b : Int} (h0 : 0 ≤ b) (h1 : b < 256) {j : Nat} (hj : j < 8) : byteW (turnB b j) = byteW b ^^^ BitVec.twoPow 32 j := by
  obtain ⟨n, rfl⟩ := Int.eq_ofNat_of_zero_le h0
  unfold turnB byteW
  rw [BitVec.ofInt_natCast, BitVec.ofInt_natCast, Int.toNat_natCast]
  apply BitVec.eq_of_toNat_eq
  have hp : 2 ^ j < 2 ^ 8 := Nat.pow_lt_pow_right (by decide) hj
  have hx : n ^^^ 2 ^ j < 2 ^ 8 := Nat.xor_lt_two_pow (by omega) hp
  have e : (2 : Nat) ^ j % 2 ^ 32 = 2 ^ j := Nat.mod_eq_of_lt (by omega)
  rw [BitVec.toNat_xor, BitVec.toNat_ofNat, BitVec.toNat_ofNat, BitVec.toNat_twoPow, e]
  rw [Nat.mod_eq_of_lt (by omega), Nat.mod_eq_of_lt (by omega)]
theorem turnB_range {b : Int} (h0 : 0 ≤ b) (h1 : b < 256) {j : Nat} (hj : j < 8) : 0 ≤ turnB b j ∧ turnB b j < 256 := by
  obtain ⟨n, rfl⟩ := Int.eq_ofNat_of_zero_le h0
  unfold turnB
  have hp : 2 ^ j < 2 ^ 8 := Nat.pow_lt_pow_right (by decide) hj
  have hx : n ^^^ 2 ^ j < 2 ^ 8 := Nat.xor_lt_two_pow (by omega) hp
  rw [Int.toNat_natCast]
  omega
/-- the text with bit 'at' turned -/
def turn (l : List Int) (at_ : Nat) : List Int := l.set (at_ / 8) (turnB (l.getD (at_ / 8) 0) (at_ % 8))
theorem turn_length (l : List Int) (a : Nat) : (turn l a).length = l.length := by unfold turn; rw [List.length_set]
theorem turn_bytes {l : List Int} (h : IsBytes l) {a : Nat} (ha : a < 8 * l.length) : IsBytes (turn l a) := by
  intro b hb
  unfold turn at hb
  rcases List.mem_or_eq_of_mem_set hb with h1 | h1
  · exact h b h1
  · subst h1
    have hi : a / 8 < l.length := by omega
    rw [List.getD_eq_getElem?_getD, List.getElem?_eq_getElem hi, Option.getD_some]
    obtain ⟨h2, h3⟩ := h _ (List.getElem_mem hi)
    exact turnB_range h2 h3 (Nat.mod_lt _ (by decide))
theorem run_turn (r : W32) {l : List Int} (h : IsBytes l) {a : Nat} (ha : a < 8 * l.length) : run r (turn l a) = run r l ^^^ upn (8 * l.length - a) one1 := by
  have hi : a / 8 < l.length := by omega
  unfold turn
  rw [List.getD_eq_getElem?_getD, List.getElem?_eq_getElem hi, Option.getD_some]
  obtain ⟨h2, h3⟩ := h _ (List.getElem_mem hi)
  have e0 : l = l.take (a / 8) ++ l[a / 8] :: l.drop (a / 8 + 1) := by rw [List.getElem_cons_drop, List.take_append_drop]
  have e1 : l.set (a / 8) (turnB l[a / 8] (a % 8)) = l.take (a / 8) ++ turnB l[a / 8] (a % 8) :: l.drop (a / 8 + 1) := by rw [List.set_eq_take_append_cons_drop, if_pos hi]
  have e2 : run r l = run (upn 8 (run r (l.take (a / 8)) ^^^ byteW l[a / 8])) (l.drop (a / 8 + 1)) := by
    conv => lhs; rw [e0]
    rw [run_append, run_cons]
  rw [e1, e2, run_append, run_cons, byteW_turn h2 h3 (Nat.mod_lt _ (by decide)), ← BitVec.xor_assoc, upn_xor 8, run_xor]
  congr 1
  rw [← upn_add, List.length_drop]
  have hj : a % 8 < 8 := Nat.mod_lt _ (by decide)
  have e3 : upn (8 * (l.length - (a / 8 + 1)) + 8) (BitVec.twoPow 32 (a % 8)) = upn (8 * l.length - a) (upn (a % 8) (BitVec.twoPow 32 (a % 8))) := by
    rw [← upn_add]; congr 1; omega
  rw [e3, upn_byte _ hj]
theorem turn_turn_same (l : List Int) (h : IsBytes l) (a : Nat) (ha : a < 8 * l.length) : turn (turn l a) a = l := by
  have hi : a / 8 < l.length := by omega
  obtain ⟨h2, h3⟩ := h _ (List.getElem_mem hi)
  unfold turn
  rw [List.set_set]
  have e : (l.set (a / 8) (turnB (l.getD (a / 8) 0) (a % 8))).getD (a / 8) 0 = turnB (l.getD (a / 8) 0) (a % 8) := by
    rw [List.getD_eq_getElem?_getD, List.getElem?_set_self hi, Option.getD_some]
  rw [e]
  have e2 : turnB (turnB (l.getD (a / 8) 0) (a % 8)) (a % 8) = l.getD (a / 8) 0 := by
    rw [List.getD_eq_getElem?_getD, List.getElem?_eq_getElem hi, Option.getD_some]
    unfold turnB
    rw [Int.toNat_natCast, Nat.xor_assoc, Nat.xor_self, Nat.xor_zero]
    omega
  rw [e2, List.getD_eq_getElem?_getD, List.getElem?_eq_getElem hi, Option.getD_some, List.set_getElem_self]
/-! ### what is sealed -/
theorem up_shr {y : W32} (h : y.getLsbD 0 = false) : up y = y >>> 1 := by unfold up; rw [h]; simp
def word4 (b0 b1 b2 b3 : Int) : W32 := byteW b0 ^^^ (byteW b1 <<< 8) ^^^ (byteW b2 <<< 16) ^^^ (byteW b3 <<< 24)
theorem byte_hi {b : Int} (h0 : 0 ≤ b) (h1 : b < 256) (i : Nat) (hi : 8 ≤ i) : (byteW b).getLsbD i = false := by
  obtain ⟨n, rfl⟩ := Int.eq_ofNat_of_zero_le h0
  unfold byteW
  rw [BitVec.ofInt_natCast, BitVec.getLsbD_ofNat]
  rw [Nat.testBit_lt_two_pow (Nat.lt_of_lt_of_le (show n < 2 ^ 8 by omega) (Nat.pow_le_pow_right (by decide) hi)), Bool.and_false]
theorem upn_shl {b : Int} (h0 : 0 ≤ b) (h1 : b < 256) (k : Nat) : ∀ m, k + m ≤ 24 → upn k (byteW b <<< (k + m)) = byteW b <<< m := by
  induction k with
  | zero => intro m hm; rw [Nat.zero_add]; rfl
  | succ k ih =>
    intro m hm
    rw [upn, show k + 1 + m = k + (m + 1) by omega, ih (m + 1) (by omega)]
    rw [up_shr (by rw [BitVec.getLsbD_shiftLeft]; simp)]
    refine w_ext fun i hi => ?_
    rw [BitVec.getLsbD_ushiftRight, BitVec.getLsbD_shiftLeft, BitVec.getLsbD_shiftLeft]
    by_cases h31 : i = 31
    · subst h31
      have e1 : (byteW b).getLsbD (31 - m) = false := byte_hi h0 h1 _ (by omega)
      simp [e1]
    · have e1 : 1 + i < 32 := by omega
      have e2 : (1 + i < m + 1) = (i < m) := by apply propext; omega
      have e3 : 1 + i - (m + 1) = i - m := by omega
      simp [e1, hi, e3]
      rw [show decide (1 + i < m + 1) = decide (i < m) from by rw [decide_eq_decide]; omega]
theorem run_word4 (r : W32) {b0 b1 b2 b3 : Int} (h : IsBytes [b0, b1, b2, b3]) : run r [b0, b1, b2, b3] = upn 32 (r ^^^ word4 b0 b1 b2 b3) := by
  obtain ⟨p1, q1⟩ := h b1 (by simp)
  obtain ⟨p2, q2⟩ := h b2 (by simp)
  obtain ⟨p3, q3⟩ := h b3 (by simp)
  have e1 : upn 32 (byteW b1 <<< 8) = upn 24 (byteW b1) := by
    have := upn_shl p1 q1 8 0 (by omega)
    simp only [Nat.add_zero, BitVec.shiftLeft_zero] at this
    exact (upn_add 24 8 _).trans (by rw [this])
  have e2 : upn 32 (byteW b2 <<< 16) = upn 16 (byteW b2) := by
    have := upn_shl p2 q2 16 0 (by omega)
    simp only [Nat.add_zero, BitVec.shiftLeft_zero] at this
    exact (upn_add 16 16 _).trans (by rw [this])
  have e3 : upn 32 (byteW b3 <<< 24) = upn 8 (byteW b3) := by
    have := upn_shl p3 q3 24 0 (by omega)
    simp only [Nat.add_zero, BitVec.shiftLeft_zero] at this
    exact (upn_add 8 24 _).trans (by rw [this])
  rw [run_cons, run_cons, run_cons, run_cons, run_nil]
  unfold word4
  rw [← BitVec.xor_assoc, ← BitVec.xor_assoc, ← BitVec.xor_assoc, upn_xor 32, upn_xor 32, upn_xor 32, e1, e2, e3]
  simp only [upn_xor 8]
  simp only [← upn_add, Nat.reduceAdd, upn_xor 32]
end Go.Proofs.Ytcaljnlicohkaaa
