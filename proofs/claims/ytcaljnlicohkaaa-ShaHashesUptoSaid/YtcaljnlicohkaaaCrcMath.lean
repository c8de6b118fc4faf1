/- Plain laws on words of 32 bits as polynomials modulo the generator: no program in sight. -/
namespace Go.Proofs.Ytcaljnlicohkaaa

abbrev W32 := BitVec 32
def gen : W32 := 0x82f63b78#32
def one32 : W32 := 0x80000000#32
def up (a : W32) : W32 := (a >>> 1) ^^^ (if a.getLsbD 0 then gen else 0#32)

theorem w_ext {a b : W32} (h : ∀ i, i < 32 → a.getLsbD i = b.getLsbD i) : a = b := BitVec.eq_of_getLsbD_eq h

theorem xor4 (x y g h : W32) : (x ^^^ g) ^^^ (y ^^^ h) = (x ^^^ y) ^^^ (g ^^^ h) := by
  rw [BitVec.xor_assoc, BitVec.xor_assoc, ← BitVec.xor_assoc g y h, BitVec.xor_comm g y, BitVec.xor_assoc y g h]

theorem up_xor (a b : W32) : up (a ^^^ b) = up a ^^^ up b := by
  unfold up
  rw [BitVec.ushiftRight_xor_distrib, BitVec.getLsbD_xor, xor4]
  cases a.getLsbD 0 <;> cases b.getLsbD 0 <;> simp
theorem up_zero : up 0#32 = 0#32 := by decide

theorem up_top (a : W32) : (up a).getLsbD 31 = a.getLsbD 0 := by
  unfold up
  rw [BitVec.getLsbD_xor, BitVec.getLsbD_ushiftRight]
  have : a.getLsbD (1 + 31) = false := BitVec.getLsbD_of_ge _ _ (by decide)
  rw [this]
  cases a.getLsbD 0 <;> decide
theorem up_eq_zero {a : W32} (h : up a = 0#32) : a = 0#32 := by
  have h0 : a.getLsbD 0 = false := by rw [← up_top, h]; decide
  have h1 : a >>> 1 = 0#32 := by
    unfold up at h; rw [h0] at h; simpa using h
  refine w_ext fun i hi => ?_
  cases i with
  | zero => rw [h0]; decide
  | succ i =>
    have := congrArg (fun x : W32 => x.getLsbD i) h1
    simp only [BitVec.getLsbD_ushiftRight] at this
    rw [Nat.add_comm]; rw [this]; simp
theorem xor_eq_zero {a b : W32} (h : a ^^^ b = 0#32) : a = b := by
  have := congrArg (· ^^^ b) h
  simpa [BitVec.xor_assoc] using this
theorem up_inj {a b : W32} (h : up a = up b) : a = b := by
  apply xor_eq_zero
  apply up_eq_zero
  rw [up_xor, h, BitVec.xor_self]

def upn : Nat → W32 → W32
  | 0, a => a
  | n + 1, a => up (upn n a)
theorem upn_zero_right (n : Nat) : upn n 0#32 = 0#32 := by
  induction n with
  | zero => rfl
  | succ n ih => rw [upn, ih, up_zero]
theorem upn_xor (n : Nat) (a b : W32) : upn n (a ^^^ b) = upn n a ^^^ upn n b := by
  induction n with
  | zero => rfl
  | succ n ih => rw [upn, upn, upn, ih, up_xor]
theorem upn_add (m n : Nat) (a : W32) : upn (m + n) a = upn m (upn n a) := by
  induction m with
  | zero => rw [Nat.zero_add]; rfl
  | succ m ih => rw [Nat.succ_add, upn, upn, ih]
theorem upn_comm (m n : Nat) (a : W32) : upn m (upn n a) = upn n (upn m a) := by
  rw [← upn_add, ← upn_add, Nat.add_comm]
theorem upn_up (n : Nat) (a : W32) : upn n (up a) = up (upn n a) := upn_comm n 1 a
theorem upn_inj {n : Nat} {a b : W32} (h : upn n a = upn n b) : a = b := by
  induction n with
  | zero => exact h
  | succ n ih => exact ih (up_inj h)
theorem upn_eq_zero {n : Nat} {a : W32} (h : upn n a = 0#32) : a = 0#32 := upn_inj (n := n) (by rw [h, upn_zero_right])

/-! ### products -/
def mulL (b : W32) : Nat → W32 → W32 → W32
  | 0, p, _ => p
  | k + 1, p, a => mulL b k (if b.getLsbD k then p ^^^ a else p) (up a)
def mul (a b : W32) : W32 := mulL b 32 0#32 a

theorem mulL_map (F : W32 → W32) (hx : ∀ a b, F (a ^^^ b) = F a ^^^ F b) (hu : ∀ a, F (up a) = up (F a)) (b : W32) (k : Nat) : ∀ p a, F (mulL b k p a) = mulL b k (F p) (F a) := by
  induction k with
  | zero => intro p a; rfl
  | succ k ih =>
    intro p a
    rw [mulL, mulL, ih, hu]
    cases b.getLsbD k <;> simp [hx]
theorem mulL_xor (b : W32) (k : Nat) : ∀ p q a c, mulL b k (p ^^^ q) (a ^^^ c) = mulL b k p a ^^^ mulL b k q c := by
  induction k with
  | zero => intro p q a c; rfl
  | succ k ih =>
    intro p q a c
    rw [mulL, mulL, mulL, up_xor, ← ih]
    cases b.getLsbD k <;> simp [xor4]
theorem mul_xor_left (a c b : W32) : mul (a ^^^ c) b = mul a b ^^^ mul c b := by
  unfold mul
  have := mulL_xor b 32 0#32 0#32 a c
  simpa using this
theorem mul_up (a b : W32) : mul (up a) b = up (mul a b) := by
  unfold mul
  rw [mulL_map up up_xor (fun _ => rfl), up_zero]
theorem mulL_zero (b : W32) (k : Nat) : mulL b k 0#32 0#32 = 0#32 := by
  induction k with
  | zero => rfl
  | succ k ih => rw [mulL, up_zero]; cases b.getLsbD k <;> simpa using ih
theorem zero_mul (b : W32) : mul 0#32 b = 0#32 := mulL_zero b 32
theorem mul_upn (n : Nat) (a b : W32) : mul (upn n a) b = upn n (mul a b) := by
  induction n with
  | zero => rfl
  | succ n ih => rw [upn, mul_up, ih]; rfl
theorem up_twoPow : ∀ k, k < 32 → 0 < k → up (BitVec.twoPow 32 k) = BitVec.twoPow 32 (k - 1) := by decide
theorem mulL_acc (b : W32) (k : Nat) (p a : W32) : mulL b k p a = p ^^^ mulL b k 0#32 a := by
  have := mulL_xor b k p 0#32 0#32 a
  simp only [BitVec.xor_zero, BitVec.zero_xor] at this
  rw [this]
  congr 1
  clear this
  induction k with
  | zero => rfl
  | succ k ih => rw [mulL, up_zero]; cases b.getLsbD k <;> simpa using ih
theorem mulL_base (b : W32) (k : Nat) (hk : k ≤ 32) : ∀ j, j < 32 → (mulL b k 0#32 (BitVec.twoPow 32 (k - 1))).getLsbD j = (decide (j < k) && b.getLsbD j) := by
  induction k with
  | zero => intro j hj; simp [mulL]
  | succ k ih =>
    intro j hj
    rw [mulL, mulL_acc]
    have e : mulL b k 0#32 (up (BitVec.twoPow 32 (k + 1 - 1))) = mulL b k 0#32 (BitVec.twoPow 32 (k - 1)) := by
      cases k with
      | zero => rfl
      | succ k => rw [up_twoPow (k + 1 + 1 - 1) (by omega) (by omega)]; rfl
    rw [e, BitVec.getLsbD_xor, ih (by omega) j hj]
    have e2 : (if b.getLsbD k = true then 0#32 ^^^ BitVec.twoPow 32 (k + 1 - 1) else 0#32).getLsbD j = (b.getLsbD k && decide (k = j)) := by
      cases b.getLsbD k
      · simp
      · simp [BitVec.getLsbD_twoPow]; omega
    rw [e2]
    by_cases h1 : k = j
    · subst h1; simp
    · by_cases h2 : j < k
      · simp [h1, h2, show j < k + 1 by omega]
      · simp [h1, h2, show ¬ j < k + 1 by omega]
theorem one_mul (b : W32) : mul one32 b = b := by
  refine w_ext fun j hj => ?_
  have := mulL_base b 32 (by omega) j hj
  rw [show (BitVec.twoPow 32 (32 - 1)) = one32 from by decide] at this
  unfold mul
  rw [this]; simp [hj]
theorem mul_comm (a b : W32) : mul a b = mul b a := by
  have h := mulL_map (fun x => mul x b) (fun x y => mul_xor_left x y b) (fun x => mul_up x b) a 32 0#32 one32
  simp only [zero_mul, one_mul] at h
  have e : mulL a 32 0#32 one32 = a := one_mul a
  rw [e] at h
  exact h
theorem mul_right_comm (a b c : W32) : mul (mul a b) c = mul (mul a c) b := by
  have h := mulL_map (fun x => mul x c) (fun x y => mul_xor_left x y c) (fun x => mul_up x c) b 32 0#32 a
  simp only [zero_mul] at h
  exact h
theorem mul_assoc (a b c : W32) : mul (mul a b) c = mul a (mul b c) := by
  rw [mul_comm a b, mul_right_comm, mul_comm]
theorem mul_one (a : W32) : mul a one32 = a := by rw [mul_comm, one_mul]
theorem mul_xor_right (a b c : W32) : mul a (b ^^^ c) = mul a b ^^^ mul a c := by
  rw [mul_comm, mul_xor_left, mul_comm b, mul_comm c]

/-! ### powers -/
def xpow (n : Nat) : W32 := upn n one32
theorem mul_xpow (a : W32) (n : Nat) : mul a (xpow n) = upn n a := by
  rw [mul_comm]; unfold xpow; rw [mul_upn, one_mul]
theorem xpow_add (m n : Nat) : mul (xpow m) (xpow n) = xpow (m + n) := by
  rw [mul_xpow]; unfold xpow; rw [← upn_add, Nat.add_comm]
def pw (x : W32) : Nat → W32
  | 0 => one32
  | n + 1 => mul (pw x n) x
theorem pw_xpow (k n : Nat) : pw (xpow k) n = xpow (k * n) := by
  induction n with
  | zero => rfl
  | succ n ih => rw [pw, ih, xpow_add]; rfl
theorem pw_two (x : W32) (n : Nat) : pw (mul x x) n = pw x (2 * n) := by
  induction n with
  | zero => rfl
  | succ n ih => rw [pw, ih]; show _ = mul (mul (pw x (2 * n)) x) x; rw [mul_assoc]
theorem pw_half (x p : W32) (n : Nat) : mul p (pw x n) = mul (if n % 2 = 1 then mul p x else p) (pw (mul x x) (n / 2)) := by
  rw [pw_two]
  by_cases h : n % 2 = 1
  · rw [if_pos h]
    have e : n = 2 * (n / 2) + 1 := by omega
    rw [e, show 2 * ((2 * (n / 2) + 1) / 2) = 2 * (n / 2) by omega]
    rw [pw, ← mul_assoc, mul_right_comm]
  · rw [if_neg h, show 2 * (n / 2) = n by omega]

/-! ### the register -/
def byteW (b : Int) : W32 := BitVec.ofInt 32 b
def run (r : W32) (l : List Int) : W32 := l.foldl (fun r b => upn 8 (r ^^^ byteW b)) r
theorem run_nil (r : W32) : run r [] = r := rfl
theorem run_cons (r : W32) (b : Int) (l : List Int) : run r (b :: l) = run (upn 8 (r ^^^ byteW b)) l := rfl
theorem run_append (r : W32) (l m : List Int) : run r (l ++ m) = run (run r l) m := by unfold run; rw [List.foldl_append]
theorem run_xor (l : List Int) : ∀ r s, run (r ^^^ s) l = run r l ^^^ upn (8 * l.length) s := by
  induction l with
  | nil => intro r s; rfl
  | cons b l ih =>
    intro r s
    rw [run_cons, run_cons, show r ^^^ s ^^^ byteW b = (r ^^^ byteW b) ^^^ s from by rw [BitVec.xor_assoc, BitVec.xor_comm s, ← BitVec.xor_assoc], upn_xor, ih, ← upn_add, List.length_cons]
    congr 2
def ones : W32 := 0xffffffff#32
def sumW (l : List Int) : W32 := run ones l ^^^ ones
theorem run_start (r : W32) (l : List Int) : run r l = run 0#32 l ^^^ upn (8 * l.length) r := by
  have := run_xor l 0#32 r
  rwa [BitVec.zero_xor] at this

/-! ### bit by bit -/
def one1 : W32 := 1#32
def regB (r : W32) (bs : List Bool) : W32 := bs.foldl (fun r c => up (r ^^^ (if c then one1 else 0#32))) r
def remB (r : W32) (bs : List Bool) : W32 := bs.foldl (fun r c => up r ^^^ (if c then one32 else 0#32)) r
def bits8 (b : Int) : List Bool := (List.range 8).map fun j => (byteW b).getLsbD j
def bitsOf (l : List Int) : List Bool := l.flatMap bits8
theorem regB_append (r : W32) (l m : List Bool) : regB r (l ++ m) = regB (regB r l) m := by unfold regB; rw [List.foldl_append]
theorem remB_append (r : W32) (l m : List Bool) : remB r (l ++ m) = remB (remB r l) m := by unfold remB; rw [List.foldl_append]
theorem upn31_one : upn 31 one32 = one1 := by decide
theorem regB_rem (bs : List Bool) : ∀ R, regB (upn 32 R) bs = upn 32 (remB R bs) := by
  induction bs with
  | nil => intro R; rfl
  | cons c bs ih =>
    intro R
    show regB (up (upn 32 R ^^^ _)) bs = upn 32 (remB (up R ^^^ _) bs)
    rw [← ih]
    congr 1
    rw [up_xor, upn_xor, upn_up]
    congr 1
    cases c
    · simp [up_zero, upn_zero_right]
    · simp only [if_true]
      rw [← upn31_one]; rfl
theorem upn_byte : ∀ j, j < 8 → upn j (BitVec.twoPow 32 j) = one1 := by decide
/-- the low j bits of a byte -/
def lowB (b : W32) (j : Nat) : W32 := b &&& (BitVec.twoPow 32 j - 1#32)
theorem lowB_succ (b : W32) : ∀ j, j < 8 → lowB b (j + 1) = lowB b j ^^^ (if b.getLsbD j then BitVec.twoPow 32 j else 0#32) := by
  intro j hj
  have H : ∀ j, j < 8 → ∀ i, i < 32 → (BitVec.twoPow 32 (j + 1) - 1#32).getLsbD i = ((BitVec.twoPow 32 j - 1#32).getLsbD i ^^ decide (j = i)) ∧ ((BitVec.twoPow 32 j - 1#32).getLsbD i = true → j ≠ i) := by decide
  refine w_ext fun i hi => ?_
  unfold lowB
  obtain ⟨h1, h2⟩ := H j hj i hi
  rw [BitVec.getLsbD_and, BitVec.getLsbD_xor, BitVec.getLsbD_and, h1]
  by_cases e : j = i
  · subst e
    have h3 : (BitVec.twoPow 32 j - 1#32).getLsbD j = false := by
      cases h : (BitVec.twoPow 32 j - 1#32).getLsbD j
      · rfl
      · exact absurd rfl (h2 h)
    rw [h3]
    cases b.getLsbD j <;> simp [hi]
  · cases b.getLsbD j <;> simp [BitVec.getLsbD_twoPow, e]
theorem regB_low (r b : W32) (j : Nat) (hj : j ≤ 8) : regB r ((List.range j).map fun j => b.getLsbD j) = upn j (r ^^^ lowB b j) := by
  induction j with
  | zero => show r = r ^^^ (b &&& (BitVec.twoPow 32 0 - 1#32)); rw [show (BitVec.twoPow 32 0 - 1#32) = 0#32 from by decide]; simp
  | succ j ih =>
    rw [List.range_succ, List.map_append, regB_append, ih (by omega), lowB_succ b j (by omega)]
    show up (upn j (r ^^^ lowB b j) ^^^ _) = _
    rw [upn, ← BitVec.xor_assoc, upn_xor j (r ^^^ lowB b j)]
    congr 2
    by_cases hb : b.getLsbD j = true
    · simp only [hb, if_true]; rw [upn_byte j (by omega)]
    · simp [hb, upn_zero_right]
theorem lowB_byte (b : Int) (h0 : 0 ≤ b) (h1 : b < 256) : lowB (byteW b) 8 = byteW b := by
  unfold lowB byteW
  obtain ⟨n, rfl⟩ := Int.eq_ofNat_of_zero_le h0
  rw [BitVec.ofInt_natCast]
  apply BitVec.eq_of_toNat_eq
  rw [BitVec.toNat_and, show (BitVec.twoPow 32 8 - 1#32).toNat = 2 ^ 8 - 1 from by decide, Nat.and_two_pow_sub_one_eq_mod, BitVec.toNat_ofNat]
  omega
theorem regB_bits8 (r : W32) (b : Int) (h0 : 0 ≤ b) (h1 : b < 256) : regB r (bits8 b) = upn 8 (r ^^^ byteW b) := by
  unfold bits8
  rw [regB_low _ _ 8 (by omega), lowB_byte b h0 h1]
def IsBytes (l : List Int) : Prop := ∀ b ∈ l, 0 ≤ b ∧ b < 256
theorem regB_bitsOf (l : List Int) (h : IsBytes l) : ∀ r, regB r (bitsOf l) = run r l := by
  induction l with
  | nil => intro r; rfl
  | cons b l ih =>
    intro r
    obtain ⟨h0, h1⟩ := h b (List.mem_cons_self ..)
    rw [bitsOf, List.flatMap_cons, regB_append, regB_bits8 r b h0 h1, run_cons]
    exact ih (fun x hx => h x (List.mem_cons_of_mem _ hx)) _
theorem run_rem (l : List Int) (h : IsBytes l) : run 0#32 l = upn 32 (remB 0#32 (bitsOf l)) := by
  rw [← regB_bitsOf l h, ← regB_rem, upn_zero_right]

end Go.Proofs.Ytcaljnlicohkaaa
