import Derived.Test.YtcaljnlicohkaaaCrcC
import Derived.Test.YtcaljnlicohkaaaCrcFlip
namespace Go.Proofs.Ytcaljnlicohkaaa
open Go.RowKit
set_option maxRecDepth 100000
set_option linter.unusedVariables false
theorem u32_signed : IntKind.u32.signed = false := rfl
theorem not_I (x : W32) : bits .xor .u32 IntKind.u32.max (I x) = I (x ^^^ ones) := by
  rw [xor_i, b32_I, show b32 IntKind.u32.max = ones from by decide, BitVec.xor_comm]
theorem xorOnes_I (x : W32) : bits .xor .u32 (I x) 4294967295 = I (x ^^^ ones) := by
  rw [xor_i, b32_I, show b32 4294967295 = ones from by decide]
theorem xorTop_I (x : W32) : bits .xor .u32 (I x) 2147483648 = I (x ^^^ one32) := by
  rw [xor_i, b32_I, show b32 2147483648 = one32 from by decide]
theorem ofInt_natCast_lt {w n : Nat} (h : n < 2 ^ w) : (BitVec.ofInt w (n : Int)).toNat = n := by
  rw [BitVec.ofInt_natCast, BitVec.toNat_ofNat, Nat.mod_eq_of_lt h]
theorem and1_u8 (n : Nat) (hn : n < 256) : bits .and .u8 (n : Int) 1 = ((n % 2 : Nat) : Int) :=
  and1_nat .u8 (by decide) (fun n h0 h1 => by rw [IntKind.wrap_u8']; omega) n hn
theorem bit8_i {c : Int} (h0 : 0 ≤ c) (h1 : c < 256) (j : Nat) (hj : j < 8) : (bits .and .u8 (c / (2 : Int) ^ j) 1 == 1) = (byteW c).getLsbD j := by
  obtain ⟨n, rfl⟩ := Int.eq_ofNat_of_zero_le h0
  have e : ((n : Int) / (2 : Int) ^ j) = ((n / 2 ^ j : Nat) : Int) := by rw [Int.natCast_ediv, Int.natCast_pow]; rfl
  rw [e, and1_u8 _ (Nat.lt_of_le_of_lt (Nat.div_le_self _ _) (by omega))]
  unfold byteW
  rw [BitVec.ofInt_natCast, BitVec.getLsbD_ofNat, Nat.testBit_eq_decide_div_mod_eq, Bool.eq_iff_iff, beq_iff_eq]
  simp only [show j < 32 by omega, decide_true, Bool.true_and, decide_eq_true_iff]
  omega
theorem word_of {r : Int} (r0 : 0 ≤ r) (r1 : r < 4294967296) : ∃ x, r = I x := ⟨b32 r, (I_b32 r0 r1).symm⟩
theorem bel_trans {w w1 w2 : World} (h : Below w.heap.size w w1) (h2 : Below w1.heap.size w1 w2) : Below w.heap.size w w2 := h.trans (h2.mono h.size)
/-! ### slices, asked about -/
section
variable {P : Program}
theorem RdC.len {size n : Nat} {cs : List Value} {w : World} {v : Value} (h : RdC size w v n cs) (t e ty : TypeId) (ht : P.underlying t = some (.slice e)) (W : World) : (Builtin.len_ #[t] ty #[v]).run P W = .ok (.int .i64 n) W := by
  obtain ⟨_, A, cap, rfl, _⟩ := h
  simp [Builtin.len_, run_underlying ht, goInt]
theorem Rd.str {w : World} {v : Value} {l : List Int} (h : Rd w v l) (src e dst : TypeId) (hs : P.underlying src = some (.slice e)) (he : P.underlying e = some (.int .u8)) (hd : P.underlying dst = some .string) :
    (convert src dst v).run P w = .ok (.string (strOfNums l)) w := by
  obtain ⟨A, cap, rfl, hn, hm, hA, hc⟩ := h.form
  cases A with
  | none =>
    have := hA rfl
    obtain rfl : l = [] := List.eq_nil_of_length_eq_zero (by omega)
    exact run_convert_bytes_nil w src e hs he _ _ dst hd
  | some a =>
    rcases Nat.eq_zero_or_pos l.length with h0 | h0
    · obtain rfl : l = [] := List.eq_nil_of_length_eq_zero h0
      rw [run_convert_bytes_string w src dst e _ _ _ hs he hd]
      simp [Conv.bytesToString, strOfNums, loadCells, loadCellsFrom]
      rfl
    · obtain ⟨b, off, ha, _⟩ := hc 0 h0
      injection ha with ha
      subst ha
      refine run_convert_bytes_arg w src e hs he b off l.length cap l rfl (fun i hi => ?_) dst hd
      obtain ⟨b', off', ha, hcell⟩ := hc i hi
      injection ha with ha
      injection ha with e1 e2
      subst e1; subst e2
      exact hcell
end
theorem str_eq {l m : List Int} (hl : IsBytes l) (hm : IsBytes m) : ((strOfNums l).toList == (strOfNums m).toList) = decide (l = m) := by
  rw [ByteArray.toList_eq, ByteArray.toList_eq, strOfNums_data, strOfNums_data, Bool.eq_iff_iff, beq_iff_eq, decide_eq_true_iff]
  constructor
  · intro h
    induction l generalizing m with
    | nil => cases m with
      | nil => rfl
      | cons b m => simp at h
    | cons a l ih => cases m with
      | nil => simp at h
      | cons b m =>
        rw [List.map_cons, List.map_cons, List.cons.injEq] at h
        obtain ⟨a0, a1⟩ := hl a (List.mem_cons_self ..)
        obtain ⟨b0, b1⟩ := hm b (List.mem_cons_self ..)
        have e : a = b := by
          have := congrArg UInt8.toNat h.1
          rw [UInt8.toNat_ofNat', UInt8.toNat_ofNat'] at this
          omega
        rw [e, ih (fun x hx => hl x (List.mem_cons_of_mem _ hx)) (fun x hx => hm x (List.mem_cons_of_mem _ hx)) h.2]
  · intro h; rw [h]
attribute [local go_sem] u32_signed not_I xorOnes_I
/-! ### the division, bit by bit -/
theorem bits8_length (b : Int) : (bits8 b).length = 8 := by unfold bits8; rw [List.length_map, List.length_range]
theorem bitsOf_length (l : List Int) : (bitsOf l).length = 8 * l.length := by
  induction l with
  | nil => rfl
  | cons b l ih => rw [bitsOf, List.flatMap_cons, List.length_append, bits8_length, List.length_cons]; unfold bitsOf at ih; rw [ih]; omega
theorem bitsOf_get (l : List Int) : ∀ i, i < 8 * l.length → (bitsOf l)[i]? = some ((byteW (l.getD (i / 8) 0)).getLsbD (i % 8)) := by
  induction l with
  | nil => intro i hi; simp at hi
  | cons b l ih =>
    intro i hi
    rw [bitsOf, List.flatMap_cons]
    by_cases h8 : i < 8
    · rw [List.getElem?_append_left (by rw [bits8_length]; exact h8), show i / 8 = 0 by omega, show i % 8 = i by omega]
      unfold bits8
      rw [List.getElem?_map, List.getElem?_range h8]
      rfl
    · rw [List.getElem?_append_right (by rw [bits8_length]; omega), bits8_length]
      have := ih (i - 8) (by rw [List.length_cons] at hi; omega)
      unfold bitsOf at this
      rw [this, show i / 8 = (i - 8) / 8 + 1 by omega, show (i - 8) % 8 = i % 8 by omega, List.getD_cons_succ]
def remF (l : List Int) : Nat → W32
  | 0 => 0#32
  | k + 1 => up (remF l k) ^^^ (if k < 8 * l.length ∧ (byteW (l.getD (k / 8) 0)).getLsbD (k % 8) = true then one32 else 0#32)
theorem remF_take (l : List Int) (k : Nat) (hk : k ≤ 8 * l.length) : remF l k = remB 0#32 ((bitsOf l).take k) := by
  induction k with
  | zero => rfl
  | succ k ih =>
    have hg := bitsOf_get l k (by omega)
    rw [remF, ih (by omega), List.take_add_one, hg, remB_append]
    simp only [Option.toList, show k < 8 * l.length by omega, true_and]
    rfl
theorem remF_more (l : List Int) (j : Nat) : remF l (8 * l.length + j) = upn j (remF l (8 * l.length)) := by
  induction j with
  | zero => rfl
  | succ j ih =>
    rw [← Nat.add_assoc, remF, ih, if_neg (by omega), BitVec.xor_zero]
    rfl
theorem remF_end (l : List Int) (h : IsBytes l) : remF l (8 * l.length + 32) = run 0#32 l := by
  rw [remF_more, remF_take l _ (Nat.le_refl _), List.take_of_length_le (by rw [bitsOf_length]; exact Nat.le_refl _), run_rem l h]
end Go.Proofs.Ytcaljnlicohkaaa
