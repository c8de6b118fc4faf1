import Derived.Test.YtilmmohkdgmhnaaCrcD
namespace Go.Proofs.Ytilmmohkdgmhnaa
open Go.RowKit
set_option maxRecDepth 100000
set_option linter.unusedVariables false
attribute [local go_sem] u32_signed not_I xorOnes_I
theorem drop_head {α : Type} (d : α) (l : List α) {k : Nat} (h : k < l.length) : l.drop k = l.getD k d :: l.drop (k + 1) := by
  rw [List.getD_eq_getElem?_getD, List.getElem?_eq_getElem h, Option.getD_some, List.getElem_cons_drop]
theorem crc_Sum_any (v : Value) (xss : List (List Int)) (w : World) (HR : RdL w v xss) :
    Calls Try.prog 46 #[v] w fun e w' => e = .returned (.int .u32 (I (sumW xss.flatten))) ∧ Below w.heap.size w w' := by
  obtain ⟨A, cap, rfl, hn, hm, _, hc⟩ := HR.form
  clear HR
  unfold maxLen at hm
  go_enter Try.func46, Try.ntmps46
  go_wp2
  go_loopw [3, 8] (fun vr vi wr => ∃ (k : Nat) (x : W32), k ≤ xss.length ∧ vr = .int .u32 (I x) ∧ vi = .int .i64 k ∧ Hid (run x (xss.drop k).flatten = run ones xss.flatten) ∧ Below w.heap.size w wr) (fun _ i _ => xss.length - (intOf i).toNat)
  case atStart => exact ⟨0, ones, Nat.zero_le _, rfl, rfl, rfl, Below.refl _ _⟩
  case round =>
    obtain ⟨k, x, hk, rfl, rfl, H, hbel⟩ := hrel
    by_cases hlt : k < xss.length
    · obtain ⟨b, off, u, rfl, hcell0, hu0⟩ := hc k hlt
      have hcell := cell_keep hbel hcell0
      have hu := hu0.keep hbel
      have H2 : Hid (run (run x (xss.getD k [])) (xss.drop (k + 1)).flatten = run ones xss.flatten) := by
        have := H.out
        rw [drop_head [] xss hlt, List.flatten_cons, run_append] at this
        exact this
      clear hc H hcell0 hu0
      generalize xss.getD k [] = p at *
      go_wp2_with (go_at_call 59; refine (crc_run_any _ (I_lo _) (I_hi _) _ _ _ hu).mono ?_; rintro e w' ⟨rfl, hb⟩)
      go_roundw
      case rel => exact ⟨k + 1, _, by omega, by rw [b32_I], by go_num, H2, bel_trans hbel hb⟩
      case measure => (simp [intOf]; try omega)
    · obtain rfl : k = xss.length := by omega
      have H2 := H.out
      rw [List.drop_length] at H2
      have H3 : x = run ones xss.flatten := H2
      subst H3
      clear hc H H2
      go_wp2
      go_ret
      exact ⟨rfl, hbel⟩
theorem laid_facts (a : Int) : True := trivial
theorem ref_Power_int (n : Int) (h0 : 0 ≤ n) (h1 : n ≤ 9223372036854775807) (w : World) : Calls Try.prog 68 #[.int .u64 n] w fun e w' => e = .returned (.int .u32 (I (xpow n.toNat))) ∧ w = w' := by
  obtain ⟨m, rfl⟩ := Int.eq_ofNat_of_zero_le h0
  have := ref_Power_any m (by unfold Lt64; omega) w
  rw [Nat.one_mul] at this
  exact this
theorem sq3 (n : Nat) (j : Nat) (x : W32) (h : x = xpow (2 ^ j * n)) : mul x x = xpow (2 ^ (j + 1) * n) := by
  subst h; rw [xpow_add, Nat.pow_succ, Nat.mul_comm (2 ^ j) 2, Nat.mul_assoc, Nat.two_mul]
/-! ### Zeros, Join -/
attribute [local go_sem] xor_I
/-! ### the document's Sum, More -/
theorem eight_len {l : List Int} : (8 * (l.length : Int)).toNat = 8 * l.length := by omega
theorem ref_Sum_any (v : Value) (l : List Int) (w : World) (HR : Rd w v l) (hl : l.length ≤ 281474976710656) :
    Calls Try.prog 63 #[v] w fun e w' => e = .returned (.int .u32 (I (sumW l))) ∧ w = w' := by
  have hlen := HR.2.len (P := Try.prog) 24 5 3 Try.underlying24
  have hfin : Hid (run 0#32 l ^^^ mul ones (xpow (8 * l.length)) ^^^ ones = sumW l) := hd_ (by unfold sumW; rw [mul_xpow, ← run_start])
  go_enter Try.func63, Try.ntmps63
  go_wp2_with (first | (go_at_call 68; refine (ref_Power_int _ (by omega) (by omega) _).mono ?_; rintro e w' ⟨rfl, rfl⟩) | (go_at_call 67; refine (ref_Mul_any _ _ (by omega) (by omega) (I_lo _) (I_hi _) _).mono ?_; rintro e w' ⟨rfl, rfl⟩) | (go_at_call 69; refine (ref_rem_any _ l _ HR hl).mono ?_; rintro e w' ⟨rfl, rfl⟩))
  go_ret
  exact ⟨by rw [← hfin.out]; simp only [b32_I, eight_len]; rfl, rfl⟩
end Go.Proofs.Ytilmmohkdgmhnaa
