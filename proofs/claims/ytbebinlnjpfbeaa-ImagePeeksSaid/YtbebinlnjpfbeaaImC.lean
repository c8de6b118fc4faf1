/- The law ImagePeeks. -/
import Derived.Test.YtbebinlnjpfbeaaImB
namespace Go.Proofs.Ytbebinlnjpfbeaa
open Go.RowKit
set_option maxRecDepth 100000
set_option linter.unusedVariables false
theorem hd_pk (B : List Int) : (pkA B).1 = (hdA B).1 ∧ (pkA B).2.1 = (hdA B).2.1 ∧ (pkA B).2.2.2 = (hdA B).2.2.2 ∧ ((hdA B).2.2.2 = 0 → (hdA B).2.2.1 = (B.length : Int) - (pkA B).2.2.1) := by
  unfold hdA pkA
  split
  · exact ⟨rfl, rfl, rfl, fun h => absurd h (by decide)⟩
  split
  · exact ⟨rfl, rfl, rfl, fun h => absurd h (by decide)⟩
  · exact ⟨rfl, rfl, rfl, fun _ => by simp only; omega⟩
set_option maxHeartbeats 2000000 in
theorem X_Room_any (v : Value) (B : List Int) (w : World) (HR : Rd w v B) (hl : B.length ≤ 140737488351241) :
    Calls Try.prog 8 #[v] w fun e w' => e = .returned (.int .i64 (rmA B)) ∧ Below w.heap.size w w' := by
  have hH := hd_ (X_Peek_any v B w HR hl)
  have hlen := HR.2.len (P := Try.prog) 22 5 3 Try.underlying22
  obtain ⟨h1, h2, h3, h4⟩ := hdA_lo B HR.1
  obtain ⟨k1, k2, k3, k4⟩ := hd_pk B
  unfold rmA
  clear HR
  generalize hdA B = R at *
  obtain ⟨s, n, left, err⟩ := R
  generalize pkA B = R2 at *
  obtain ⟨s2, n2, at2, err2⟩ := R2
  simp only at h1 h2 h3 h4 hH k1 k2 k3 k4 ⊢
  subst k1; subst k2; subst k3
  by_cases h0 : err2 = 0
  · subst h0
    have k5 := k4 rfl
    rw [if_neg (by simp)]
    obtain ⟨z, hz⟩ : ∃ z, z = min n2 (max (left - 4) 0 / 4) := ⟨_, rfl⟩
    rw [← hz]
    have hzH := hd_ hz
    have hw1 : wrap64 ((B.length : Int) - at2) = left := by unfold wrap64; omega
    have hw1b : (B.length : Int) - at2 = left := by omega
    have hw2 : wrap64 (left - 4) = left - 4 := by unfold wrap64; omega
    have hlB := hd_ (show left ≤ 140737488351241 by omega)
    clear hz k4 k5
    by_cases hm : left - 4 < 0
    · obtain ⟨t, ht⟩ : ∃ t, t = (left - 4).tdiv 4 := ⟨_, rfl⟩
      have ht2 : (left - 4).tdiv 4 = t := ht.symm
      have htb : -9223372036854775808 ≤ t ∧ t ≤ 9223372036854775807 := by
        have : t = -((4 - left) / 4) := by
          rw [ht, show left - 4 = -(4 - left) by omega, Int.neg_tdiv, Int.tdiv_eq_ediv_of_nonneg (by omega)]
        omega
      have hwt : wrap64 t = t := by unfold wrap64; omega
      clear ht htb
      go_enter Try.func8, Try.ntmps8
      go_wp2_with (go_at_call 6; (with_reducible refine hH.out.mono ?_); rintro e w1 ⟨rfl, HB1⟩)
      all_goals
        go_ret
        refine ⟨congrArg (fun t => Ending.returned (Value.int IntKind.i64 t)) ?_, HB1⟩
        have h7 := hzH.out
        omega
    · have hq : (left - 4).tdiv 4 = (left - 4) / 4 := Int.tdiv_eq_ediv_of_nonneg (by omega)
      obtain ⟨q, hqq⟩ : ∃ q, q = (left - 4) / 4 := ⟨_, rfl⟩
      have hqw : wrap64 q = q := by have := hlB.out; unfold wrap64; omega
      rw [← hqq] at hq
      have hqH := hd_ hqq
      clear hqq
      go_enter Try.func8, Try.ntmps8
      go_wp2_with (go_at_call 6; (with_reducible refine hH.out.mono ?_); rintro e w1 ⟨rfl, HB1⟩)
      all_goals
        go_ret
        refine ⟨congrArg (fun t => Ending.returned (Value.int IntKind.i64 t)) ?_, HB1⟩
        have h7 := hzH.out
        have h8 := hqH.out
        omega
  · rw [if_pos h0]
    have hB : (err2 == 0) = false := by rw [beq_eq_false_iff_ne]; exact h0
    go_enter Try.func8, Try.ntmps8
    go_wp2_with (go_at_call 6; (with_reducible refine hH.out.mono ?_); rintro e w1 ⟨rfl, HB1⟩)
    go_ret
    exact ⟨rfl, HB1⟩
theorem hd_lit1 : hdA [104, 119, 105, 49, 7, 1] = (7, 1, 0, 0) := by decide
theorem rm_lit2 : rmA [104, 119, 105, 49, 7, 5, 0, 0, 0, 0, 0, 0, 0, 0, 0] = 1 := by decide
theorem lit1_rd (W : World) : Rd (W.alloc (.cells #[.int .u8 104, .int .u8 119, .int .u8 105, .int .u8 49, .int .u8 7, .int .u8 1] 5 (6, 7))) (.slice (some ⟨W.heap.size, 0, none⟩) 6 6) [104, 119, 105, 49, 7, 1] := rd_new _ rfl rfl (by intro b hb; simp at hb; omega) (by decide)
theorem lit2_rd (W : World) : Rd (W.alloc (.cells #[.int .u8 104, .int .u8 119, .int .u8 105, .int .u8 49, .int .u8 7, .int .u8 5, .int .u8 0, .int .u8 0, .int .u8 0, .int .u8 0, .int .u8 0, .int .u8 0, .int .u8 0, .int .u8 0, .int .u8 0] 5 (15, 16))) (.slice (some ⟨W.heap.size, 0, none⟩) 15 15) [104, 119, 105, 49, 7, 5, 0, 0, 0, 0, 0, 0, 0, 0, 0] := rd_new _ rfl rfl (by intro b hb; simp at hb; omega) (by decide)
set_option maxHeartbeats 4000000 in
theorem law_ImagePeeks (w : World) (v : Value) (B : List Int) (HR : Rd w v B) (hl : B.length ≤ 140737488351232) :
    Calls Try.prog 3 #[v] w fun e w' => e = .returned (.bool true) ∧ Below w.heap.size w w' := by
  have hIn := hd_ (And.intro HR hl)
  obtain ⟨k1, k2, k3, _⟩ := hd_pk B
  have hP := hd_ (fun W u (h : Rd W u B) => P_Peek_any u B W h (by omega))
  have hX := hd_ (fun W u (h : Rd W u B) => X_Peek_any u B W h (by omega))
  have hRp := hd_ (fun W u (h : Rd W u B) => P_Room_any u B W h (by omega))
  have hRx := hd_ (fun W u (h : Rd W u B) => X_Room_any u B W h (by omega))
  clear HR hl
  generalize hdA B = R at *
  obtain ⟨s, n, left, err⟩ := R
  generalize pkA B = R2 at *
  obtain ⟨s2, n2, at2, err2⟩ := R2
  simp only at k1 k2 k3 hP hX
  subst k1; subst k2; subst k3
  generalize rmA B = rm at *
  have hL1 := hd_ hd_lit1
  have hL2 := hd_ rm_lit2
  go_enter Try.func3, Try.ntmps3
  go_upto_region 6 with (first
    | (go_at_call 4; (with_reducible refine (Lend_any v B _ hIn.out.1 hIn.out.2).mono ?_); rintro e w1 ⟨g1, c1, q1, rfl, HOw, HRq, hqb, HB1⟩; have hPc := hP.out w1 q1 HRq)
    | (go_at_call 5; (with_reducible refine hPc.mono ?_); rintro e w2 ⟨rfl, HB2⟩; have hB02 := bel_trans HB1 HB2; have hXc := hX.out w2 v (hIn.out.1.keep hB02))
    | (go_at_call 6; (with_reducible refine hXc.mono ?_); rintro e w3 ⟨rfl, HB3⟩; have hB13 := bel_trans HB2 HB3; have hRc := hRp.out w3 q1 (HRq.keep hB13))
    | (go_at_call 7; (with_reducible refine hRc.mono ?_); rintro e w4 ⟨rfl, HB4⟩; have hB14 := bel_trans hB13 HB4; have hB04 := bel_trans HB1 hB14; have hRd := hRx.out w4 v (hIn.out.1.keep hB04))
    | (go_at_call 8; (with_reducible refine hRd.mono ?_); rintro e w5 ⟨rfl, HB5⟩; have hB15 := bel_trans hB14 HB5; have hB05 := bel_trans HB1 hB15; have hK := Kept_true _ v B w5 ((HOw.keep hB15).rd) (hIn.out.1.keep hB05) hIn.out.2)
    | (go_at_call 9; (with_reducible refine hK.mono ?_); rintro e w6 ⟨rfl, HB6⟩))
  have hO1 := hd_ (lit1_rd w6)
  have hB06 := hd_ (al1 (bel_trans hB05 HB6) (.cells #[.int .u8 104, .int .u8 119, .int .u8 105, .int .u8 49, .int .u8 7, .int .u8 1] 5 (6, 7)))
  have kc := fun (w : World) (C : Array Value) (n c : Nat) => Lib.run_convert_bytes_const (P := Try.prog) w 22 5 C n c Try.underlying22 Try.underlying5
  go_wp2_with (first
    | (go_at_call 5; refine (P_Peek_any _ [104, 119, 105, 49, 7, 1] _ hO1.out (by decide)).mono ?_; rintro e w7 ⟨rfl, HB7⟩; rw [hL1.out]; have hO2 := hd_ (lit2_rd w7); have hB07 := hd_ (al1 (bel_trans hB06.out HB7) (.cells #[.int .u8 104, .int .u8 119, .int .u8 105, .int .u8 49, .int .u8 7, .int .u8 5, .int .u8 0, .int .u8 0, .int .u8 0, .int .u8 0, .int .u8 0, .int .u8 0, .int .u8 0, .int .u8 0, .int .u8 0] 5 (15, 16))))
    | (go_at_call 7; refine (P_Room_any _ [104, 119, 105, 49, 7, 5, 0, 0, 0, 0, 0, 0, 0, 0, 0] _ hO2.out (by decide)).mono ?_; rintro e w8 ⟨rfl, HB8⟩; rw [hL2.out]))
  go_ret
  exact ⟨rfl, bel_trans hB07.out HB8⟩
end Go.Proofs.Ytbebinlnjpfbeaa
