/- The law PackRoom. -/
import Derived.Test.YtlaeiipiboabaaaPlA
namespace Go.Proofs.Ytlaeiipiboabaaa
open Go.RowKit
set_option maxRecDepth 100000
set_option linter.unusedVariables false
theorem Rr.chg {w w1 : World} {g : Nat} {v : Value} {B : List Int} {a : Nat} {err : Int} {S : Nat → Prop} (h : Rr w g v B a err) (hc : Chg S w w1) (hg : ¬ S g) (hv : ∀ k, v.ownBlock = some k → ¬ S k) : Rr w1 g v B a err := ⟨h.1.chg hc hg, h.2.1.chg hc hv, h.2.2⟩
/-- no count is more than what is there accounts for -/
theorem rCount_room (B : List Int) (hB : IsBytes B) (most least : Int) (hm : most ≤ 9223372036854775807) :
    (rCount B 0 0 most least).2.1 ≤ B.length ∧ ((rCount B 0 0 most least).1 = 0 ∨ ∃ u : Nat, (rCount B 0 0 most least).1 = (u : Int) ∧ 0 < u ∧ (u : Int) ≤ most ∧ 0 ≤ least ∧ (0 < least → (u : Int) ≤ ((B.length : Int) - (rCount B 0 0 most least).2.1) / least)) := by
  unfold rCount
  rw [if_neg (by simp)]
  by_cases h1 : most < 0 ∨ least < 0
  · rw [if_pos h1]; exact ⟨Nat.zero_le _, .inl rfl⟩
  rw [if_neg h1]
  rcases uptoA_cases B hB 0 (Nat.zero_le _) most (by omega) with ⟨E, hE, e⟩ | ⟨u, k, e, k1, _, _, k4, _, _⟩
  · rw [e, if_pos (by simp only; omega)]; exact ⟨Nat.zero_le _, .inl rfl⟩
  · rw [e, if_neg (by simp)]
    by_cases h2 : 0 < least ∧ ((B.length : Int) - ((0 + k : Nat) : Int)) / least < (u : Int)
    · rw [if_pos h2]; exact ⟨Nat.zero_le _, .inl rfl⟩
    · rw [if_neg h2]
      refine ⟨k1, ?_⟩
      by_cases hu : u = 0
      · exact .inl (by simp only; omega)
      · exact .inr ⟨u, rfl, by omega, k4, by omega, fun h => by
          have := fun h3 => h2 ⟨h, h3⟩
          simp only
          omega⟩
theorem rText_len (B : List Int) (hB : IsBytes B) (most : Int) (hm : most ≤ 9223372036854775807) : (rText B 0 0 most).1.length ≤ B.length := by
  unfold rText
  rw [if_neg (by simp)]
  rcases textA_cases B hB 0 (Nat.zero_le _) most (by omega) with ⟨E, hE, e⟩ | ⟨n, k, _, e, k1, _, _, _, _, _⟩
  · rw [e, if_pos (by simp only; omega)]; exact Nat.zero_le _
  · rw [e, if_neg (by simp)]
    simp only [List.length_take, List.length_drop]
    omega
set_option maxHeartbeats 2000000 in
theorem law_PackRoom (w : World) (v : Value) (B : List Int) (HR : Rd w v B) (hl : B.length ≤ 140737488351232) (most : Int) (hm : (Lit.int .i64 most).wf = true) (least : Int) (hle : (Lit.int .i64 least).wf = true) :
    Calls Try.prog 7 #[v, .int .i64 most, .int .i64 least] w fun e w' => e = .returned (.bool true) ∧ Below w.heap.size w w' := by
  obtain ⟨m0, m1'⟩ := wf_i64 hm
  obtain ⟨l0, l1'⟩ := wf_i64 hle
  have m1 : most ≤ 9223372036854775807 := by omega
  have l1 : least ≤ 9223372036854775807 := by omega
  clear hm hle m1' l1'
  have hlen0 := hl
  have hB := HR.1
  have hlen := HR.2.len (P := Try.prog) 25 5 3 Try.underlying25
  have hTl := rText_len B hB most m1
  obtain ⟨c1, c2⟩ := rCount_room B hB most least m1
  obtain ⟨l, a1, e1, h1⟩ : ∃ l a1 e1, rText B 0 0 most = (l, a1, e1) := ⟨_, _, _, rfl⟩
  obtain ⟨n, a2, e2, h2⟩ : ∃ n a2 e2, rCount B 0 0 most least = (n, a2, e2) := ⟨_, _, _, rfl⟩
  rw [h1] at hTl
  rw [h2] at c1 c2
  simp only at hTl c1 c2
  have hSz : (strOfNums l).size ≤ B.length := by rw [strOfNums_size]; exact hTl
  have H1 := hd_ h1
  have H2 := hd_ h2
  have hl' := hd_ (show B.length ≤ 140737488355328 by omega)
  have HRR := hd_ HR
  clear HR h1 h2 hTl
  go_enter Try.func7, Try.ntmps7
  go_upto_region 5 with (first
    | (go_at_call 14; (with_reducible refine (R_New_any v B w HRR.out hl'.out).mono ?_); rintro e w1 ⟨g1, v1, rfl, HR1, hg1, hv1, HB1⟩; have HR1' := hd_ HR1)
    | (go_at_call 14; (with_reducible refine (R_New_any v B w1 (HRR.out.keep HB1) hl'.out).mono ?_); rintro e w2 ⟨g2, v2, rfl, HR2, hg2, hv2, HB2⟩; have HR12 := hd_ (HR1'.out.keep HB2); have HR2' := hd_ HR2)
    | (go_at_call 28; (with_reducible refine (R_Text_any g1 v1 B 0 0 most w2 HR12.out m1).mono ?_); rintro e w3 ⟨rfl, HP3⟩; rw [H1.out] at HP3 ⊢; have hR23 := hd_ (HR2'.out.chg HP3.2 (fun e => by have := HR1'.out.1.lt; omega) (fun k hk e => by have := hv2 k hk; have := HR1'.out.1.lt; omega)))
    | (go_at_call 29; (with_reducible refine (R_Count_any g2 v2 B 0 0 most least w3 hR23.out m1).mono ?_); rintro e w4 ⟨rfl, HP4⟩; rw [H2.out] at HP4 ⊢))
  have hR4 := hd_ HP4.1
  have hW4 : Below w.heap.size w w4 := by
    have b2 := bel_trans HB1 HB2
    have b3 := Chg.then b2 HP3.2 (fun b hb => by subst hb; exact hg1) b2.size
    exact Chg.then b3 HP4.2 (fun b hb => by subst hb; exact Nat.le_trans HB1.size hg2) b3.size
  have HW4 := hd_ hW4
  clear HP3 HP4 HR1 HR2 HB1 HB2 hv1 hv2 hW4 HR1' HR12 HR2' hR23 H1 H2
  have r9 := hd_ (show rCount [2, 1, 2, 3, 4, 5, 6, 7, 8] 0 0 100 4 = (2, 1, 0) by decide)
  have r8 := hd_ (show rCount [2, 1, 2, 3, 4, 5, 6, 7] 0 0 100 4 = (0, 0, 30) by decide)
  rcases c2 with rfl | ⟨u, rfl, u0, u1, u2, u3⟩
  · go_upto_region 7 with fail
    have hO9 := hd_ (lit_own8 w4 0 (Nat.zero_le _) [2, 1, 2, 3, 4, 5, 6, 7, 8] (by intro b hb; simp at hb; omega) 9 rfl (by unfold maxLen; omega))
    have hB9 := hd_ (bel_trans HW4.out (al1 (Below.refl _ _) (.cells (u8A [2, 1, 2, 3, 4, 5, 6, 7, 8]) 5)))
    go_wp2_with (first
      | (go_at_call 14; refine (R_New_any _ [2, 1, 2, 3, 4, 5, 6, 7, 8] _ hO9.out.rd (by decide)).mono ?_; rintro e w6 ⟨g6, v6, rfl, HR6, hg6, hv6, HB6⟩; have hR6 := hd_ HR6; have hW6 := hd_ (bel_trans hB9.out HB6); have hg6' := hd_ (Nat.le_trans hB9.out.size hg6))
      | (go_at_call 29; (with_reducible refine (R_Count_any g6 v6 [2, 1, 2, 3, 4, 5, 6, 7, 8] 0 0 100 4 w6 hR6.out (by decide)).mono ?_); rintro e w7 ⟨rfl, HP7⟩; rw [r9.out] at HP7 ⊢; have hR7 := hd_ HP7.1; have hW7 := hd_ (Chg.then hW6.out HP7.2 (fun b hb => by subst hb; exact hg6'.out) hW6.out.size))
      | (go_at_call 31; refine (R_At_any g6 v6 _ _ _ _ hR7.out).mono ?_; rintro e w8 ⟨rfl, rfl⟩; have hO8 := hd_ (lit_own8 w7 0 (Nat.zero_le _) [2, 1, 2, 3, 4, 5, 6, 7] (by intro b hb; simp at hb; omega) 8 rfl (by unfold maxLen; omega)); have hB8 := hd_ (bel_trans hW7.out (al1 (Below.refl _ _) (.cells (u8A [2, 1, 2, 3, 4, 5, 6, 7]) 5))))
      | (go_at_call 14; refine (R_New_any _ [2, 1, 2, 3, 4, 5, 6, 7] _ hO8.out.rd (by decide)).mono ?_; rintro e w9 ⟨g9, v9, rfl, HR9, hg9, hv9, HB9⟩; have hR9 := hd_ HR9; have hW9 := hd_ (bel_trans hB8.out HB9); have hg9' := hd_ (Nat.le_trans hB8.out.size hg9))
      | (go_at_call 29; (with_reducible refine (R_Count_any g9 v9 [2, 1, 2, 3, 4, 5, 6, 7] 0 0 100 4 w9 hR9.out (by decide)).mono ?_); rintro e w10 ⟨rfl, HP10⟩; rw [r8.out] at HP10 ⊢; have hW10 := hd_ (Chg.then hW9.out HP10.2 (fun b hb => by subst hb; exact hg9'.out) hW9.out.size)))
    go_ret
    exact ⟨rfl, hW10.out⟩
  · have u0I : 0 < (u : Int) := by omega
    by_cases hl : 0 < least
    · have q3 := u3 hl
      have ht1 : ((B.length : Int) - (a2 : Int)).tdiv least = ((B.length : Int) - a2) / least := Int.tdiv_eq_ediv_of_nonneg (by omega)
      have hq0 : ((B.length : Int) - a2) / least ≤ (B.length : Int) - a2 := Int.ediv_le_self _ (by omega)
      have hl1 : ¬ least = 0 := by omega
      have hl2 : (least == 0) = false := by rw [beq_eq_false_iff_ne]; exact hl1
      have hlB : B.length ≤ 140737488351232 := hlen0
      generalize ((B.length : Int) - a2) / least = q at *
      clear u3
      go_upto_region 7 with (go_at_call 30; (with_reducible refine (R_Left_any g2 v2 B a2 e2 _ hR4.out).mono ?_); rintro e w5 ⟨rfl, m5, hm5⟩; have HB5 := hd_ (show Below w.heap.size w w5 by rw [hm5]; exact below_drewN HW4.out _); clear hm5)
      have hO9 := hd_ (lit_own8 w5 0 (Nat.zero_le _) [2, 1, 2, 3, 4, 5, 6, 7, 8] (by intro b hb; simp at hb; omega) 9 rfl (by unfold maxLen; omega))
      have hB9 := hd_ (bel_trans HB5.out (al1 (Below.refl _ _) (.cells (u8A [2, 1, 2, 3, 4, 5, 6, 7, 8]) 5)))
      go_wp2_with (first
        | (go_at_call 14; refine (R_New_any _ [2, 1, 2, 3, 4, 5, 6, 7, 8] _ hO9.out.rd (by decide)).mono ?_; rintro e w6 ⟨g6, v6, rfl, HR6, hg6, hv6, HB6⟩; have hR6 := hd_ HR6; have hW6 := hd_ (bel_trans hB9.out HB6); have hg6' := hd_ (Nat.le_trans hB9.out.size hg6))
        | (go_at_call 29; (with_reducible refine (R_Count_any g6 v6 [2, 1, 2, 3, 4, 5, 6, 7, 8] 0 0 100 4 w6 hR6.out (by decide)).mono ?_); rintro e w7 ⟨rfl, HP7⟩; rw [r9.out] at HP7 ⊢; have hR7 := hd_ HP7.1; have hW7 := hd_ (Chg.then hW6.out HP7.2 (fun b hb => by subst hb; exact hg6'.out) hW6.out.size))
        | (go_at_call 31; refine (R_At_any g6 v6 _ _ _ _ hR7.out).mono ?_; rintro e w8 ⟨rfl, rfl⟩; have hO8 := hd_ (lit_own8 w7 0 (Nat.zero_le _) [2, 1, 2, 3, 4, 5, 6, 7] (by intro b hb; simp at hb; omega) 8 rfl (by unfold maxLen; omega)); have hB8 := hd_ (bel_trans hW7.out (al1 (Below.refl _ _) (.cells (u8A [2, 1, 2, 3, 4, 5, 6, 7]) 5))))
        | (go_at_call 14; refine (R_New_any _ [2, 1, 2, 3, 4, 5, 6, 7] _ hO8.out.rd (by decide)).mono ?_; rintro e w9 ⟨g9, v9, rfl, HR9, hg9, hv9, HB9⟩; have hR9 := hd_ HR9; have hW9 := hd_ (bel_trans hB8.out HB9); have hg9' := hd_ (Nat.le_trans hB8.out.size hg9))
        | (go_at_call 29; (with_reducible refine (R_Count_any g9 v9 [2, 1, 2, 3, 4, 5, 6, 7] 0 0 100 4 w9 hR9.out (by decide)).mono ?_); rintro e w10 ⟨rfl, HP10⟩; rw [r8.out] at HP10 ⊢; have hW10 := hd_ (Chg.then hW9.out HP10.2 (fun b hb => by subst hb; exact hg9'.out) hW9.out.size)))
      go_ret
      exact ⟨rfl, hW10.out⟩
    · clear u3
      go_upto_region 7 with fail
      have hO9 := hd_ (lit_own8 w4 0 (Nat.zero_le _) [2, 1, 2, 3, 4, 5, 6, 7, 8] (by intro b hb; simp at hb; omega) 9 rfl (by unfold maxLen; omega))
      have hB9 := hd_ (bel_trans HW4.out (al1 (Below.refl _ _) (.cells (u8A [2, 1, 2, 3, 4, 5, 6, 7, 8]) 5)))
      go_wp2_with (first
        | (go_at_call 14; refine (R_New_any _ [2, 1, 2, 3, 4, 5, 6, 7, 8] _ hO9.out.rd (by decide)).mono ?_; rintro e w6 ⟨g6, v6, rfl, HR6, hg6, hv6, HB6⟩; have hR6 := hd_ HR6; have hW6 := hd_ (bel_trans hB9.out HB6); have hg6' := hd_ (Nat.le_trans hB9.out.size hg6))
        | (go_at_call 29; (with_reducible refine (R_Count_any g6 v6 [2, 1, 2, 3, 4, 5, 6, 7, 8] 0 0 100 4 w6 hR6.out (by decide)).mono ?_); rintro e w7 ⟨rfl, HP7⟩; rw [r9.out] at HP7 ⊢; have hR7 := hd_ HP7.1; have hW7 := hd_ (Chg.then hW6.out HP7.2 (fun b hb => by subst hb; exact hg6'.out) hW6.out.size))
        | (go_at_call 31; refine (R_At_any g6 v6 _ _ _ _ hR7.out).mono ?_; rintro e w8 ⟨rfl, rfl⟩; have hO8 := hd_ (lit_own8 w7 0 (Nat.zero_le _) [2, 1, 2, 3, 4, 5, 6, 7] (by intro b hb; simp at hb; omega) 8 rfl (by unfold maxLen; omega)); have hB8 := hd_ (bel_trans hW7.out (al1 (Below.refl _ _) (.cells (u8A [2, 1, 2, 3, 4, 5, 6, 7]) 5))))
        | (go_at_call 14; refine (R_New_any _ [2, 1, 2, 3, 4, 5, 6, 7] _ hO8.out.rd (by decide)).mono ?_; rintro e w9 ⟨g9, v9, rfl, HR9, hg9, hv9, HB9⟩; have hR9 := hd_ HR9; have hW9 := hd_ (bel_trans hB8.out HB9); have hg9' := hd_ (Nat.le_trans hB8.out.size hg9))
        | (go_at_call 29; (with_reducible refine (R_Count_any g9 v9 [2, 1, 2, 3, 4, 5, 6, 7] 0 0 100 4 w9 hR9.out (by decide)).mono ?_); rintro e w10 ⟨rfl, HP10⟩; rw [r8.out] at HP10 ⊢; have hW10 := hd_ (Chg.then hW9.out HP10.2 (fun b hb => by subst hb; exact hg9'.out) hW9.out.size)))
      go_ret
      exact ⟨rfl, hW10.out⟩
end Go.Proofs.Ytlaeiipiboabaaa
