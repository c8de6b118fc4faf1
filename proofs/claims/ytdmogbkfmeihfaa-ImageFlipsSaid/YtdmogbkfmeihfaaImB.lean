/- The head of an image: the program's and the document's. -/
import Derived.Test.YtdmogbkfmeihfaaImA
import Derived.Test.YtdmogbkfmeihfaaPrY
import Derived.Test.YtdmogbkfmeihfaaLend
namespace Go.Proofs.Ytdmogbkfmeihfaa
open Go.RowKit
set_option maxRecDepth 100000
set_option linter.unusedVariables false
theorem results_tmp4 {fn : Func} {t u v x : Tmp} (h : fn.results = #[.tmp t, .tmp u, .tmp v, .tmp x]) (tmps : Array Value) (P : Program) (w : World) :
    (results fn tmps).run P w = .ok (.tuple #[tmps.getD t undef, tmps.getD u undef, tmps.getD v undef, tmps.getD x undef]) w := by
  simp [results, h]
def hdA (B : List Int) : Int × Int × Int × Int :=
  if B.length < 4 ∨ B.take 4 ≠ hwi then (0, 0, 0, 92) else if (pkC (B.drop 4)).2.2.2 ≠ 0 then (0, 0, 0, 92) else ((pkC (B.drop 4)).1, (pkC (B.drop 4)).2.1, (B.length : Int) - 4 - ((pkC (B.drop 4)).2.2.1 : Int), 0)
def pkA (B : List Int) : Int × Int × Int × Int :=
  if B.length < 4 ∨ B.take 4 ≠ hwi then (0, 0, 0, 92) else if (pkC (B.drop 4)).2.2.2 ≠ 0 then (0, 0, 0, 92) else ((pkC (B.drop 4)).1, (pkC (B.drop 4)).2.1, 4 + ((pkC (B.drop 4)).2.2.1 : Int), 0)
def FourRet (w : World) (R : Int × Int × Int × Int) (e : Ending) (w' : World) : Prop := e = .returned (.tuple #[.int .i64 R.1, .int .i64 R.2.1, .int .i64 R.2.2.1, .int .i64 R.2.2.2]) ∧ Below w.heap.size w w'
theorem rd_oldI {w : World} {v : Value} {B : List Int} (h : Rd w v B) : B = [] ∨ ∀ k, v.ownBlock = some k → k < w.heap.size := by
  by_cases hB : B = []
  · exact .inl hB
  · refine .inr fun k hk => ?_
    obtain ⟨A, cap, hv, _, _, _, hc⟩ := h.form
    obtain ⟨b, off, hA, hcell⟩ := hc 0 (by cases B with | nil => exact absurd rfl hB | cons => simp)
    rw [hv, hA] at hk
    have hk2 : b = k ∨ b ≠ k := Decidable.em _
    have e : (Value.slice (some ⟨b, off, none⟩) B.length cap).ownBlock = some b ∨ (Value.slice (some ⟨b, off, none⟩) B.length cap).ownBlock = none := by
      first | exact .inl rfl | (unfold Value.ownBlock; split <;> simp)
    rcases e with e | e
    · rw [e] at hk
      injection hk with hk
      subst hk
      exact World.block_lt_of_cell? w _ hcell
    · rw [e] at hk; cases hk
theorem hwi_str : strOfNums hwi = ⟨#[104, 119, 105, 49]⟩ := rfl
theorem hwi_bytes : IsBytes hwi := by intro b hb; simp at hb; omega
theorem hwi_list : (ByteArray.mk #[104, 119, 105, 49]).toList = [104, 119, 105, 49] := by kernel_rfl
set_option maxHeartbeats 4000000 in
theorem H_any (v : Value) (B : List Int) (w : World) (HR : Rd w v B) (hl : B.length ≤ 140737488351241) :
    Calls Try.prog 40 #[v] w (FourRet w (hdA B)) := by
  have hlen := HR.2.len (P := Try.prog) 22 5 3 Try.underlying22
  have hRH := hd_ HR
  by_cases hA : B.length < 4
  · have hR : hdA B = (0, 0, 0, 92) := by unfold hdA; rw [if_pos (.inl hA)]
    rw [hR]
    have hAI : (B.length : Int) < 4 := by omega
    clear HR hR
    go_enter Try.func40, Try.ntmps40
    go_wp2
    (try simp only [Exit.inBlock, Exit.then])
    refine bodyPost_ret (results_tmp4 rfl _ _ _) rfl ?_
    exact ⟨rfl, Below.refl _ _⟩
  have hAI : ¬ (B.length : Int) < 4 := by omega
  obtain ⟨u, hs, hRu⟩ := HR.sl_h (P := Try.prog) Try.underlying22 infoB 4 (by omega)
  have hs : ∀ W : World, Sem.run Try.prog (Instr.slice 22 v none (some (.int .i64 4)) none) W = .ok u W := hs
  have hstr := hRu.str (P := Try.prog) 22 5 9 Try.underlying22 Try.underlying5 Try.underlying9
  have hcmp := str_eq (bytes_take HR.1 4) hwi_bytes
  rw [hwi_str, hwi_list] at hcmp
  by_cases hM : B.take 4 = hwi
  · rw [decide_eq_true hM] at hcmp
    have hR : hdA B = if (pkC (B.drop 4)).2.2.2 ≠ 0 then (0, 0, 0, 92) else ((pkC (B.drop 4)).1, (pkC (B.drop 4)).2.1, (B.length : Int) - 4 - ((pkC (B.drop 4)).2.2.1 : Int), 0) := by unfold hdA; rw [if_neg (by rintro (h | h); exact hA h; exact h hM)]
    obtain ⟨R, hRR⟩ : ∃ R, R = hdA B := ⟨_, rfl⟩
    rw [← hRR]
    rw [hR] at hRR
    obtain ⟨C, hC⟩ : ∃ C, C = B.drop 4 := ⟨_, rfl⟩
    have hCb : IsBytes C := by rw [hC]; exact bytes_drop HR.1 _
    have hCl : C.length = B.length - 4 := by rw [hC, List.length_drop]
    rw [← hC] at hRR
    obtain ⟨mn, hmn⟩ : ∃ mn, mn = min B.length 24 := ⟨_, rfl⟩
    obtain ⟨u2, hs2, hRu2⟩ := HR.sl (P := Try.prog) Try.underlying22 infoB 4 mn (by omega) (by omega)
    have hs2 : ∀ W : World, Sem.run Try.prog (Instr.slice 22 v (some (.int .i64 4)) (some (.int .i64 (mn : Int))) none) W = .ok u2 W := hs2
    have e2 : (B.take mn).drop 4 = C.take 20 := by
      rw [List.drop_take, ← hC]
      by_cases h : B.length ≤ 24
      · rw [List.take_of_length_le (by omega), List.take_of_length_le (by omega)]
      · rw [show mn - 4 = 20 by omega]
    rw [e2] at hRu2
    have hN := hd_ (R_New_any u2 (C.take 20) w hRu2 (by rw [List.length_take]; omega))
    obtain ⟨t1, t2⟩ := rInt_two C hCb
    obtain ⟨o1, o2, o3, o4⟩ := rInt_on C hCb 0 (Nat.zero_le _) 0 1152921504606846976 (by decide)
    obtain ⟨p1, p2, p3, p4⟩ := rInt_on C hCb (rInt C 0 0 1152921504606846976).2.1 o2 (rInt C 0 0 1152921504606846976).2.2 1048576 (by decide)
    unfold pkC at hRR
    generalize hR1 : rInt C 0 0 1152921504606846976 = R1 at *
    obtain ⟨x1, a1, e1⟩ := R1
    simp only at t2 o1 o2 o3 o4 p1 p2 p3 p4 hRR
    generalize hR2 : rInt C a1 e1 1048576 = R2 at *
    obtain ⟨x2, a2, e2'⟩ := R2
    simp only at p1 p2 p3 p4 hRR
    have hI1 := hd_ (fun W g vr (h : Rr W g vr (C.take 20) 0 0) => show Calls Try.prog 62 #[.pointer (some ⟨g, 0, none⟩), .int .i64 1152921504606846976] W (RRet W g vr (C.take 20) (.int .i64 x1) a1 e1) from by have := R_Int_any g vr (C.take 20) 0 0 1152921504606846976 W h (by decide); rw [t1] at this; exact this)
    have hI2 := hd_ (fun W g vr (h : Rr W g vr (C.take 20) a1 e1) => show Calls Try.prog 62 #[.pointer (some ⟨g, 0, none⟩), .int .i64 1048576] W (RRet W g vr (C.take 20) (.int .i64 x2) a2 e2') from by have := R_Int_any g vr (C.take 20) a1 e1 1048576 W h (by decide); rw [t2] at this; exact this)
    have hnum : a2 ≤ B.length - 4 := by omega
    have hwa : wrap64 ((B.length : Int) - 4) = (B.length : Int) - 4 := by unfold wrap64; omega
    have hwb : wrap64 ((B.length : Int) - 4 - (a2 : Int)) = (B.length : Int) - 4 - (a2 : Int) := by unfold wrap64; omega
    have hRe := hd_ (show (e2' ≠ 0 → R = (0, 0, 0, 92)) ∧ (e2' = 0 → R = (x1, x2, (B.length : Int) - 4 - (a2 : Int), 0)) from ⟨fun h => by rw [hRR]; simp [h], fun h => by rw [hRR]; simp [h]⟩)
    clear HR hR hRu hC hCb hRu2 e2 hR1 hR2 t1 t2 o1 o2 o3 o4 p1 p3 p4 hCl hRR p2 hnum
    generalize strOfNums (B.take 4) = S at *
    by_cases h24 : B.length ≤ 24
    · obtain rfl : mn = B.length := by omega
      have h24I : (B.length : Int) ≤ 24 := by omega
      clear hmn h24
      go_enter Try.func40, Try.ntmps40
      go_upto_region 5 with (first
        | (go_at_call 61; (with_reducible refine hN.out.mono ?_); rintro e w1 ⟨g, vr, rfl, HRr, hg, hvr, HB1⟩; have c1 := hI1.out w1 g vr HRr)
        | (go_at_call 62; (with_reducible refine c1.mono ?_); rintro e w2 ⟨rfl, P2⟩; have c2 := hI2.out w2 g vr P2.1)
        | (go_at_call 62; (with_reducible refine c2.mono ?_); rintro e w3 ⟨rfl, P3⟩))
      have HBa := P2.2.then HB1 (fun k e => by rw [e]; exact hg) HB1.size
      have HBe := hd_ (P3.2.then HBa (fun k e => by rw [e]; exact hg) HBa.size)
      have r3 := hd_ P3.1
      clear c1 c2 P2 P3 HRr HB1 hI1 hI2 hN
      by_cases h0 : e2' = 0
      · subst h0
        have hRx := hd_ (hRe.out.2 rfl)
        go_wp2_with (first
          | (go_at_call 63; (with_reducible refine (R_Err_any g vr _ a2 0 w3 r3.out).mono ?_); rintro e wa ⟨rfl, rfl⟩)
          | (go_at_call 64; (with_reducible refine (R_At_any g vr _ a2 0 w3 r3.out).mono ?_); rintro e wa ⟨rfl, rfl⟩))
        (try simp only [Exit.inBlock, Exit.then])
        refine bodyPost_ret (results_tmp4 rfl _ _ _) rfl ?_
        rw [hRx.out]
        exact ⟨by first | rfl | (simp only [hwb]; rfl), HBe.out⟩
      · have hRx := hd_ (hRe.out.1 h0)
        have hB : (e2' == 0) = false := by rw [beq_eq_false_iff_ne]; exact h0
        go_wp2_with (go_at_call 63; (with_reducible refine (R_Err_any g vr _ a2 e2' w3 r3.out).mono ?_); rintro e wa ⟨rfl, rfl⟩)
        (try simp only [Exit.inBlock, Exit.then])
        refine bodyPost_ret (results_tmp4 rfl _ _ _) rfl ?_
        rw [hRx.out]
        exact ⟨rfl, HBe.out⟩
    · obtain rfl : mn = 24 := by omega
      have h24I : ¬ (B.length : Int) ≤ 24 := by omega
      have h24J : 24 < (B.length : Int) := by omega
      have hs2 : ∀ W : World, Sem.run Try.prog (Instr.slice 22 v (some (.int .i64 4)) (some (.int .i64 24)) none) W = .ok u2 W := hs2
      clear hmn h24
      go_enter Try.func40, Try.ntmps40
      go_upto_region 5 with (first
        | (go_at_call 61; (with_reducible refine hN.out.mono ?_); rintro e w1 ⟨g, vr, rfl, HRr, hg, hvr, HB1⟩; have c1 := hI1.out w1 g vr HRr)
        | (go_at_call 62; (with_reducible refine c1.mono ?_); rintro e w2 ⟨rfl, P2⟩; have c2 := hI2.out w2 g vr P2.1)
        | (go_at_call 62; (with_reducible refine c2.mono ?_); rintro e w3 ⟨rfl, P3⟩))
      have HBa := P2.2.then HB1 (fun k e => by rw [e]; exact hg) HB1.size
      have HBe := hd_ (P3.2.then HBa (fun k e => by rw [e]; exact hg) HBa.size)
      have r3 := hd_ P3.1
      clear c1 c2 P2 P3 HRr HB1 hI1 hI2 hN
      by_cases h0 : e2' = 0
      · subst h0
        have hRx := hd_ (hRe.out.2 rfl)
        go_wp2_with (first
          | (go_at_call 63; (with_reducible refine (R_Err_any g vr _ a2 0 w3 r3.out).mono ?_); rintro e wa ⟨rfl, rfl⟩)
          | (go_at_call 64; (with_reducible refine (R_At_any g vr _ a2 0 w3 r3.out).mono ?_); rintro e wa ⟨rfl, rfl⟩))
        (try simp only [Exit.inBlock, Exit.then])
        refine bodyPost_ret (results_tmp4 rfl _ _ _) rfl ?_
        rw [hRx.out]
        exact ⟨by first | rfl | (simp only [hwb]; rfl), HBe.out⟩
      · have hRx := hd_ (hRe.out.1 h0)
        have hB : (e2' == 0) = false := by rw [beq_eq_false_iff_ne]; exact h0
        go_wp2_with (go_at_call 63; (with_reducible refine (R_Err_any g vr _ a2 e2' w3 r3.out).mono ?_); rintro e wa ⟨rfl, rfl⟩)
        (try simp only [Exit.inBlock, Exit.then])
        refine bodyPost_ret (results_tmp4 rfl _ _ _) rfl ?_
        rw [hRx.out]
        exact ⟨rfl, HBe.out⟩
  · rw [decide_eq_false hM] at hcmp
    have hR : hdA B = (0, 0, 0, 92) := by unfold hdA; rw [if_pos (.inr hM)]
    rw [hR]
    clear HR hR hRu
    generalize strOfNums (B.take 4) = S at *
    go_enter Try.func40, Try.ntmps40
    go_wp2
    (try simp only [Exit.inBlock, Exit.then])
    refine bodyPost_ret (results_tmp4 rfl _ _ _) rfl ?_
    exact ⟨rfl, Below.refl _ _⟩
def PeekRet (w : World) (R : Int × Int × Int × Int) (e : Ending) (w' : World) : Prop := e = .returned (.tuple #[.int .i64 R.1, .int .i64 R.2.1, .int .i64 R.2.2.2]) ∧ Below w.heap.size w w'
theorem P_Peek_any (v : Value) (B : List Int) (w : World) (HR : Rd w v B) (hl : B.length ≤ 140737488351241) :
    Calls Try.prog 14 #[v] w (PeekRet w (hdA B)) := by
  have hH := hd_ (H_any v B w HR hl)
  clear HR hl
  go_enter Try.func14, Try.ntmps14
  go_wp2_with (go_at_call 40; (with_reducible refine hH.out.mono ?_); rintro e w1 ⟨rfl, HB1⟩)
  go_ret3
  exact ⟨rfl, HB1⟩
/-- how many rows there can be -/
def rmA (B : List Int) : Int := if (hdA B).2.2.2 ≠ 0 then 0 else min (hdA B).2.1 (max ((hdA B).2.2.1 - 4) 0 / 4)
theorem hdA_lo (B : List Int) (hB : IsBytes B) : 0 ≤ (hdA B).2.1 ∧ (hdA B).2.1 < 9223372036854775808 ∧ 0 ≤ (hdA B).2.2.1 ∧ (hdA B).2.2.1 ≤ B.length := by
  unfold hdA
  split
  · exact ⟨by decide, by decide, by decide, by simp⟩
  rename_i h1
  split
  · exact ⟨by decide, by decide, by decide, by simp⟩
  have hC : IsBytes (B.drop 4) := bytes_drop hB _
  have hl : (B.drop 4).length = B.length - 4 := List.length_drop
  obtain ⟨o1, o2, o3, o4⟩ := rInt_on (B.drop 4) hC 0 (Nat.zero_le _) 0 1152921504606846976 (by decide)
  obtain ⟨p1, p2, p3, p4⟩ := rInt_on (B.drop 4) hC (rInt (B.drop 4) 0 0 1152921504606846976).2.1 o2 (rInt (B.drop 4) 0 0 1152921504606846976).2.2 1048576 (by decide)
  have h4 : ¬ B.length < 4 := fun h => h1 (.inl h)
  unfold pkC
  split
  · exact ⟨by simp, by simp, by simp only; omega, by simp only; omega⟩
  · exact ⟨p3, p4, by simp only; omega, by simp only; omega⟩
set_option maxHeartbeats 2000000 in
theorem P_Room_any (v : Value) (B : List Int) (w : World) (HR : Rd w v B) (hl : B.length ≤ 140737488351241) :
    Calls Try.prog 16 #[v] w fun e w' => e = .returned (.int .i64 (rmA B)) ∧ Below w.heap.size w w' := by
  have hH := hd_ (H_any v B w HR hl)
  obtain ⟨h1, h2, h3, h4⟩ := hdA_lo B HR.1
  unfold rmA
  clear HR
  generalize hdA B = R at *
  obtain ⟨s, n, left, err⟩ := R
  simp only at h1 h2 h3 h4 hH ⊢
  by_cases h0 : err = 0
  · subst h0
    rw [if_neg (by simp)]
    have hw : wrap64 (left - 4) = left - 4 := by unfold wrap64; omega
    obtain ⟨z, hz⟩ : ∃ z, z = min n (max (left - 4) 0 / 4) := ⟨_, rfl⟩
    rw [← hz]
    have hzH := hd_ hz
    clear hz
    by_cases hm : 0 < left - 4
    · have hm2 : ¬ (left - 4 < 0) := by omega
      have hq : (left - 4).tdiv 4 = (left - 4) / 4 := Int.tdiv_eq_ediv_of_nonneg (by omega)
      obtain ⟨q, hqq⟩ : ∃ q, q = (left - 4) / 4 := ⟨_, rfl⟩
      have hqw : wrap64 q = q := by unfold wrap64; omega
      have hqw2 : IntKind.i64.wrap q = q := by rw [IntKind.wrap_i64]; omega
      rw [← hqq] at hq
      have hqH := hd_ hqq
      have hmH := hd_ hm
      clear hqq
      go_enter Try.func16, Try.ntmps16
      go_wp2_with (go_at_call 40; (with_reducible refine hH.out.mono ?_); rintro e w1 ⟨rfl, HB1⟩)
      all_goals
        go_ret
        refine ⟨congrArg (fun t => Ending.returned (Value.int IntKind.i64 t)) ?_, HB1⟩
        have h7 := hzH.out
        have h8 := hqH.out
        omega
    · have hm2 : left - 4 ≤ 0 := by omega
      have hm3 : ¬ (0 ≤ left - 4) ∨ left - 4 = 0 := by omega
      go_enter Try.func16, Try.ntmps16
      go_wp2_with (go_at_call 40; (with_reducible refine hH.out.mono ?_); rintro e w1 ⟨rfl, HB1⟩)
      all_goals
        go_ret
        refine ⟨congrArg (fun t => Ending.returned (Value.int IntKind.i64 t)) ?_, HB1⟩
        have h7 := hzH.out
        omega
  · rw [if_pos h0]
    have hB : (err == 0) = false := by rw [beq_eq_false_iff_ne]; exact h0
    go_enter Try.func16, Try.ntmps16
    go_wp2_with (go_at_call 40; (with_reducible refine hH.out.mono ?_); rintro e w1 ⟨rfl, HB1⟩)
    go_ret
    exact ⟨rfl, HB1⟩
set_option maxHeartbeats 4000000 in
theorem X_Peek_any (v : Value) (B : List Int) (w : World) (HR : Rd w v B) (hl : B.length ≤ 140737488351241) :
    Calls Try.prog 15 #[v] w (FourRet w (pkA B)) := by
  have hlen := HR.2.len (P := Try.prog) 22 5 3 Try.underlying22
  by_cases hA : B.length < 4
  · have hR : pkA B = (0, 0, 0, 92) := by unfold pkA; rw [if_pos (.inl hA)]
    rw [hR]
    have hAI : (B.length : Int) < 4 := by omega
    clear HR hR
    go_enter Try.func15, Try.ntmps15
    go_wp2
    (try simp only [Exit.inBlock, Exit.then])
    refine bodyPost_ret (results_tmp4 rfl _ _ _) rfl ?_
    exact ⟨rfl, Below.refl _ _⟩
  have hAI : ¬ (B.length : Int) < 4 := by omega
  obtain ⟨u, hs, hRu⟩ := HR.sl_h (P := Try.prog) Try.underlying22 infoB 4 (by omega)
  have hs : ∀ W : World, Sem.run Try.prog (Instr.slice 22 v none (some (.int .i64 4)) none) W = .ok u W := hs
  have hstr := hRu.str (P := Try.prog) 22 5 9 Try.underlying22 Try.underlying5 Try.underlying9
  have hcmp := str_eq (bytes_take HR.1 4) hwi_bytes
  rw [hwi_str, hwi_list] at hcmp
  by_cases hM : B.take 4 = hwi
  · rw [decide_eq_true hM] at hcmp
    have hR : pkA B = if (pkC (B.drop 4)).2.2.2 ≠ 0 then (0, 0, 0, 92) else ((pkC (B.drop 4)).1, (pkC (B.drop 4)).2.1, 4 + ((pkC (B.drop 4)).2.2.1 : Int), 0) := by unfold pkA; rw [if_neg (by rintro (h | h); exact hA h; exact h hM)]
    obtain ⟨R, hRR⟩ : ∃ R, R = pkA B := ⟨_, rfl⟩
    rw [← hRR]
    rw [hR] at hRR
    obtain ⟨C, hC⟩ : ∃ C, C = B.drop 4 := ⟨_, rfl⟩
    have hCb : IsBytes C := by rw [hC]; exact bytes_drop HR.1 _
    have hCl : C.length = B.length - 4 := by rw [hC, List.length_drop]
    obtain ⟨u2, hs2, hRu2⟩ := HR.sl_l (P := Try.prog) Try.underlying22 infoB 4 (by omega)
    have hs2 : ∀ W : World, Sem.run Try.prog (Instr.slice 22 v (some (.int .i64 4)) none none) W = .ok u2 W := hs2
    rw [← hC] at hRR hRu2
    obtain ⟨o1, o2, o3, o4⟩ := rInt_on C hCb 0 (Nat.zero_le _) 0 1152921504606846976 (by decide)
    obtain ⟨p1, p2, p3, p4⟩ := rInt_on C hCb (rInt C 0 0 1152921504606846976).2.1 o2 (rInt C 0 0 1152921504606846976).2.2 1048576 (by decide)
    unfold pkC at hRR
    generalize hR1 : rInt C 0 0 1152921504606846976 = R1 at *
    obtain ⟨x1, a1, e1⟩ := R1
    simp only at o1 o2 o3 o4 p1 p2 p3 p4 hRR
    generalize hR2 : rInt C a1 e1 1048576 = R2 at *
    obtain ⟨x2, a2, e2'⟩ := R2
    simp only at p1 p2 p3 p4 hRR
    have hI1 := hd_ (fun W g vr (h : Qr W g vr C 0 0) => show Calls Try.prog 41 #[.pointer (some ⟨g, 0, none⟩), .int .i64 1152921504606846976] W (QRet W g vr C (.int .i64 x1) a1 e1) from by have := Q_Int_any g vr C 0 0 1152921504606846976 W h (by decide); rw [hR1] at this; exact this)
    have hI2 := hd_ (fun W g vr (h : Qr W g vr C a1 e1) => show Calls Try.prog 41 #[.pointer (some ⟨g, 0, none⟩), .int .i64 1048576] W (QRet W g vr C (.int .i64 x2) a2 e2') from by have := Q_Int_any g vr C a1 e1 1048576 W h (by decide); rw [hR2] at this; exact this)
    have hRe := hd_ (show (e2' ≠ 0 → R = (0, 0, 0, 92)) ∧ (e2' = 0 → R = (x1, x2, 4 + (a2 : Int), 0)) from ⟨fun h => by rw [hRR]; simp [h], fun h => by rw [hRR]; simp [h]⟩)
    obtain ⟨A2, c2, rfl, _⟩ := hRu2.form
    have hold := rd_oldI hRu2
    have hbx := Box.new w #[.slice A2 C.length c2, .int .i64 0, .int .i64 0] 88
    have hB0 := al1 (Below.refl w.heap.size w) (.cells #[.slice A2 C.length c2, .int .i64 0, .int .i64 0] 88)
    have hQ0 := hd_ (show Qr (w.alloc (.cells #[.slice A2 C.length c2, .int .i64 0, .int .i64 0] 88)) w.heap.size (.slice A2 C.length c2) C 0 0 from ⟨hbx, hRu2.keep hB0, hold.imp id (fun hx e => by have := hx _ e; omega), Nat.zero_le _⟩)
    have hB0 := hd_ hB0
    have hI1' := hd_ (hI1.out _ _ _ hQ0.out)
    have hwa : wrap64 (4 + (a2 : Int)) = 4 + (a2 : Int) := by unfold wrap64; omega
    clear HR hR hRu hC hCb hRu2 hR1 hR2 o1 o2 o3 o4 p1 p3 p4 hCl hRR p2 hbx hI1 hold hQ0
    generalize strOfNums (B.take 4) = S at *
    go_enter Try.func15, Try.ntmps15
    go_upto_region 6 with (first
      | (go_at_call 41; (with_reducible refine hI1'.out.mono ?_); rintro e w2 ⟨rfl, P2⟩; have c2' := hI2.out w2 _ _ P2.1)
      | (go_at_call 41; (with_reducible refine c2'.mono ?_); rintro e w3 ⟨rfl, P3⟩))
    have HBa := P2.2.then hB0.out (fun k e => by rw [e]; exact Nat.le_refl _) hB0.out.size
    have HBe := hd_ (P3.2.then HBa (fun k e => by rw [e]; exact Nat.le_refl _) HBa.size)
    have q1 : w3.cell? ⟨w.heap.size, 1, none⟩ = some (.int .i64 (a2 : Int)) := P3.1.1.cell 1 rfl
    have q2 : w3.cell? ⟨w.heap.size, 2, none⟩ = some (.int .i64 e2') := P3.1.1.cell 2 rfl
    clear P2 P3 HBa c2' hI1' hI2 hB0
    by_cases h0 : e2' = 0
    · subst h0
      have hRx := hd_ (hRe.out.2 rfl)
      go_upto_region 8 with fail
      go_quiet (fail)
      go_wp2
      (try simp only [Exit.inBlock, Exit.then])
      refine bodyPost_ret (results_tmp4 rfl _ _ _) rfl ?_
      rw [hRx.out]
      exact ⟨by first | rfl | (simp only [hwa]; rfl), below_drewN HBe.out _⟩
    · have hRx := hd_ (hRe.out.1 h0)
      have hB : (e2' == 0) = false := by rw [beq_eq_false_iff_ne]; exact h0
      go_wp2
      (try simp only [Exit.inBlock, Exit.then])
      refine bodyPost_ret (results_tmp4 rfl _ _ _) rfl ?_
      rw [hRx.out]
      exact ⟨rfl, HBe.out⟩
  · rw [decide_eq_false hM] at hcmp
    have hR : pkA B = (0, 0, 0, 92) := by unfold pkA; rw [if_pos (.inr hM)]
    rw [hR]
    clear HR hR hRu
    generalize strOfNums (B.take 4) = S at *
    go_enter Try.func15, Try.ntmps15
    go_wp2
    (try simp only [Exit.inBlock, Exit.then])
    refine bodyPost_ret (results_tmp4 rfl _ _ _) rfl ?_
    exact ⟨rfl, Below.refl _ _⟩
end Go.Proofs.Ytdmogbkfmeihfaa
