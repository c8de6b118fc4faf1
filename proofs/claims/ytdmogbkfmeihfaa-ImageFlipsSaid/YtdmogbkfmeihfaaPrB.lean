/- A reader: flags, counts, digests, rows. -/
import Derived.Test.YtdmogbkfmeihfaaPrA
import Derived.Test.YtdmogbkfmeihfaaRegMid
namespace Go.Proofs.Ytdmogbkfmeihfaa
open Go.RowKit
set_option maxRecDepth 100000
set_option linter.unusedVariables false
theorem R_Count_bad (g : Nat) (v : Value) (B : List Int) (a : Nat) (err most least : Int) (w : World) (h : Rr w g v B a err) (h0 : err ≠ 0) :
    Calls Try.prog 82 #[.pointer (some ⟨g, 0, none⟩), .int .i64 most, .int .i64 least] w (RRet w g v B (.int .i64 0) a err) := by
  have hS := hd_ h
  have H0 := hd_ h0
  clear h h0
  go_enter Try.func82, Try.ntmps82
  go_wp2_with (go_at_call 106; refine (R_well_bad g v B a err _ hS.out H0.out).mono ?_; rintro e w' ⟨rfl, rfl⟩)
  go_ret
  exact ⟨rfl, hS.out.same⟩
theorem R_Count_arg (g : Nat) (v : Value) (B : List Int) (a : Nat) (most least : Int) (w : World) (h : Rr w g v B a 0) (h1 : most < 0 ∨ least < 0) :
    Calls Try.prog 82 #[.pointer (some ⟨g, 0, none⟩), .int .i64 most, .int .i64 least] w (RRet w g v B (.int .i64 0) a 1) := by
  have hS := hd_ h
  have hb := hd_ h.1
  clear h
  by_cases h2 : most < 0
  · have hd1 : decide (0 ≤ most) = false := decide_eq_false (by omega)
    clear h1
    go_enter Try.func82, Try.ntmps82
    go_wp2_with (first
      | (go_at_call 106; refine (R_well_ok g v B a _ hS.out).mono ?_; rintro e w' ⟨rfl, rfl⟩)
      | (go_at_call 96; ((with_reducible refine (must_no g _ _ 1 _ hb.out rfl (by decide) (by simp)).mono ?_); rintro e w1 ⟨rfl, hb1, hg1⟩)))
    go_ret
    exact ⟨rfl, hS.out.failed 1 hb1 hg1⟩
  · have h3 : least < 0 := h1.resolve_left h2
    have hd1 : decide (0 ≤ least) = false := decide_eq_false (by omega)
    have hm : 0 ≤ most := by omega
    clear h1 h2
    go_enter Try.func82, Try.ntmps82
    go_wp2_with (first
      | (go_at_call 106; refine (R_well_ok g v B a _ hS.out).mono ?_; rintro e w' ⟨rfl, rfl⟩)
      | (go_at_call 96; ((with_reducible refine (must_no g _ _ 1 _ hb.out rfl (by decide) (by simp)).mono ?_); rintro e w1 ⟨rfl, hb1, hg1⟩)))
    go_ret
    exact ⟨rfl, hS.out.failed 1 hb1 hg1⟩
theorem R_Count_no (g : Nat) (v : Value) (B : List Int) (a : Nat) (most least E : Int) (w : World) (h : Rr w g v B a 0) (hm0 : 0 ≤ most) (hm : most ≤ 9223372036854775807) (hl : 0 ≤ least) (hE : (uptoA B a most).2.2 = E) (hE0 : E ≠ 0) :
    Calls Try.prog 82 #[.pointer (some ⟨g, 0, none⟩), .int .i64 most, .int .i64 least] w (RRet w g v B (.int .i64 0) a E) := by
  have hS := hd_ h
  have hb := hd_ h.1
  have HE := hd_ hE
  have HE0 := hd_ hE0
  clear h hE hE0
  go_enter Try.func82, Try.ntmps82
  go_upto_region 4 with (first
    | (go_at_call 106; refine (R_well_ok g v B a _ hS.out).mono ?_; rintro e w' ⟨rfl, rfl⟩)
    | (go_at_call 96; ((with_reducible refine (must_go g _ _ 1 _ hb.out rfl).mono ?_); rintro e w1 ⟨rfl, rfl⟩))
    | (go_at_call 88; refine (R_bounded_no g v B a most E _ hS.out hm HE.out HE0.out).mono ?_; rintro e w2 ⟨⟨x2, y2, rfl⟩, HP2⟩))
  go_quiet (fail)
  go_wp2
  go_ret
  exact ⟨rfl, HP2.before (below_drewN (Below.refl _ _) _)⟩
set_option maxHeartbeats 1000000 in
theorem R_Count_short (g : Nat) (v : Value) (B : List Int) (a : Nat) (most least : Int) (u a2 : Nat) (w : World) (h : Rr w g v B a 0) (hm0 : 0 ≤ most) (hm : most ≤ 9223372036854775807) (hl : 0 < least) (hE : uptoA B a most = ((u : Int), a2, 0)) (ha2 : a2 ≤ B.length) (hs : ((B.length : Int) - a2) / least < (u : Int)) :
    Calls Try.prog 82 #[.pointer (some ⟨g, 0, none⟩), .int .i64 most, .int .i64 least] w (RRet w g v B (.int .i64 0) a 30) := by
  have hS := hd_ h
  have hb := hd_ h.1
  have HE := hd_ hE
  have hlt := h.2.1.rd.lt63
  have hq1 : w.cell? ⟨g, 1, none⟩ = some v := h.1.cell 1 rfl
  have hlen := h.2.1.rd.2.len (P := Try.prog) 22 5 3 Try.underlying22
  have hl0 : (least == 0) = false := by rw [beq_eq_false_iff_ne]; omega
  have hl1 : ¬ least = 0 := by omega
  have hlG : 0 ≤ least := by omega
  have hw1 : IntKind.i64.wrap ((B.length : Int) - (a2 : Int)) = (B.length : Int) - (a2 : Int) := by rw [IntKind.wrap_i64]; omega
  have ht1 : ((B.length : Int) - (a2 : Int)).tdiv least = ((B.length : Int) - a2) / least := Int.tdiv_eq_ediv_of_nonneg (by omega)
  have hqb : 0 ≤ ((B.length : Int) - a2) / least ∧ ((B.length : Int) - a2) / least ≤ (B.length : Int) - a2 := ⟨Int.ediv_nonneg (by omega) (by omega), Int.ediv_le_self _ (by omega)⟩
  have hw2 : IntKind.i64.wrap (((B.length : Int) - a2) / least) = ((B.length : Int) - a2) / least := by
    generalize ((B.length : Int) - a2) / least = q at *
    rw [IntKind.wrap_i64]; omega
  have hd1 : decide ((u : Int) ≤ ((B.length : Int) - a2) / least) = false := decide_eq_false (by omega)
  clear h hE hqb hs
  go_enter Try.func82, Try.ntmps82
  go_upto_region 4 with (first
    | (go_at_call 106; refine (R_well_ok g v B a _ hS.out).mono ?_; rintro e w' ⟨rfl, rfl⟩)
    | (go_at_call 96; ((with_reducible refine (must_go g _ _ 1 _ hb.out rfl).mono ?_); rintro e w1 ⟨rfl, rfl⟩))
    | (go_at_call 88; refine (R_bounded_ok g v B a most _ a2 _ hS.out hm HE.out).mono ?_; rintro e w2 ⟨rfl, HB2⟩; have q1 := cell_keep HB2 hq1))
  refine wp_region_mid 21 _ _ rfl (by kernel_rfl) (by kernel_rfl) ?_
  simp only [List.take_succ_cons, List.take_zero]
  repeat (go_big_quiet_step (fail))
  refine wpQuiet_nil ?_
  intro W1 hW1
  obtain ⟨nq, rfl⟩ := hW1
  have HB1 := hd_ (below_drewN HB2 nq)
  generalize w2.drewN nq = W1 at *
  have hS1 := hd_ (hS.out.keep HB1.out)
  have hb1 := hd_ hS1.out.1
  go_wp2_with (go_at_call 96; (with_reducible refine (must_no g _ _ 30 _ hb1.out rfl (by decide) (by simp)).mono ?_); rintro e w3 ⟨rfl, hb3, hg3⟩)
  refine MidK.go ?_
  repeat (go_big_quiet_step (fail))
  refine wpQuiet_nil ?_
  intro W2 hW2
  obtain ⟨nq2, rfl⟩ := hW2
  go_wp2
  go_ret
  exact ⟨rfl, (RrPost.after HB1.out (hS1.out.failed 30 hb3 hg3)).before (below_drewN (Below.refl _ _) _)⟩
set_option maxHeartbeats 1000000 in
theorem R_Count_ok (g : Nat) (v : Value) (B : List Int) (a : Nat) (most least : Int) (u a2 : Nat) (w : World) (h : Rr w g v B a 0) (hm0 : 0 ≤ most) (hm : most ≤ 9223372036854775807) (hl : 0 < least) (hs : ¬ ((B.length : Int) - a2) / least < (u : Int)) (hE : uptoA B a most = ((u : Int), a2, 0)) (ha2 : a2 ≤ B.length) :
    Calls Try.prog 82 #[.pointer (some ⟨g, 0, none⟩), .int .i64 most, .int .i64 least] w (RRet w g v B (.int .i64 (u : Int)) a2 0) := by
  have hS := hd_ h
  have hb := hd_ h.1
  have HE := hd_ hE
  have HA := hd_ ha2
  have hlt := h.2.1.rd.lt63
  have hq1 : w.cell? ⟨g, 1, none⟩ = some v := h.1.cell 1 rfl
  have hlen := h.2.1.rd.2.len (P := Try.prog) 22 5 3 Try.underlying22
  have hl0 : (least == 0) = false := by rw [beq_eq_false_iff_ne]; omega
  have hl1 : ¬ least = 0 := by omega
  have hlG : 0 ≤ least := by omega
  have hw1 : IntKind.i64.wrap ((B.length : Int) - (a2 : Int)) = (B.length : Int) - (a2 : Int) := by rw [IntKind.wrap_i64]; omega
  have ht1 : ((B.length : Int) - (a2 : Int)).tdiv least = ((B.length : Int) - a2) / least := Int.tdiv_eq_ediv_of_nonneg (by omega)
  have hqb : 0 ≤ ((B.length : Int) - a2) / least ∧ ((B.length : Int) - a2) / least ≤ (B.length : Int) - a2 := ⟨Int.ediv_nonneg (by omega) (by omega), Int.ediv_le_self _ (by omega)⟩
  have hw2 : IntKind.i64.wrap (((B.length : Int) - a2) / least) = ((B.length : Int) - a2) / least := by
    generalize ((B.length : Int) - a2) / least = q at *
    rw [IntKind.wrap_i64]; omega
  have hd1 : decide ((u : Int) ≤ ((B.length : Int) - a2) / least) = true := decide_eq_true (by omega)
  clear h hE hqb hs ha2
  go_enter Try.func82, Try.ntmps82
  go_upto_region 4 with (first
    | (go_at_call 106; refine (R_well_ok g v B a _ hS.out).mono ?_; rintro e w' ⟨rfl, rfl⟩)
    | (go_at_call 96; ((with_reducible refine (must_go g _ _ 1 _ hb.out rfl).mono ?_); rintro e w1 ⟨rfl, rfl⟩))
    | (go_at_call 88; refine (R_bounded_ok g v B a most _ a2 _ hS.out hm HE.out).mono ?_; rintro e w2 ⟨rfl, HB2⟩; have q1 := cell_keep HB2 hq1; have hM := hd_ (must_quiet g v B a 30 w2 (hS.out.keep HB2))))
  go_quiet ((go_at_call 96; exact Calls.quiet_of_same (hM.out _)))
  rename_i nq
  have HB1 := hd_ (below_drewN HB2 nq)
  have hS1 := hd_ (hS.out.keep HB1.out)
  clear hM
  have y2 : (w2.drewN nq).cell? ⟨g, 2, none⟩ = some (.int .i64 (a : Int)) := hS1.out.1.cell 2 rfl
  have z2 := hS1.out.1.frozen 2
  generalize w2.drewN nq = W1 at *
  go_wp2
  go_ret
  exact ⟨rfl, RrPost.after HB1.out (hS1.out.moved a2 HA.out)⟩
set_option maxHeartbeats 1000000 in
theorem R_Count_all (g : Nat) (v : Value) (B : List Int) (a : Nat) (most least : Int) (u a2 : Nat) (w : World) (h : Rr w g v B a 0) (hm0 : 0 ≤ most) (hm : most ≤ 9223372036854775807) (hl : least = 0) (hE : uptoA B a most = ((u : Int), a2, 0)) (ha2 : a2 ≤ B.length) :
    Calls Try.prog 82 #[.pointer (some ⟨g, 0, none⟩), .int .i64 most, .int .i64 least] w (RRet w g v B (.int .i64 (u : Int)) a2 0) := by
  have hS := hd_ h
  have hb := hd_ h.1
  have HE := hd_ hE
  have HA := hd_ ha2
  have hlt := h.2.1.rd.lt63
  have hq1 : w.cell? ⟨g, 1, none⟩ = some v := h.1.cell 1 rfl
  have hlen := h.2.1.rd.2.len (P := Try.prog) 22 5 3 Try.underlying22
  subst hl
  clear h hE ha2
  go_enter Try.func82, Try.ntmps82
  go_upto_region 4 with (first
    | (go_at_call 106; refine (R_well_ok g v B a _ hS.out).mono ?_; rintro e w' ⟨rfl, rfl⟩)
    | (go_at_call 96; ((with_reducible refine (must_go g _ _ 1 _ hb.out rfl).mono ?_); rintro e w1 ⟨rfl, rfl⟩))
    | (go_at_call 88; refine (R_bounded_ok g v B a most _ a2 _ hS.out hm HE.out).mono ?_; rintro e w2 ⟨rfl, HB2⟩; have q1 := cell_keep HB2 hq1; have hM := hd_ (must_quiet g v B a 30 w2 (hS.out.keep HB2))))
  go_quiet ((go_at_call 96; exact Calls.quiet_of_same (hM.out _)))
  rename_i nq
  have HB1 := hd_ (below_drewN HB2 nq)
  have hS1 := hd_ (hS.out.keep HB1.out)
  clear hM
  have y2 : (w2.drewN nq).cell? ⟨g, 2, none⟩ = some (.int .i64 (a : Int)) := hS1.out.1.cell 2 rfl
  have z2 := hS1.out.1.frozen 2
  generalize w2.drewN nq = W1 at *
  go_wp2
  go_ret
  exact ⟨rfl, RrPost.after HB1.out (hS1.out.moved a2 HA.out)⟩
theorem R_Count_any (g : Nat) (v : Value) (B : List Int) (a : Nat) (err most least : Int) (w : World) (h : Rr w g v B a err) (hm : most ≤ 9223372036854775807) :
    Calls Try.prog 82 #[.pointer (some ⟨g, 0, none⟩), .int .i64 most, .int .i64 least] w (RRet w g v B (.int .i64 (rCount B a err most least).1) (rCount B a err most least).2.1 (rCount B a err most least).2.2) := by
  unfold rCount
  by_cases h0 : err = 0
  · subst h0
    rw [if_neg (by simp)]
    by_cases h1 : most < 0 ∨ least < 0
    · rw [if_pos h1]; exact R_Count_arg g v B a most least w h h1
    · rw [if_neg h1]
      rcases uptoA_cases B h.2.1.1 a h.2.2 most (by omega) with ⟨E, hE, e⟩ | ⟨u, k, e, k1, _, _, _, _, _⟩
      · rw [e, if_pos (by simp only; omega)]
        exact R_Count_no g v B a most least E w h (by omega) hm (by omega) (by rw [e]) (by omega)
      · have e' := e
        rw [e, if_neg (by simp)]
        by_cases hl : 0 < least
        · by_cases hs : ((B.length : Int) - ((a + k : Nat) : Int)) / least < (u : Int)
          · rw [if_pos ⟨hl, hs⟩]
            exact R_Count_short g v B a most least u (a + k) w h (by omega) hm hl e' k1 hs
          · rw [if_neg (fun h => hs h.2)]
            exact R_Count_ok g v B a most least u (a + k) w h (by omega) hm hl hs e' k1
        · rw [if_neg (fun h => hl h.1)]
          exact R_Count_all g v B a most least u (a + k) w h (by omega) hm (by omega) e' k1
  · rw [if_pos h0]; exact R_Count_bad g v B a err most least w h h0
theorem getD_take32 {l : List Int} {j : Nat} (hj : j < 32) : (l.take 32).getD j 0 = l.getD j 0 := by
  rw [List.getD_eq_getElem?_getD, List.getD_eq_getElem?_getD, List.getElem?_take_of_lt hj]
theorem grown_rr {w w1 : World} {g g1 : Nat} {v : Value} {B : List Int} {a : Nat} {err : Int} {t : TypeId} {cs : Array Value} (h : Rr w g v B a err) (hb : Box w g1 t cs) (hg : w.grownBy w1 (some g1)) (hne : g1 ≠ g) (ht : 5 ≠ t) : Rr w1 g v B a err :=
  ⟨h.1.grown hg (fun e => hne (by injection e with e; exact e.symm)), h.2.1.kept hg (.inr (own_box h.2.1 hb ht)), h.2.2⟩
/-- the post, of a call that has also written into variables of its own -/
theorem rr_post {w w0 w1 : World} {g : Nat} {v : Value} {B : List Int} {a : Nat} {err : Int} {S : Nat → Prop} (hB : Below w.heap.size w w0) (hc : Chg S w0 w1) (hs : ∀ b, b < w.heap.size → S b → b = g) (h : Rr w1 g v B a err) : RrPost w g v B a err w1 :=
  ⟨h, ⟨hc.os.trans hB.os, hc.tape.trans hB.tape, hc.output.trans hB.output, Nat.le_trans hB.size hc.size, fun b hb hn => (hc.block b (Nat.lt_of_lt_of_le hb hB.size) fun h => hn (hs b hb h)).trans (hB.block b hb)⟩⟩
/-- a row's steps -/
theorem rRow_steps (B : List Int) (a : Nat) : rRow B a 0 =
    if (rInt B (rText B (rText B a 0 1024).2.1 (rText B a 0 1024).2.2 65536).2.1 (rText B (rText B a 0 1024).2.1 (rText B a 0 1024).2.2 65536).2.2 1152921504606846976).2.2 ≠ 0 then (([], [], 0), a, (rInt B (rText B (rText B a 0 1024).2.1 (rText B a 0 1024).2.2 65536).2.1 (rText B (rText B a 0 1024).2.1 (rText B a 0 1024).2.2 65536).2.2 1152921504606846976).2.2)
    else if (rText B a 0 1024).1 = [] ∨ (rInt B (rText B (rText B a 0 1024).2.1 (rText B a 0 1024).2.2 65536).2.1 (rText B (rText B a 0 1024).2.1 (rText B a 0 1024).2.2 65536).2.2 1152921504606846976).1 = 0 then (([], [], 0), a, 32)
    else (((rText B a 0 1024).1, (rText B (rText B a 0 1024).2.1 (rText B a 0 1024).2.2 65536).1, (rInt B (rText B (rText B a 0 1024).2.1 (rText B a 0 1024).2.2 65536).2.1 (rText B (rText B a 0 1024).2.1 (rText B a 0 1024).2.2 65536).2.2 1152921504606846976).1), (rInt B (rText B (rText B a 0 1024).2.1 (rText B a 0 1024).2.2 65536).2.1 (rText B (rText B a 0 1024).2.1 (rText B a 0 1024).2.2 65536).2.2 1152921504606846976).2.1, 0) := by
  have hbad : ∀ (b : Nat) (E m : Int), E ≠ 0 → rText B b E m = ([], b, E) := fun b E m h => by unfold rText; rw [if_pos h]
  have hbadI : ∀ (b : Nat) (E m : Int), E ≠ 0 → rInt B b E m = (0, b, E) := fun b E m h => by unfold rInt; rw [if_pos h]
  have ht : ∀ (b : Nat) (m : Int), rText B b 0 m = if (textA B b m).2.2 ≠ 0 then ([], b, (textA B b m).2.2) else textA B b m := fun b m => by unfold rText; rw [if_neg (by simp)]
  have hi : ∀ (b : Nat) (m : Int), rInt B b 0 m = if (uptoA B b m).2.2 ≠ 0 then (0, b, (uptoA B b m).2.2) else uptoA B b m := fun b m => by unfold rInt; rw [if_neg (by simp)]
  unfold rRow rowA
  rw [if_neg (by simp), ht a 1024]
  by_cases h1 : (textA B a 1024).2.2 ≠ 0
  · rw [if_pos h1, if_pos h1]
    simp only [hbad _ _ _ h1, hbadI _ _ _ h1]
    rw [if_pos h1]
  · have h1' : (textA B a 1024).2.2 = 0 := by simpa using h1
    rw [if_neg h1, if_neg h1, h1', ht (textA B a 1024).2.1 65536]
    generalize textA B a 1024 = t1 at *
    by_cases h2 : (textA B t1.2.1 65536).2.2 ≠ 0
    · rw [if_pos h2, if_pos h2]
      simp only [hbadI _ _ _ h2]
      rw [if_pos h2]
    · have h2' : (textA B t1.2.1 65536).2.2 = 0 := by simpa using h2
      rw [if_neg h2, if_neg h2, h2', hi]
      generalize textA B t1.2.1 65536 = t2 at *
      by_cases h3 : (uptoA B t2.2.1 1152921504606846976).2.2 ≠ 0
      · rw [if_pos h3, if_pos h3]
        simp only
        rw [if_pos h3]
      · rw [if_neg h3, if_neg h3]
        rw [if_neg h3]
theorem strOfNums_size (l : List Int) : (strOfNums l).size = l.length := by simp [strOfNums, ByteArray.size]
theorem rowC_one (k u : ByteArray) (n : Int) : (rowC k u n).all (·.oneCell') = true := by unfold rowC; simp [Value.oneCell']
theorem RrPost.trans' {w w1 w2 : World} {g : Nat} {v : Value} {B : List Int} {a a1 : Nat} {err e1 : Int} (h : RrPost w g v B a err w1) (h2 : RrPost w1 g v B a1 e1 w2) : RrPost w g v B a1 e1 w2 := h2.trans h.2
theorem infoRw : (Try.prog.info? 61).map (·.size) = some 3 := by kernel_rfl
set_option maxHeartbeats 1000000 in
theorem R_Row_bad (g : Nat) (v : Value) (B : List Int) (a : Nat) (err : Int) (w : World) (h : Rr w g v B a err) (h0 : err ≠ 0) :
    Calls Try.prog 107 #[.pointer (some ⟨g, 0, none⟩)] w (RRet w g v B (.agg (rowC (strOfNums []) (strOfNums []) 0)) a err) := by
  have hb1 := Box.new w #[.string ⟨#[]⟩, .string ⟨#[]⟩, .int .i64 0] 61
  have hB0 := al1 (Below.refl w.heap.size w) (.cells #[.string ⟨#[]⟩, .string ⟨#[]⟩, .int .i64 0] 61)
  have hS0 := hd_ (h.keep hB0)
  have H0 := hd_ h0
  have NR := hd_ (box_box hb1 (h.keep hB0).1 (by decide))
  clear h h0
  go_enter Try.func107, Try.ntmps107
  go_upto_region 1 with fail
  generalize w.alloc (.cells #[.string ⟨#[]⟩, .string ⟨#[]⟩, .int .i64 0] 61) = W0 at *
  go_wp2_with (first
    | (go_at_call 106; refine (R_well_bad g v B a err _ hS0.out H0.out).mono ?_; rintro e w' ⟨rfl, rfl⟩)
    | (refine store_box rfl 61 _ _ rfl w.heap.size 61 _ #[.string ⟨#[]⟩, .string ⟨#[]⟩, .int .i64 0] rfl rfl hb1 infoRw rfl (rowC_one _ _ _) ?_; intro w9 hb9 hg9))
  refine bodyPost_ret (results_cell1 rfl _ _ _ rfl (run_load_box _ _ _ _ _ hb9 Try.underlying61 rfl infoRw)) rfl ⟨rfl, ?_⟩
  exact rr_post hB0 (Chg.of hg9) (fun b hb hs => by injection hs; omega) (grown_rr hS0.out hb1 hg9 NR.out (by decide))
set_option maxHeartbeats 1000000 in
theorem R_Row_fail (g : Nat) (v : Value) (B : List Int) (a a1 a2 a3 : Nat) (l1 l2 : List Int) (e1 e2 e3 n : Int) (w : World) (h : Rr w g v B a 0) (h1 : rText B a 0 1024 = (l1, a1, e1)) (h2 : rText B a1 e1 65536 = (l2, a2, e2)) (h3 : rInt B a2 e2 1152921504606846976 = (n, a3, e3)) (h0 : e3 ≠ 0) :
    Calls Try.prog 107 #[.pointer (some ⟨g, 0, none⟩)] w (RRet w g v B (.agg (rowC (strOfNums []) (strOfNums []) 0)) a e3) := by
  have hb1 := Box.new w #[.string ⟨#[]⟩, .string ⟨#[]⟩, .int .i64 0] 61
  have hB0 := al1 (Below.refl w.heap.size w) (.cells #[.string ⟨#[]⟩, .string ⟨#[]⟩, .int .i64 0] 61)
  have hS0 := hd_ (h.keep hB0)
  have H0 := hd_ h0
  have H1 := hd_ h1
  have H2 := hd_ h2
  have H3 := hd_ h3
  have HA := hd_ h.2.2
  have NR := hd_ (box_box hb1 (h.keep hB0).1 (by decide))
  clear h h0 h1 h2 h3
  go_enter Try.func107, Try.ntmps107
  go_upto_region 1 with fail
  generalize w.alloc (.cells #[.string ⟨#[]⟩, .string ⟨#[]⟩, .int .i64 0] 61) = W0 at *
  have q2 : W0.cell? ⟨g, 2, none⟩ = some (.int .i64 (a : Int)) := hS0.out.1.cell 2 rfl
  go_upto_region 5 with (first
    | (go_at_call 106; refine (R_well_ok g v B a _ hS0.out).mono ?_; rintro e w' ⟨rfl, rfl⟩)
    | (go_at_call 118; (with_reducible refine (R_Text_any g v B a 0 1024 W0 hS0.out (by decide)).mono ?_); rintro e w2 ⟨rfl, HP2⟩; rw [H1.out] at HP2 ⊢; have hR2 := hd_ HP2.1)
    | (go_at_call 118; (with_reducible refine (R_Text_any g v B a1 e1 65536 w2 hR2.out (by decide)).mono ?_); rintro e w3 ⟨rfl, HP3⟩; rw [H2.out] at HP3 ⊢; have hR3 := hd_ HP3.1)
    | (go_at_call 62; (with_reducible refine (R_Int_any g v B a2 e2 1152921504606846976 w3 hR3.out (by decide)).mono ?_); rintro e w4 ⟨rfl, HP4⟩; rw [H3.out] at HP4 ⊢))
  have hal := al1 (Below.refl w4.heap.size w4) (.cells #[.string (strOfNums l1), .string (strOfNums l2), .int .i64 n] 61)
  have hR4 := hd_ (HP4.1.keep hal)
  have HPa := (((HP2.trans' HP3).trans' HP4).before hal)
  have hb14 := hd_ (hb1.chg HPa.2 NR.out)
  have hPa := hd_ HPa
  clear HP2 HP3 HP4 hb1 hR2 hR3 q2 HPa hal
  generalize w4.alloc (.cells #[.string (strOfNums l1), .string (strOfNums l2), .int .i64 n] 61) = W5 at *
  have y0 : W5.cell? ⟨g, 0, none⟩ = some (.int .i64 e3) := hR4.out.1.cell 0 rfl
  have hBe : (e3 == 0) = false := by rw [beq_eq_false_iff_ne]; exact H0.out
  go_quiet (fail)
  rename_i nq
  have HB6 := hd_ (below_drewN (Below.refl W5.heap.size W5) nq)
  have hR6 := hd_ (hR4.out.keep HB6.out)
  have hb16 := hd_ (hb14.out.keep HB6.out)
  clear y0
  generalize W5.drewN nq = W6 at *
  have y2 : W6.cell? ⟨g, 2, none⟩ = some (.int .i64 (a3 : Int)) := hR6.out.1.cell 2 rfl
  have z2 := hR6.out.1.frozen 2
  have hMv := hR6.out.moved a HA.out
  have hb17 := hb16.out.chg hMv.2 NR.out
  have HMv := hd_ hMv
  clear hMv
  go_wp2_with (refine store_box rfl 61 _ _ rfl w.heap.size 61 _ #[.string ⟨#[]⟩, .string ⟨#[]⟩, .int .i64 0] rfl rfl hb17 infoRw rfl (rowC_one _ _ _) ?_; intro w9 hb9 hg9)
  refine bodyPost_ret (results_cell1 rfl _ _ _ rfl (run_load_box _ _ _ _ _ hb9 Try.underlying61 rfl infoRw)) rfl ⟨rfl, ?_⟩
  have HPz := (hPa.out.before HB6.out).trans' HMv.out
  exact rr_post hB0 (S := fun k => k = g ∨ w.heap.size ≤ k) ((HPz.2.mono fun _ _ h => Or.inl h).trans (Chg.of hg9) fun b hb hs => .inr (by injection hs; omega)) (fun b hb hs => by omega) (grown_rr HMv.out.1 hb17 hg9 NR.out (by decide))
set_option maxHeartbeats 1000000 in
theorem R_Row_form (g : Nat) (v : Value) (B : List Int) (a a1 a2 a3 : Nat) (l1 l2 : List Int) (e1 e2 n : Int) (w : World) (h : Rr w g v B a 0) (h1 : rText B a 0 1024 = (l1, a1, e1)) (h2 : rText B a1 e1 65536 = (l2, a2, e2)) (h3 : rInt B a2 e2 1152921504606846976 = (n, a3, 0)) (hf : l1 = [] ∨ n = 0) :
    Calls Try.prog 107 #[.pointer (some ⟨g, 0, none⟩)] w (RRet w g v B (.agg (rowC (strOfNums []) (strOfNums []) 0)) a 32) := by
  have HF := hd_ hf
  clear hf
  have hb1 := Box.new w #[.string ⟨#[]⟩, .string ⟨#[]⟩, .int .i64 0] 61
  have hB0 := al1 (Below.refl w.heap.size w) (.cells #[.string ⟨#[]⟩, .string ⟨#[]⟩, .int .i64 0] 61)
  have hS0 := hd_ (h.keep hB0)
  have H1 := hd_ h1
  have H2 := hd_ h2
  have H3 := hd_ h3
  have HA := hd_ h.2.2
  have NR := hd_ (box_box hb1 (h.keep hB0).1 (by decide))
  clear h h1 h2 h3
  go_enter Try.func107, Try.ntmps107
  go_upto_region 1 with fail
  generalize w.alloc (.cells #[.string ⟨#[]⟩, .string ⟨#[]⟩, .int .i64 0] 61) = W0 at *
  have q2 : W0.cell? ⟨g, 2, none⟩ = some (.int .i64 (a : Int)) := hS0.out.1.cell 2 rfl
  go_upto_region 5 with (first
    | (go_at_call 106; refine (R_well_ok g v B a _ hS0.out).mono ?_; rintro e w' ⟨rfl, rfl⟩)
    | (go_at_call 118; (with_reducible refine (R_Text_any g v B a 0 1024 W0 hS0.out (by decide)).mono ?_); rintro e w2 ⟨rfl, HP2⟩; rw [H1.out] at HP2 ⊢; have hR2 := hd_ HP2.1)
    | (go_at_call 118; (with_reducible refine (R_Text_any g v B a1 e1 65536 w2 hR2.out (by decide)).mono ?_); rintro e w3 ⟨rfl, HP3⟩; rw [H2.out] at HP3 ⊢; have hR3 := hd_ HP3.1)
    | (go_at_call 62; (with_reducible refine (R_Int_any g v B a2 e2 1152921504606846976 w3 hR3.out (by decide)).mono ?_); rintro e w4 ⟨rfl, HP4⟩; rw [H3.out] at HP4 ⊢))
  have hrow := Box.new w4 #[.string (strOfNums l1), .string (strOfNums l2), .int .i64 n] 61
  have NR2 := hd_ (box_box hrow (HP4.1.keep (al1 (Below.refl w4.heap.size w4) (.cells #[.string (strOfNums l1), .string (strOfNums l2), .int .i64 n] 61))).1 (by decide))
  have NW := hd_ (show w.heap.size < w4.heap.size from Nat.lt_of_lt_of_le hb1.lt (((HP2.trans' HP3).trans' HP4).2.size))
  have hal := al1 (Below.refl w4.heap.size w4) (.cells #[.string (strOfNums l1), .string (strOfNums l2), .int .i64 n] 61)
  have hR4 := hd_ (HP4.1.keep hal)
  have HPa := (((HP2.trans' HP3).trans' HP4).before hal)
  have hb14 := hd_ (hb1.chg HPa.2 NR.out)
  have hPa := hd_ HPa
  clear HP2 HP3 HP4 hb1 hR2 hR3 q2 HPa hal
  generalize w4.alloc (.cells #[.string (strOfNums l1), .string (strOfNums l2), .int .i64 n] 61) = W5 at *
  by_cases hk : l1 = []
  · have hkL : (strOfNums l1).toList = [] := toList_nil (by rw [strOfNums_size, hk]; rfl)
    have hkE : (strOfNums l1).toList.isEmpty = true := by rw [hkL]; rfl
    clear hk
    have y0 : W5.cell? ⟨g, 0, none⟩ = some (.int .i64 0) := hR4.out.1.cell 0 rfl
    have x0 : W5.cell? ⟨w4.heap.size, 0, none⟩ = some (.string (strOfNums l1)) := hrow.cell 0 rfl
    have x2 : W5.cell? ⟨w4.heap.size, 2, none⟩ = some (.int .i64 n) := hrow.cell 2 rfl
    generalize strOfNums l1 = K at *
    refine wp_region_mid 18 _ _ rfl (by kernel_rfl) (by kernel_rfl) ?_
    simp only [List.take_succ_cons, List.take_zero]
    repeat (go_big_quiet_step (fail))
    refine wpQuiet_nil ?_
    intro W6 hW6
    obtain ⟨nq, rfl⟩ := hW6
    have HB6 := hd_ (below_drewN (Below.refl W5.heap.size W5) nq)
    have hR6 := hd_ (hR4.out.keep HB6.out)
    have hbr := hd_ hR6.out.1
    have hb16 := hd_ (hb14.out.keep HB6.out)
    clear y0 x0 x2
    generalize W5.drewN nq = W6 at *
    go_wp2_with (go_at_call 96; (with_reducible refine (must_no g _ _ 32 _ hbr.out rfl (by decide) (by simp)).mono ?_); rintro e w7 ⟨rfl, hb7, hg7⟩)
    refine MidK.go ?_
    repeat (go_big_quiet_step (fail))
    refine wpQuiet_nil ?_
    intro W7 hW7
    obtain ⟨nq2, rfl⟩ := hW7
    have HP7 := (hR6.out.failed 32 hb7 hg7).before (below_drewN (Below.refl _ _) nq2)
    have y2 : (w7.drewN nq2).cell? ⟨g, 2, none⟩ = some (.int .i64 (a3 : Int)) := HP7.1.1.cell 2 rfl
    have z2 := HP7.1.1.frozen 2
    have hMv := HP7.1.moved a HA.out
    have hb17 := (hb16.out.chg HP7.2 NR.out).chg hMv.2 NR.out
    have HMv := hd_ (HP7.trans' hMv)
    clear hMv HP7 hb7 hg7
    generalize w7.drewN nq2 = W7 at *
    go_wp2_with (refine store_box rfl 61 _ _ rfl w.heap.size 61 _ #[.string ⟨#[]⟩, .string ⟨#[]⟩, .int .i64 0] rfl rfl hb17 infoRw rfl (rowC_one _ _ _) ?_; intro w9 hb9 hg9)
    refine bodyPost_ret (results_cell1 rfl _ _ _ rfl (run_load_box _ _ _ _ _ hb9 Try.underlying61 rfl infoRw)) rfl ⟨rfl, ?_⟩
    have HPz := (hPa.out.before HB6.out).trans' HMv.out
    exact rr_post hB0 (S := fun k => k = g ∨ w.heap.size ≤ k) ((HPz.2.mono fun _ _ h => Or.inl h).trans (Chg.of hg9) fun b hb hs => .inr (by injection hs; omega)) (fun b hb hs => by omega) (grown_rr HMv.out.1 hb17 hg9 NR.out (by decide))
  · have hkL : ¬ (strOfNums l1).toList = [] := toList_ne (by rw [strOfNums_size]; exact fun h => hk (List.eq_nil_of_length_eq_zero h))
    have hkE : (strOfNums l1).toList.isEmpty = false := by rw [List.isEmpty_eq_false_iff]; exact hkL
    have hn0 : (n == 0) = true := by rw [beq_iff_eq]; exact HF.out.resolve_left hk
    have hn1 : (n != 0) = false := by rw [bne, hn0]; rfl
    clear hk
    have y0 : W5.cell? ⟨g, 0, none⟩ = some (.int .i64 0) := hR4.out.1.cell 0 rfl
    have x0 : W5.cell? ⟨w4.heap.size, 0, none⟩ = some (.string (strOfNums l1)) := hrow.cell 0 rfl
    have x2 : W5.cell? ⟨w4.heap.size, 2, none⟩ = some (.int .i64 n) := hrow.cell 2 rfl
    generalize strOfNums l1 = K at *
    refine wp_region_mid 18 _ _ rfl (by kernel_rfl) (by kernel_rfl) ?_
    simp only [List.take_succ_cons, List.take_zero]
    repeat (go_big_quiet_step (fail))
    refine wpQuiet_nil ?_
    intro W6 hW6
    obtain ⟨nq, rfl⟩ := hW6
    have HB6 := hd_ (below_drewN (Below.refl W5.heap.size W5) nq)
    have hR6 := hd_ (hR4.out.keep HB6.out)
    have hbr := hd_ hR6.out.1
    have hb16 := hd_ (hb14.out.keep HB6.out)
    clear y0 x0 x2
    generalize W5.drewN nq = W6 at *
    go_wp2_with (go_at_call 96; (with_reducible refine (must_no g _ _ 32 _ hbr.out rfl (by decide) (by simp)).mono ?_); rintro e w7 ⟨rfl, hb7, hg7⟩)
    refine MidK.go ?_
    repeat (go_big_quiet_step (fail))
    refine wpQuiet_nil ?_
    intro W7 hW7
    obtain ⟨nq2, rfl⟩ := hW7
    have HP7 := (hR6.out.failed 32 hb7 hg7).before (below_drewN (Below.refl _ _) nq2)
    have y2 : (w7.drewN nq2).cell? ⟨g, 2, none⟩ = some (.int .i64 (a3 : Int)) := HP7.1.1.cell 2 rfl
    have z2 := HP7.1.1.frozen 2
    have hMv := HP7.1.moved a HA.out
    have hb17 := (hb16.out.chg HP7.2 NR.out).chg hMv.2 NR.out
    have HMv := hd_ (HP7.trans' hMv)
    clear hMv HP7 hb7 hg7
    generalize w7.drewN nq2 = W7 at *
    go_wp2_with (refine store_box rfl 61 _ _ rfl w.heap.size 61 _ #[.string ⟨#[]⟩, .string ⟨#[]⟩, .int .i64 0] rfl rfl hb17 infoRw rfl (rowC_one _ _ _) ?_; intro w9 hb9 hg9)
    refine bodyPost_ret (results_cell1 rfl _ _ _ rfl (run_load_box _ _ _ _ _ hb9 Try.underlying61 rfl infoRw)) rfl ⟨rfl, ?_⟩
    have HPz := (hPa.out.before HB6.out).trans' HMv.out
    exact rr_post hB0 (S := fun k => k = g ∨ w.heap.size ≤ k) ((HPz.2.mono fun _ _ h => Or.inl h).trans (Chg.of hg9) fun b hb hs => .inr (by injection hs; omega)) (fun b hb hs => by omega) (grown_rr HMv.out.1 hb17 hg9 NR.out (by decide))
set_option maxHeartbeats 1000000 in
theorem R_Row_ok (g : Nat) (v : Value) (B : List Int) (a a1 a2 a3 : Nat) (l1 l2 : List Int) (e1 e2 n : Int) (w : World) (h : Rr w g v B a 0) (h1 : rText B a 0 1024 = (l1, a1, e1)) (h2 : rText B a1 e1 65536 = (l2, a2, e2)) (h3 : rInt B a2 e2 1152921504606846976 = (n, a3, 0)) (hf : ¬ (l1 = [] ∨ n = 0)) :
    Calls Try.prog 107 #[.pointer (some ⟨g, 0, none⟩)] w (RRet w g v B (.agg (rowC (strOfNums l1) (strOfNums l2) n)) a3 0) := by
  have HF := hd_ hf
  clear hf
  have hb1 := Box.new w #[.string ⟨#[]⟩, .string ⟨#[]⟩, .int .i64 0] 61
  have hB0 := al1 (Below.refl w.heap.size w) (.cells #[.string ⟨#[]⟩, .string ⟨#[]⟩, .int .i64 0] 61)
  have hS0 := hd_ (h.keep hB0)
  have H1 := hd_ h1
  have H2 := hd_ h2
  have H3 := hd_ h3
  have HA := hd_ h.2.2
  have NR := hd_ (box_box hb1 (h.keep hB0).1 (by decide))
  clear h h1 h2 h3
  go_enter Try.func107, Try.ntmps107
  go_upto_region 1 with fail
  generalize w.alloc (.cells #[.string ⟨#[]⟩, .string ⟨#[]⟩, .int .i64 0] 61) = W0 at *
  have q2 : W0.cell? ⟨g, 2, none⟩ = some (.int .i64 (a : Int)) := hS0.out.1.cell 2 rfl
  go_upto_region 5 with (first
    | (go_at_call 106; refine (R_well_ok g v B a _ hS0.out).mono ?_; rintro e w' ⟨rfl, rfl⟩)
    | (go_at_call 118; (with_reducible refine (R_Text_any g v B a 0 1024 W0 hS0.out (by decide)).mono ?_); rintro e w2 ⟨rfl, HP2⟩; rw [H1.out] at HP2 ⊢; have hR2 := hd_ HP2.1)
    | (go_at_call 118; (with_reducible refine (R_Text_any g v B a1 e1 65536 w2 hR2.out (by decide)).mono ?_); rintro e w3 ⟨rfl, HP3⟩; rw [H2.out] at HP3 ⊢; have hR3 := hd_ HP3.1)
    | (go_at_call 62; (with_reducible refine (R_Int_any g v B a2 e2 1152921504606846976 w3 hR3.out (by decide)).mono ?_); rintro e w4 ⟨rfl, HP4⟩; rw [H3.out] at HP4 ⊢))
  have hrow := Box.new w4 #[.string (strOfNums l1), .string (strOfNums l2), .int .i64 n] 61
  have NR2 := hd_ (box_box hrow (HP4.1.keep (al1 (Below.refl w4.heap.size w4) (.cells #[.string (strOfNums l1), .string (strOfNums l2), .int .i64 n] 61))).1 (by decide))
  have NW := hd_ (show w.heap.size < w4.heap.size from Nat.lt_of_lt_of_le hb1.lt (((HP2.trans' HP3).trans' HP4).2.size))
  have hal := al1 (Below.refl w4.heap.size w4) (.cells #[.string (strOfNums l1), .string (strOfNums l2), .int .i64 n] 61)
  have hR4 := hd_ (HP4.1.keep hal)
  have HPa := (((HP2.trans' HP3).trans' HP4).before hal)
  have hb14 := hd_ (hb1.chg HPa.2 NR.out)
  have hPa := hd_ HPa
  clear HP2 HP3 HP4 hb1 hR2 hR3 q2 HPa hal
  generalize w4.alloc (.cells #[.string (strOfNums l1), .string (strOfNums l2), .int .i64 n] 61) = W5 at *
  have hkL : ¬ (strOfNums l1).toList = [] := toList_ne (by rw [strOfNums_size]; exact fun h => HF.out (.inl (List.eq_nil_of_length_eq_zero h)))
  have hkE : (strOfNums l1).toList.isEmpty = false := by rw [List.isEmpty_eq_false_iff]; exact hkL
  have hn0 : (n == 0) = false := by rw [beq_eq_false_iff_ne]; exact fun h => HF.out (.inr h)
  have hn1 : (n != 0) = true := by rw [bne, hn0]; rfl
  have y0 : W5.cell? ⟨g, 0, none⟩ = some (.int .i64 0) := hR4.out.1.cell 0 rfl
  have x0 : W5.cell? ⟨w4.heap.size, 0, none⟩ = some (.string (strOfNums l1)) := hrow.cell 0 rfl
  have x2 : W5.cell? ⟨w4.heap.size, 2, none⟩ = some (.int .i64 n) := hrow.cell 2 rfl
  generalize strOfNums l1 = K at *
  have hM := hd_ (must_quiet g v B a3 32 W5 hR4.out)
  go_quiet ((go_at_call 96; exact Calls.quiet_of_same (hM.out _)))
  rename_i nq
  have HB6 := hd_ (below_drewN (Below.refl W5.heap.size W5) nq)
  have hR6 := hd_ (hR4.out.keep HB6.out)
  have hb16 := hb14.out.keep HB6.out
  have hrow6 := hrow.keep HB6.out
  clear y0 x0 x2 hM hrow
  generalize W5.drewN nq = W6 at *
  go_wp2_with (first
    | (refine load_box rfl 61 _ rfl w4.heap.size 61 #[.string K, .string (strOfNums l2), .int .i64 n] _ rfl hrow6 Try.underlying61 rfl infoRw ?_)
    | (refine store_box rfl 61 _ _ rfl w.heap.size 61 _ #[.string K, .string (strOfNums l2), .int .i64 n] rfl rfl hb16 infoRw rfl (rowC_one _ _ _) ?_; intro w9 hb9 hg9))
  refine bodyPost_ret (results_cell1 rfl _ _ _ rfl (run_load_box _ _ _ _ _ hb9 Try.underlying61 rfl infoRw)) rfl ⟨rfl, ?_⟩
  have HPz := hPa.out.before HB6.out
  exact rr_post hB0 (S := fun k => k = g ∨ w.heap.size ≤ k) ((HPz.2.mono fun _ _ h => Or.inl h).trans (Chg.of hg9) fun b hb hs => .inr (by injection hs; omega)) (fun b hb hs => by omega) (grown_rr hR6.out hb16 hg9 NR.out (by decide))
theorem R_Row_any (g : Nat) (v : Value) (B : List Int) (a : Nat) (err : Int) (w : World) (h : Rr w g v B a err) :
    Calls Try.prog 107 #[.pointer (some ⟨g, 0, none⟩)] w (RRet w g v B (.agg (rowC (strOfNums (rRow B a err).1.1) (strOfNums (rRow B a err).1.2.1) (rRow B a err).1.2.2)) (rRow B a err).2.1 (rRow B a err).2.2) := by
  by_cases h0 : err = 0
  · subst h0
    rw [rRow_steps]
    obtain ⟨l1, a1, e1, h1⟩ : ∃ l1 a1 e1, rText B a 0 1024 = (l1, a1, e1) := ⟨_, _, _, rfl⟩
    obtain ⟨l2, a2, e2, h2⟩ : ∃ l2 a2 e2, rText B a1 e1 65536 = (l2, a2, e2) := ⟨_, _, _, rfl⟩
    obtain ⟨n, a3, e3, h3⟩ : ∃ n a3 e3, rInt B a2 e2 1152921504606846976 = (n, a3, e3) := ⟨_, _, _, rfl⟩
    simp only [h1, h2, h3]
    by_cases h4 : e3 ≠ 0
    · rw [if_pos h4]; exact R_Row_fail g v B a a1 a2 a3 l1 l2 e1 e2 e3 n w h h1 h2 h3 h4
    · obtain rfl : e3 = 0 := by simpa using h4
      rw [if_neg h4]
      by_cases h5 : l1 = [] ∨ n = 0
      · rw [if_pos h5]; exact R_Row_form g v B a a1 a2 a3 l1 l2 e1 e2 n w h h1 h2 h3 h5
      · rw [if_neg h5]; exact R_Row_ok g v B a a1 a2 a3 l1 l2 e1 e2 n w h h1 h2 h3 h5
  · have hR : rRow B a err = (([], [], 0), a, err) := by unfold rRow; rw [if_pos h0]
    rw [hR]
    exact R_Row_bad g v B a err w h h0
end Go.Proofs.Ytdmogbkfmeihfaa
