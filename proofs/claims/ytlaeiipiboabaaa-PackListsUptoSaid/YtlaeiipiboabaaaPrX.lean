/- The reader of the document and its calls. -/
import Derived.Test.YtlaeiipiboabaaaPrB
import Derived.Test.YtlaeiipiboabaaaPwX
namespace Go.Proofs.Ytlaeiipiboabaaa
open Go.RowKit
set_option maxRecDepth 100000
set_option linter.unusedVariables false
/-- three answers, the world as it was -/
def Tri (x : Value) (n : Nat) (E : Int) (w : World) (e : Ending) (w' : World) : Prop := e = .returned (.tuple #[x, .int .i64 (n : Int), .int .i64 E]) ∧ w = w'
theorem Q_number_any (v : Value) (B : List Int) (a : Nat) (w : World) (HR : Rd w v B) (ha : a ≤ B.length) :
    Calls Try.prog 88 #[v, .int .i64 (a : Int)] w (Tri (.int .u64 (numA B a).1) (numA B a).2.1 (numA B a).2.2 w) := by
  have hlt := HR.lt63
  obtain ⟨y, hs0, hR⟩ := HR.sl_l Try.underlying25 infoB a ha
  have hs : ∀ (W : World), Sem.run Try.prog (Instr.slice 25 v (some (Value.int IntKind.i64 (a : Int))) none none) W = Result.ok y W := hs0
  have hD := ref_Read_any y (B.drop a) w hR
  have hB := HR.1
  clear hs0 hR HR
  rcases numA_cases B hB a ha with ⟨E, hE, e1, e2⟩ | ⟨u, k, e1, e2, h1, h2, h2', _, hu64⟩
  · rw [e2]
    rw [e1] at hD
    have HD := hd_ hD
    clear e1 e2 hD
    rcases hE with rfl | rfl | rfl
    all_goals
      go_enter Try.func88, Try.ntmps88
      go_wp2_with (go_at_call 89; refine HD.out.mono ?_; rintro e w' ⟨rfl, rfl⟩)
      go_ret3
      exact ⟨rfl, rfl⟩
  · rw [e2]
    rw [e1] at hD
    have HD := hd_ hD
    clear e1 e2 hD
    obtain ⟨a2, ha2⟩ : ∃ a2, a + k = a2 := ⟨_, rfl⟩
    have ha2' : (a : Int) + (k : Int) = (a2 : Int) := by omega
    rw [ha2]
    clear ha2
    go_enter Try.func88, Try.ntmps88
    go_wp2_with (go_at_call 89; refine HD.out.mono ?_; rintro e w' ⟨rfl, rfl⟩)
    go_ret3
    exact ⟨rfl, rfl⟩
theorem Q_upto_any (v : Value) (B : List Int) (a : Nat) (most : Int) (w : World) (HR : Rd w v B) (ha : a ≤ B.length) (hm : most ≤ 9223372036854775807) :
    Calls Try.prog 85 #[v, .int .i64 (a : Int), .int .i64 most] w (Tri (.int .i64 (uptoA B a most).1) (uptoA B a most).2.1 (uptoA B a most).2.2 w) := by
  have hN := Q_number_any v B a w HR ha
  have hB := HR.1
  unfold uptoA
  by_cases h0 : most < 0
  · rw [if_pos h0]
    clear hN HR
    go_enter Try.func85, Try.ntmps85
    go_wp2
    go_ret3
    exact ⟨rfl, rfl⟩
  rw [if_neg h0]
  have hm0 : 0 ≤ most := by omega
  rcases numA_cases B hB a ha with ⟨E, hE, e1, e2⟩ | ⟨u, k, e1, e2, h1, h2, h2', _, hu64⟩
  · rw [e2, if_pos (by simp only; omega)]
    rw [e2] at hN
    have HN := hd_ hN
    have hE1 : (E + 20 == 0) = false := by rw [beq_eq_false_iff_ne]; omega
    have hE2 : (E + 20 != 0) = true := by rw [bne, hE1]; rfl
    clear e1 e2 hN HR hE
    generalize E + 20 = F at *
    go_enter Try.func85, Try.ntmps85
    go_wp2_with (go_at_call 88; refine HN.out.mono ?_; rintro e w' ⟨rfl, rfl⟩)
    go_ret3
    exact ⟨rfl, rfl⟩
  · rw [e2, if_neg (by simp)]
    rw [e2] at hN
    have HN := hd_ hN
    clear e1 e2 hN HR
    generalize a + k = a2 at *
    by_cases hu : most < (u : Int)
    · rw [if_pos hu]
      go_enter Try.func85, Try.ntmps85
      go_wp2_with (go_at_call 88; refine HN.out.mono ?_; rintro e w' ⟨rfl, rfl⟩)
      go_ret3
      exact ⟨rfl, rfl⟩
    · rw [if_neg hu]
      go_enter Try.func85, Try.ntmps85
      go_wp2_with (go_at_call 88; refine HN.out.mono ?_; rintro e w' ⟨rfl, rfl⟩)
      go_ret3
      exact ⟨rfl, rfl⟩
theorem Q_text_any (v : Value) (B : List Int) (a : Nat) (most : Int) (w : World) (HR : Rd w v B) (ha : a ≤ B.length) (hm : most ≤ 9223372036854775807) :
    Calls Try.prog 87 #[v, .int .i64 (a : Int), .int .i64 most] w (Tri (.string (strOfNums (textA B a most).1)) (textA B a most).2.1 (textA B a most).2.2 w) := by
  have hN := Q_upto_any v B a most w HR ha hm
  have hB := HR.1
  have hlt := HR.lt63
  have hlen := HR.2.len (P := Try.prog) 25 5 3 Try.underlying25
  unfold textA
  rcases uptoA_cases B hB a ha most (by omega) with ⟨E, hE, e2⟩ | ⟨u, k, e2, h1, h2, _, h4, h5, h6⟩
  · rw [e2, if_pos (by simp only; omega)]
    rw [e2] at hN
    have HN := hd_ hN
    have hE1 : (E == 0) = false := by rw [beq_eq_false_iff_ne]; omega
    have hE2 : (E != 0) = true := by rw [bne, hE1]; rfl
    clear e2 hN HR hE
    go_enter Try.func87, Try.ntmps87
    go_wp2_with (go_at_call 85; refine HN.out.mono ?_; rintro e w' ⟨rfl, rfl⟩)
    go_ret3
    exact ⟨rfl, rfl⟩
  · rw [e2, if_neg (by simp)]
    rw [e2] at hN
    have HN := hd_ hN
    clear e2 hN
    generalize a + k = a2 at *
    simp only
    by_cases hu : (B.length : Int) - (a2 : Int) < (u : Int)
    · rw [if_pos hu]
      clear HR
      have hd1 : decide ((B.length : Int) - (a2 : Int) < (u : Int)) = true := decide_eq_true hu
      go_enter Try.func87, Try.ntmps87
      go_wp2_with (go_at_call 85; refine HN.out.mono ?_; rintro e w' ⟨rfl, rfl⟩)
      go_ret3
      exact ⟨rfl, rfl⟩
    · rw [if_neg hu, Int.toNat_natCast]
      have hd1 : decide ((B.length : Int) - (a2 : Int) < (u : Int)) = false := decide_eq_false hu
      obtain ⟨y, hs0, hR⟩ := HR.sl Try.underlying25 infoB a2 (a2 + u) (by omega) (by omega)
      rw [cut_cut] at hR
      have hs : ∀ (W : World), Sem.run Try.prog (Instr.slice 25 v (some (Value.int IntKind.i64 (a2 : Int))) (some (Value.int IntKind.i64 ((a2 : Int) + (u : Int)))) none) W = Result.ok y W := fun W => by
        have := hs0 W
        rwa [Int.natCast_add] at this
      have hcv := hR.str (P := Try.prog) 25 5 9 Try.underlying25 Try.underlying5 Try.underlying9
      clear HR hR hs0
      generalize (B.drop a2).take u = T at *
      obtain ⟨a3, ha3⟩ : ∃ a3, a2 + u = a3 := ⟨_, rfl⟩
      have ha3' : (a2 : Int) + (u : Int) = (a3 : Int) := by omega
      rw [ha3]
      clear ha3
      rw [ha3'] at hs
      go_enter Try.func87, Try.ntmps87
      go_wp2_with (go_at_call 85; refine HN.out.mono ?_; rintro e w' ⟨rfl, rfl⟩)
      go_ret3
      exact ⟨rfl, rfl⟩
theorem Rd.chgE {S : Nat → Prop} {w w1 : World} {v : Value} {xs : List Int} (hr : Rd w v xs) (h : Chg S w w1) (hn : xs = [] ∨ ∀ k, v.ownBlock = some k → ¬ S k) : Rd w1 v xs := by
  rcases hn with rfl | hn
  · obtain ⟨hb, hl, A, cap, hv, h1, h2, h3, h4⟩ := hr
    exact ⟨hb, hl, A, cap, hv, h1, h2, h3, fun j hj => absurd hj (Nat.not_lt_zero j)⟩
  · exact hr.chg h hn
/-- the document's reader -/
def Qr (W : World) (g : Nat) (v : Value) (B : List Int) (a : Nat) (err : Int) : Prop :=
  Box W g 72 #[v, .int .i64 (a : Int), .int .i64 err] ∧ Rd W v B ∧ (B = [] ∨ v.ownBlock ≠ some g) ∧ a ≤ B.length
def QrPost (w : World) (g : Nat) (v : Value) (B : List Int) (a : Nat) (err : Int) (w' : World) : Prop := Qr w' g v B a err ∧ Chg (fun k => k = g) w w'
def QRet (w : World) (g : Nat) (v : Value) (B : List Int) (x : Value) (a : Nat) (err : Int) (e : Ending) (w' : World) : Prop := e = .returned x ∧ QrPost w g v B a err w'
section
variable {w w1 w2 : World} {g : Nat} {v : Value} {B : List Int} {a a1 : Nat} {err e1 : Int}
theorem Qr.same (h : Qr w g v B a err) : QrPost w g v B a err w := ⟨h, Chg.refl _ _⟩
theorem Qr.keep (h : Qr w g v B a err) (hb : Below w.heap.size w w1) : Qr w1 g v B a err := ⟨h.1.keep hb, h.2.1.keep hb, h.2.2⟩
theorem Qr.later (h : Qr w g v B a err) (hb : Below w.heap.size w w1) : QrPost w g v B a err w1 := ⟨h.keep hb, Chg.below hb⟩
theorem QrPost.trans (h : QrPost w g v B a err w1) (h2 : QrPost w1 g v B a1 e1 w2) : QrPost w g v B a1 e1 w2 := ⟨h2.1, h.2.trans h2.2 fun _ _ h => h⟩
theorem QrPost.after (hb : Below w.heap.size w w1) (h2 : QrPost w1 g v B a err w2) : QrPost w g v B a err w2 := ⟨h2.1, (Chg.below hb).trans h2.2 fun _ _ h => h⟩
theorem QrPost.before (h : QrPost w g v B a err w1) (hb : Below w1.heap.size w1 w2) : QrPost w g v B a err w2 := ⟨h.1.keep hb, h.2.trans (Chg.below hb) fun _ _ h => h⟩
theorem Qr.set (h : Qr w g v B a err) (j : Nat) (u : Value) (a2 : Nat) (e2 : Int) (ha : a2 ≤ B.length) (hc : #[v, .int .i64 (a : Int), .int .i64 err].setIfInBounds j u = #[v, .int .i64 (a2 : Int), .int .i64 e2]) : QrPost w g v B a2 e2 (w.setCell ⟨g, j, none⟩ u) := by
  obtain ⟨hb, hg⟩ := h.1.put j u
  rw [hc] at hb
  exact ⟨⟨hb, h.2.1.chgE (Chg.of hg) (h.2.2.1.imp id fun hx k hk e => hx (hk.trans e)), h.2.2.1, ha⟩, Chg.grown hg (fun b _ hb => by injection hb)⟩
end
def QFailRet (w : World) (g : Nat) (v : Value) (B : List Int) (a : Nat) (err : Int) (e : Ending) (w' : World) : Prop := e = .returned (.tuple #[]) ∧ QrPost w g v B a err w'
theorem Q_Fail_any (g : Nat) (v : Value) (B : List Int) (a : Nat) (err e : Int) (w : World) (h : Qr w g v B a err) : Calls Try.prog 73 #[.pointer (some ⟨g, 0, none⟩), .int .i64 e] w (QFailRet w g v B a (rFail err e)) := by
  have q2 : w.cell? ⟨g, 2, none⟩ = some (.int .i64 err) := h.1.cell 2 rfl
  have z2 := h.1.frozen 2
  have hS := hd_ h
  unfold rFail
  by_cases h0 : err = 0
  · subst h0
    rw [if_pos rfl]
    clear h
    go_enter Try.func73, Try.ntmps73
    go_wp2
    go_end0
    exact ⟨rfl, hS.out.set 2 (.int .i64 e) a e hS.out.2.2.2 rfl⟩
  · rw [if_neg h0]
    have hB : (err == 0) = false := by rw [beq_eq_false_iff_ne]; exact h0
    clear h
    go_enter Try.func73, Try.ntmps73
    go_wp2
    go_end0
    exact ⟨rfl, hS.out.same⟩
theorem Q_done_no (g : Nat) (v : Value) (B : List Int) (a : Nat) (E : Int) (x : Nat) (w : World) (h : Qr w g v B a 0) (hE : E ≠ 0) : Calls Try.prog 86 #[.pointer (some ⟨g, 0, none⟩), .int .i64 (x : Int), .int .i64 E] w (QRet w g v B (.bool false) a E) := by
  have hS := hd_ h
  have hE1 : (E == 0) = false := by rw [beq_eq_false_iff_ne]; omega
  have hE2 : (E != 0) = true := by rw [bne, hE1]; rfl
  clear h
  go_enter Try.func86, Try.ntmps86
  go_wp2_with (go_at_call 73; refine (Q_Fail_any g v B a 0 E _ hS.out).mono ?_; rintro en w1 ⟨rfl, HP⟩)
  go_ret
  exact ⟨rfl, HP⟩
theorem Q_done_ok (g : Nat) (v : Value) (B : List Int) (a a2 : Nat) (w : World) (h : Qr w g v B a 0) (ha2 : a2 ≤ B.length) : Calls Try.prog 86 #[.pointer (some ⟨g, 0, none⟩), .int .i64 (a2 : Int), .int .i64 0] w (QRet w g v B (.bool true) a2 0) := by
  have hS := hd_ h
  have q1 : w.cell? ⟨g, 1, none⟩ = some (.int .i64 (a : Int)) := h.1.cell 1 rfl
  have z1 := h.1.frozen 1
  have HA := hd_ ha2
  clear h ha2
  go_enter Try.func86, Try.ntmps86
  go_wp2
  go_ret
  exact ⟨rfl, hS.out.set 1 (.int .i64 (a2 : Int)) a2 0 HA.out rfl⟩
theorem tri_quiet {f : FuncId} {args : Array Value} {x : Value} {n : Nat} {E : Int} {w : World} (m : Nat) (h : Calls Try.prog f args (w.drewN m) (Tri x n E (w.drewN m))) : Calls Try.prog f args (w.drewN m) fun e w' => e = .returned (.tuple #[x, .int .i64 (n : Int), .int .i64 E]) ∧ w' = w.drewN m :=
  h.mono fun _ _ h => ⟨h.1, h.2.symm⟩
set_option maxHeartbeats 1000000 in
theorem Q_Uint_any (g : Nat) (v : Value) (B : List Int) (a : Nat) (err : Int) (w : World) (h : Qr w g v B a err) :
    Calls Try.prog 76 #[.pointer (some ⟨g, 0, none⟩)] w (QRet w g v B (.int .u64 (rUint B a err).1) (rUint B a err).2.1 (rUint B a err).2.2) := by
  have hS := hd_ h
  have q0 : w.cell? ⟨g, 0, none⟩ = some v := h.1.cell 0 rfl
  have q1 : w.cell? ⟨g, 1, none⟩ = some (.int .i64 (a : Int)) := h.1.cell 1 rfl
  have q2 : w.cell? ⟨g, 2, none⟩ = some (.int .i64 err) := h.1.cell 2 rfl
  by_cases h0 : err = 0
  · subst h0
    have hN : ∀ m : Nat, _ := fun m => tri_quiet m (Q_number_any v B a _ (h.2.1.keep (below_drewN (Below.refl _ _) m)) h.2.2.2)
    have hcs : (∃ E : Int, E ≠ 0 ∧ numA B a = (0, 0, E) ∧ rUint B a 0 = (0, a, E)) ∨ ∃ x a2, numA B a = (x, a2, 0) ∧ rUint B a 0 = (x, a2, 0) ∧ a2 ≤ B.length := by
      unfold rUint
      rcases numA_cases B h.2.1.1 a h.2.2.2 with ⟨E, hE, _, e2⟩ | ⟨u, k, _, e2, h1, _, _, _, _⟩
      · exact .inl ⟨E + 20, by omega, e2, by rw [if_neg (by simp), e2, if_pos (by simp only; omega)]⟩
      · exact .inr ⟨_, _, e2, by rw [if_neg (by simp), e2, if_neg (by simp)], by omega⟩
    rcases hcs with ⟨E, hE, e1, e2⟩ | ⟨x, a2, e1, e2, ha2⟩
    · rw [e2]
      rw [e1] at hN
      have HN := hd_ hN
      have HE := hd_ hE
      clear hN e1 e2 h hE
      go_enter Try.func76, Try.ntmps76
      go_upto_region 3 with fail
      go_quiet ((go_at_call 88; exact Calls.quiet_of_same (HN.out _)))
      rename_i nq
      have hS1 := hd_ (hS.out.keep (below_drewN (Below.refl w.heap.size w) nq))
      have HB1 := hd_ (below_drewN (Below.refl w.heap.size w) nq)
      clear HN
      generalize w.drewN nq = W1 at *
      go_wp2_with (go_at_call 86; refine (Q_done_no g v B a E 0 W1 hS1.out HE.out).mono ?_; rintro e w2 ⟨rfl, HP2⟩)
      go_ret
      exact ⟨rfl, HP2.after HB1.out⟩
    · rw [e2]
      rw [e1] at hN
      have HN := hd_ hN
      have HA := hd_ ha2
      clear hN e1 e2 h ha2
      go_enter Try.func76, Try.ntmps76
      go_upto_region 3 with fail
      go_quiet ((go_at_call 88; exact Calls.quiet_of_same (HN.out _)))
      rename_i nq
      have hS1 := hd_ (hS.out.keep (below_drewN (Below.refl w.heap.size w) nq))
      have HB1 := hd_ (below_drewN (Below.refl w.heap.size w) nq)
      clear HN
      generalize w.drewN nq = W1 at *
      go_wp2_with (go_at_call 86; refine (Q_done_ok g v B a a2 W1 hS1.out HA.out).mono ?_; rintro e w2 ⟨rfl, HP2⟩)
      go_ret
      exact ⟨rfl, HP2.after HB1.out⟩
  · have hR : rUint B a err = (0, a, err) := by unfold rUint; rw [if_pos h0]
    rw [hR]
    have hB : (err == 0) = false := by rw [beq_eq_false_iff_ne]; exact h0
    have hB2 : (err != 0) = true := by rw [bne, hB]; rfl
    clear h hR h0
    go_enter Try.func76, Try.ntmps76
    go_wp2
    go_ret
    exact ⟨rfl, hS.out.same⟩
set_option maxHeartbeats 1000000 in
theorem Q_Int_any (g : Nat) (v : Value) (B : List Int) (a : Nat) (err most : Int) (w : World) (h : Qr w g v B a err) (hm : most ≤ 9223372036854775807) :
    Calls Try.prog 72 #[.pointer (some ⟨g, 0, none⟩), .int .i64 most] w (QRet w g v B (.int .i64 (rInt B a err most).1) (rInt B a err most).2.1 (rInt B a err most).2.2) := by
  have hS := hd_ h
  have q0 : w.cell? ⟨g, 0, none⟩ = some v := h.1.cell 0 rfl
  have q1 : w.cell? ⟨g, 1, none⟩ = some (.int .i64 (a : Int)) := h.1.cell 1 rfl
  have q2 : w.cell? ⟨g, 2, none⟩ = some (.int .i64 err) := h.1.cell 2 rfl
  by_cases h0 : err = 0
  · subst h0
    have hN : ∀ m : Nat, _ := fun m => tri_quiet m (Q_upto_any v B a most _ (h.2.1.keep (below_drewN (Below.refl _ _) m)) h.2.2.2 hm)
    have hcs : (∃ E : Int, E ≠ 0 ∧ uptoA B a most = (0, 0, E) ∧ rInt B a 0 most = (0, a, E)) ∨ ∃ x a2, uptoA B a most = (x, a2, 0) ∧ rInt B a 0 most = (x, a2, 0) ∧ a2 ≤ B.length := by
      unfold rInt
      rcases uptoA_cases B h.2.1.1 a h.2.2.2 most (by omega) with ⟨E, hE, e2⟩ | ⟨u, k, e2, h1, _, _, _, _, _⟩
      · exact .inl ⟨E, by omega, e2, by rw [if_neg (by simp), e2, if_pos (by simp only; omega)]⟩
      · exact .inr ⟨_, _, e2, by rw [if_neg (by simp), e2, if_neg (by simp)], by omega⟩
    rcases hcs with ⟨E, hE, e1, e2⟩ | ⟨x, a2, e1, e2, ha2⟩
    · rw [e2]
      rw [e1] at hN
      have HN := hd_ hN
      have HE := hd_ hE
      clear hN e1 e2 h hE
      go_enter Try.func72, Try.ntmps72
      go_upto_region 3 with fail
      go_quiet ((go_at_call 85; exact Calls.quiet_of_same (HN.out _)))
      rename_i nq
      have hS1 := hd_ (hS.out.keep (below_drewN (Below.refl w.heap.size w) nq))
      have HB1 := hd_ (below_drewN (Below.refl w.heap.size w) nq)
      clear HN
      generalize w.drewN nq = W1 at *
      go_wp2_with (go_at_call 86; refine (Q_done_no g v B a E 0 W1 hS1.out HE.out).mono ?_; rintro e w2 ⟨rfl, HP2⟩)
      go_ret
      exact ⟨rfl, HP2.after HB1.out⟩
    · rw [e2]
      rw [e1] at hN
      have HN := hd_ hN
      have HA := hd_ ha2
      clear hN e1 e2 h ha2
      go_enter Try.func72, Try.ntmps72
      go_upto_region 3 with fail
      go_quiet ((go_at_call 85; exact Calls.quiet_of_same (HN.out _)))
      rename_i nq
      have hS1 := hd_ (hS.out.keep (below_drewN (Below.refl w.heap.size w) nq))
      have HB1 := hd_ (below_drewN (Below.refl w.heap.size w) nq)
      clear HN
      generalize w.drewN nq = W1 at *
      go_wp2_with (go_at_call 86; refine (Q_done_ok g v B a a2 W1 hS1.out HA.out).mono ?_; rintro e w2 ⟨rfl, HP2⟩)
      go_ret
      exact ⟨rfl, HP2.after HB1.out⟩
  · have hR : rInt B a err most = (0, a, err) := by unfold rInt; rw [if_pos h0]
    rw [hR]
    have hB : (err == 0) = false := by rw [beq_eq_false_iff_ne]; exact h0
    have hB2 : (err != 0) = true := by rw [bne, hB]; rfl
    clear h hR h0
    go_enter Try.func72, Try.ntmps72
    go_wp2
    go_ret
    exact ⟨rfl, hS.out.same⟩
set_option maxHeartbeats 1000000 in
theorem Q_Text_any (g : Nat) (v : Value) (B : List Int) (a : Nat) (err most : Int) (w : World) (h : Qr w g v B a err) (hm : most ≤ 9223372036854775807) :
    Calls Try.prog 74 #[.pointer (some ⟨g, 0, none⟩), .int .i64 most] w (QRet w g v B (.string (strOfNums (rText B a err most).1)) (rText B a err most).2.1 (rText B a err most).2.2) := by
  have hS := hd_ h
  have q0 : w.cell? ⟨g, 0, none⟩ = some v := h.1.cell 0 rfl
  have q1 : w.cell? ⟨g, 1, none⟩ = some (.int .i64 (a : Int)) := h.1.cell 1 rfl
  have q2 : w.cell? ⟨g, 2, none⟩ = some (.int .i64 err) := h.1.cell 2 rfl
  by_cases h0 : err = 0
  · subst h0
    have hN : ∀ m : Nat, _ := fun m => tri_quiet m (Q_text_any v B a most _ (h.2.1.keep (below_drewN (Below.refl _ _) m)) h.2.2.2 hm)
    have hcs : (∃ E : Int, E ≠ 0 ∧ textA B a most = ([], 0, E) ∧ rText B a 0 most = ([], a, E)) ∨ ∃ x a2, textA B a most = (x, a2, 0) ∧ rText B a 0 most = (x, a2, 0) ∧ a2 ≤ B.length := by
      unfold rText
      rcases textA_cases B h.2.1.1 a h.2.2.2 most (by omega) with ⟨E, hE, e2⟩ | ⟨n, k, _, e2, h1, _, _, _, _, _⟩
      · exact .inl ⟨E, by omega, e2, by rw [if_neg (by simp), e2, if_pos (by simp only; omega)]⟩
      · exact .inr ⟨_, _, e2, by rw [if_neg (by simp), e2, if_neg (by simp)], by omega⟩
    rcases hcs with ⟨E, hE, e1, e2⟩ | ⟨x, a2, e1, e2, ha2⟩
    · rw [e2]
      rw [e1] at hN
      have HN := hd_ hN
      have HE := hd_ hE
      clear hN e1 e2 h hE
      go_enter Try.func74, Try.ntmps74
      go_upto_region 3 with fail
      go_quiet ((go_at_call 87; exact Calls.quiet_of_same (HN.out _)))
      rename_i nq
      have hS1 := hd_ (hS.out.keep (below_drewN (Below.refl w.heap.size w) nq))
      have HB1 := hd_ (below_drewN (Below.refl w.heap.size w) nq)
      clear HN
      generalize w.drewN nq = W1 at *
      go_wp2_with (go_at_call 86; refine (Q_done_no g v B a E 0 W1 hS1.out HE.out).mono ?_; rintro e w2 ⟨rfl, HP2⟩)
      go_ret
      exact ⟨rfl, HP2.after HB1.out⟩
    · rw [e2]
      rw [e1] at hN
      have HN := hd_ hN
      have HA := hd_ ha2
      clear hN e1 e2 h ha2
      go_enter Try.func74, Try.ntmps74
      go_upto_region 3 with fail
      go_quiet ((go_at_call 87; exact Calls.quiet_of_same (HN.out _)))
      rename_i nq
      have hS1 := hd_ (hS.out.keep (below_drewN (Below.refl w.heap.size w) nq))
      have HB1 := hd_ (below_drewN (Below.refl w.heap.size w) nq)
      clear HN
      generalize w.drewN nq = W1 at *
      go_wp2_with (go_at_call 86; refine (Q_done_ok g v B a a2 W1 hS1.out HA.out).mono ?_; rintro e w2 ⟨rfl, HP2⟩)
      go_ret
      exact ⟨rfl, HP2.after HB1.out⟩
  · have hR : rText B a err most = ([], a, err) := by unfold rText; rw [if_pos h0]
    rw [hR]
    have hB : (err == 0) = false := by rw [beq_eq_false_iff_ne]; exact h0
    have hB2 : (err != 0) = true := by rw [bne, hB]; rfl
    clear h hR h0
    go_enter Try.func74, Try.ntmps74
    go_wp2
    go_ret
    exact ⟨rfl, hS.out.same⟩
theorem Q_End_any (g : Nat) (v : Value) (B : List Int) (a : Nat) (err : Int) (w : World) (h : Qr w g v B a err) :
    Calls Try.prog 75 #[.pointer (some ⟨g, 0, none⟩)] w fun e w' => e = .returned (.int .i64 (rEnd B a err)) ∧ Below w.heap.size w w' := by
  have q0 : w.cell? ⟨g, 0, none⟩ = some v := h.1.cell 0 rfl
  have q1 : w.cell? ⟨g, 1, none⟩ = some (.int .i64 (a : Int)) := h.1.cell 1 rfl
  have q2 : w.cell? ⟨g, 2, none⟩ = some (.int .i64 err) := h.1.cell 2 rfl
  have hlen := h.2.1.2.len (P := Try.prog) 25 5 3 Try.underlying25
  clear h
  by_cases h0 : err = 0
  · subst h0
    by_cases h1 : a < B.length
    · have hE : rEnd B a 0 = 34 := by unfold rEnd; rw [if_pos ⟨rfl, h1⟩]
      rw [hE]
      have h1I : (a : Int) < (B.length : Int) := by omega
      go_enter Try.func75, Try.ntmps75
      go_wp2
      go_quiet (fail)
      go_wp2
      go_ret
      exact ⟨rfl, below_drewN (Below.refl _ _) _⟩
    · have hE : rEnd B a 0 = 0 := by unfold rEnd; rw [if_neg (fun h => h1 h.2)]
      rw [hE]
      have h1I : ¬ (a : Int) < (B.length : Int) := by omega
      go_enter Try.func75, Try.ntmps75
      go_wp2
      go_quiet (fail)
      go_wp2
      go_ret
      exact ⟨rfl, below_drewN (Below.refl _ _) _⟩
  · have hE : rEnd B a err = err := by unfold rEnd; rw [if_neg (fun h => h0 h.1)]
    rw [hE]
    have hB : (err == 0) = false := by rw [beq_eq_false_iff_ne]; exact h0
    go_enter Try.func75, Try.ntmps75
    go_wp2
    go_quiet (fail)
    go_wp2
    go_ret
    exact ⟨rfl, below_drewN (Below.refl _ _) _⟩
set_option maxHeartbeats 1000000 in
theorem Q_Flag_any (g : Nat) (v : Value) (B : List Int) (a : Nat) (err : Int) (w : World) (h : Qr w g v B a err) :
    Calls Try.prog 77 #[.pointer (some ⟨g, 0, none⟩)] w (QRet w g v B (.bool (rFlag B a err).1) (rFlag B a err).2.1 (rFlag B a err).2.2) := by
  have hS := hd_ h
  have q0 : w.cell? ⟨g, 0, none⟩ = some v := h.1.cell 0 rfl
  have q1 : w.cell? ⟨g, 1, none⟩ = some (.int .i64 (a : Int)) := h.1.cell 1 rfl
  have q2 : w.cell? ⟨g, 2, none⟩ = some (.int .i64 err) := h.1.cell 2 rfl
  have hlen := h.2.1.2.len (P := Try.prog) 25 5 3 Try.underlying25
  have hlt := h.2.1.lt63
  have hle := h.2.2.2
  unfold rFlag
  by_cases h0 : err = 0
  · subst h0
    rw [if_neg (by simp)]
    by_cases h1 : B.length ≤ a
    · rw [if_pos h1]
      have h1I : ((a : Int) == (B.length : Int)) = true := by rw [beq_iff_eq]; omega
      clear h
      go_enter Try.func77, Try.ntmps77
      go_wp2
      go_quiet (fail)
      rename_i nq
      have hS1 := hd_ (hS.out.keep (below_drewN (Below.refl w.heap.size w) nq))
      have HB1 := hd_ (below_drewN (Below.refl w.heap.size w) nq)
      clear q0 q1 q2
      generalize w.drewN nq = W1 at *
      go_wp2_with (go_at_call 73; refine (Q_Fail_any g v B a 0 30 W1 hS1.out).mono ?_; rintro e w2 ⟨rfl, HP2⟩)
      go_ret
      exact ⟨rfl, HP2.after HB1.out⟩
    · rw [if_neg h1]
      have h1I : ((a : Int) == (B.length : Int)) = false := by rw [beq_eq_false_iff_ne]; omega
      have h1J : ¬ (a : Int) = (B.length : Int) := by omega
      obtain ⟨bl, off, hat0, hcell⟩ := h.2.1.at Try.underlying25 infoB .i64 a (by omega)
      have hat : ∀ W, Sem.run Try.prog (Instr.indexAt 25 v (Value.int IntKind.i64 (a : Int))) W = .ok (.pointer (some ⟨bl, off, none⟩)) W := hat0
      obtain ⟨x, hx⟩ : ∃ x, B.getD a 0 = x := ⟨_, rfl⟩
      rw [hx] at hcell ⊢
      have HX := hd_ hx
      clear hat0 hx h
      by_cases h2 : 1 < x
      · rw [if_pos h2]
        go_enter Try.func77, Try.ntmps77
        go_wp2
        go_quiet (fail)
        rename_i nq
        have hS1 := hd_ (hS.out.keep (below_drewN (Below.refl w.heap.size w) nq))
        have HB1 := hd_ (below_drewN (Below.refl w.heap.size w) nq)
        have y0 : (w.drewN nq).cell? ⟨g, 0, none⟩ = some v := q0
        have y1 : (w.drewN nq).cell? ⟨g, 1, none⟩ = some (.int .i64 (a : Int)) := q1
        have ycell := cell_keep HB1.out hcell
        clear q0 q1 q2 hcell
        generalize w.drewN nq = W1 at *
        go_upto_region 6 with fail
        go_quiet (fail)
        have hS2 := hd_ (hS1.out.keep (below_drewN (Below.refl W1.heap.size W1) nq))
        have HB2 := hd_ (below_drewN HB1.out nq)
        clear y0 y1 ycell
        generalize W1.drewN nq = W2 at *
        go_wp2_with (go_at_call 73; refine (Q_Fail_any g v B a 0 32 W2 hS2.out).mono ?_; rintro e w2 ⟨rfl, HP2⟩)
        go_ret
        exact ⟨rfl, HP2.after HB2.out⟩
      · rw [if_neg h2]
        have HA := hd_ (show a + 1 ≤ B.length by omega)
        go_enter Try.func77, Try.ntmps77
        go_wp2
        go_quiet (fail)
        rename_i nq
        have hS1 := hd_ (hS.out.keep (below_drewN (Below.refl w.heap.size w) nq))
        have HB1 := hd_ (below_drewN (Below.refl w.heap.size w) nq)
        have y0 : (w.drewN nq).cell? ⟨g, 0, none⟩ = some v := q0
        have y1 : (w.drewN nq).cell? ⟨g, 1, none⟩ = some (.int .i64 (a : Int)) := q1
        have ycell := cell_keep HB1.out hcell
        clear q0 q1 q2 hcell
        generalize w.drewN nq = W1 at *
        go_upto_region 6 with fail
        go_quiet (fail)
        have hS2 := hd_ (hS1.out.keep (below_drewN (Below.refl W1.heap.size W1) nq))
        have HB2 := hd_ (below_drewN HB1.out nq)
        clear y0 y1 ycell hat
        generalize W1.drewN nq = W2 at *
        have y1 : W2.cell? ⟨g, 1, none⟩ = some (.int .i64 (a : Int)) := hS2.out.1.cell 1 rfl
        have z1 := hS2.out.1.frozen 1
        have hM := hS2.out.set 1 (.int .i64 ((a + 1 : Nat) : Int)) (a + 1) 0 HA.out rfl
        rw [show ((a + 1 : Nat) : Int) = (a : Int) + 1 from Int.natCast_succ a] at hM
        have HM := hd_ hM
        clear hM
        go_upto_region 10 with fail
        clear y1 z1
        generalize W2.setCell ⟨g, 1, none⟩ (.int .i64 ((a : Int) + 1)) = W3 at *
        obtain ⟨bl2, off2, hat20, hcell2⟩ := HM.out.1.2.1.at Try.underlying25 infoB .i64 a (by omega)
        rw [HX.out] at hcell2
        have hat2 : ∀ W, Sem.run Try.prog (Instr.indexAt 25 v (Value.int IntKind.i64 (a : Int))) W = .ok (.pointer (some ⟨bl2, off2, none⟩)) W := hat20
        clear hat20
        have y0 : W3.cell? ⟨g, 0, none⟩ = some v := HM.out.1.1.cell 0 rfl
        have y1 : W3.cell? ⟨g, 1, none⟩ = some (.int .i64 ((a + 1 : Nat) : Int)) := HM.out.1.1.cell 1 rfl
        rw [show ((a + 1 : Nat) : Int) = (a : Int) + 1 from Int.natCast_succ a] at y1
        have hw1 : IntKind.i64.wrap ((a : Int) + 1 - 1) = (a : Int) := by rw [IntKind.wrap_i64]; omega
        have hw3 : IntKind.i64.wrap (a : Int) = (a : Int) := by rw [IntKind.wrap_i64]; omega
        go_quiet (fail)
        go_wp2
        go_ret
        exact ⟨rfl, (HM.out.after HB2.out).before (below_drewN (Below.refl _ _) _)⟩
  · rw [if_pos h0]
    have hB : (err == 0) = false := by rw [beq_eq_false_iff_ne]; exact h0
    have hB2 : (err != 0) = true := by rw [bne, hB]; rfl
    clear h h0
    go_enter Try.func77, Try.ntmps77
    go_wp2
    go_ret
    exact ⟨rfl, hS.out.same⟩
set_option maxHeartbeats 1000000 in
theorem Q_Count_any (g : Nat) (v : Value) (B : List Int) (a : Nat) (err most least : Int) (w : World) (h : Qr w g v B a err) (hm : most ≤ 9223372036854775807) (hl0 : least ≤ 9223372036854775807) :
    Calls Try.prog 71 #[.pointer (some ⟨g, 0, none⟩), .int .i64 most, .int .i64 least] w (QRet w g v B (.int .i64 (rCount B a err most least).1) (rCount B a err most least).2.1 (rCount B a err most least).2.2) := by
  have hS := hd_ h
  have q0 : w.cell? ⟨g, 0, none⟩ = some v := h.1.cell 0 rfl
  have q1 : w.cell? ⟨g, 1, none⟩ = some (.int .i64 (a : Int)) := h.1.cell 1 rfl
  have q2 : w.cell? ⟨g, 2, none⟩ = some (.int .i64 err) := h.1.cell 2 rfl
  have hlen := h.2.1.2.len (P := Try.prog) 25 5 3 Try.underlying25
  have hlt := h.2.1.lt63
  unfold rCount
  by_cases h0 : err = 0
  · subst h0
    rw [if_neg (by simp)]
    by_cases h1 : most < 0 ∨ least < 0
    · rw [if_pos h1]
      clear h
      by_cases h2 : most < 0
      · clear h1
        go_enter Try.func71, Try.ntmps71
        go_wp2_with (go_at_call 73; refine (Q_Fail_any g v B a 0 1 w hS.out).mono ?_; rintro e w2 ⟨rfl, HP2⟩)
        go_ret
        exact ⟨rfl, HP2⟩
      · have h3 : least < 0 := h1.resolve_left h2
        clear h1
        go_enter Try.func71, Try.ntmps71
        go_wp2_with (go_at_call 73; refine (Q_Fail_any g v B a 0 1 w hS.out).mono ?_; rintro e w2 ⟨rfl, HP2⟩)
        go_ret
        exact ⟨rfl, HP2⟩
    · rw [if_neg h1]
      have hm0 : ¬ most < 0 := fun h => h1 (.inl h)
      have hl1 : ¬ least < 0 := fun h => h1 (.inr h)
      clear h1
      have hN : ∀ m : Nat, _ := fun m => tri_quiet m (Q_upto_any v B a most _ (h.2.1.keep (below_drewN (Below.refl _ _) m)) h.2.2.2 hm)
      rcases uptoA_cases B h.2.1.1 a h.2.2.2 most (by omega) with ⟨E, hE, e2⟩ | ⟨u, k, e2, k1, _, _, _, _, k6⟩
      · rw [e2, if_pos (by simp only; omega)]
        rw [e2] at hN
        have HN := hd_ hN
        have HE := hd_ (show E ≠ 0 by omega)
        have hE1 : (E == 0) = false := by rw [beq_eq_false_iff_ne]; omega
        have hE2 : (E != 0) = true := by rw [bne, hE1]; rfl
        clear hN e2 h hE
        go_enter Try.func71, Try.ntmps71
        go_upto_region 6 with fail
        go_quiet ((go_at_call 85; exact Calls.quiet_of_same (HN.out _)))
        rename_i nq
        have hS1 := hd_ (hS.out.keep (below_drewN (Below.refl w.heap.size w) nq))
        have HB1 := hd_ (below_drewN (Below.refl w.heap.size w) nq)
        clear HN q0 q1 q2
        generalize w.drewN nq = W1 at *
        go_wp2_with (go_at_call 86; refine (Q_done_no g v B a E 0 W1 hS1.out HE.out).mono ?_; rintro e w2 ⟨rfl, HP2⟩)
        go_ret
        exact ⟨rfl, HP2.after HB1.out⟩
      · rw [e2, if_neg (by simp)]
        rw [e2] at hN
        have HN := hd_ hN
        clear hN e2 h
        have HA := hd_ k1
        have k7 : (u : Int) ≤ 9223372036854775807 := by omega
        clear k6
        generalize a + k = a2 at *
        simp only
        have hw1 : IntKind.i64.wrap ((B.length : Int) - (a2 : Int)) = (B.length : Int) - (a2 : Int) := by rw [IntKind.wrap_i64]; omega
        have hsh : (0 < (u : Int) ∧ 0 < least ∧ ((B.length : Int) - a2) / least < (u : Int)) ∨ (0 < (u : Int) ∧ 0 < least ∧ ¬ ((B.length : Int) - a2) / least < (u : Int)) ∨ (0 < (u : Int) ∧ ¬ 0 < least) ∨ ¬ 0 < (u : Int) := by omega
        have hqb : 0 < least → 0 ≤ ((B.length : Int) - a2) / least ∧ ((B.length : Int) - a2) / least ≤ (B.length : Int) - a2 := fun h => ⟨Int.ediv_nonneg (by omega) (by omega), Int.ediv_le_self _ (by omega)⟩
        have hif : (0 < least ∧ ((B.length : Int) - a2) / least < (u : Int)) ∨ ¬ (0 < least ∧ ((B.length : Int) - a2) / least < (u : Int)) := by omega
        rcases hif with hif | hif
        · rw [if_pos hif]
          obtain ⟨c1, c2⟩ := hif
          obtain ⟨b0, b1⟩ := hqb c1
          have c0 : 0 < (u : Int) := by omega
          have c3 : ¬ least = 0 := by omega
          have c4 : (least == 0) = false := by rw [beq_eq_false_iff_ne]; exact c3
          have ht1 : ((B.length : Int) - (a2 : Int)).tdiv least = ((B.length : Int) - a2) / least := Int.tdiv_eq_ediv_of_nonneg (by omega)
          generalize hqd : ((B.length : Int) - a2) / least = q at *
          have hw2 : IntKind.i64.wrap q = q := by rw [IntKind.wrap_i64]; omega
          clear hsh hqb k1 hqd
          go_enter Try.func71, Try.ntmps71
          go_upto_region 6 with fail
          go_quiet ((go_at_call 85; exact Calls.quiet_of_same (HN.out _)))
          rename_i nq
          have hS1 := hd_ (hS.out.keep (below_drewN (Below.refl w.heap.size w) nq))
          have HB1 := hd_ (below_drewN (Below.refl w.heap.size w) nq)
          have y0 : (w.drewN nq).cell? ⟨g, 0, none⟩ = some v := hS1.out.1.cell 0 rfl
          clear HN q0 q1 q2
          generalize w.drewN nq = W1 at *
          go_wp2_with (go_at_call 86; refine (Q_done_no g v B a 30 a2 W1 hS1.out (by decide)).mono ?_; rintro e w2 ⟨rfl, HP2⟩)
          go_ret
          exact ⟨rfl, HP2.after HB1.out⟩
        · rw [if_neg hif]
          have hsh2 : (0 < (u : Int) ∧ 0 < least ∧ ¬ ((B.length : Int) - a2) / least < (u : Int)) ∨ (0 < (u : Int) ∧ ¬ 0 < least) ∨ ¬ 0 < (u : Int) := by omega
          clear hsh hif
          rcases hsh2 with ⟨c0, c1, c2⟩ | ⟨c0, c1⟩ | c0
          · obtain ⟨b0, b1⟩ := hqb c1
            have c3 : ¬ least = 0 := by omega
            have c4 : (least == 0) = false := by rw [beq_eq_false_iff_ne]; exact c3
            have ht1 : ((B.length : Int) - (a2 : Int)).tdiv least = ((B.length : Int) - a2) / least := Int.tdiv_eq_ediv_of_nonneg (by omega)
            generalize hqd : ((B.length : Int) - a2) / least = q at *
            have hw2 : IntKind.i64.wrap q = q := by rw [IntKind.wrap_i64]; omega
            clear hqb k1 hqd
            go_enter Try.func71, Try.ntmps71
            go_upto_region 6 with fail
            go_quiet ((go_at_call 85; exact Calls.quiet_of_same (HN.out _)))
            rename_i nq
            have hS1 := hd_ (hS.out.keep (below_drewN (Below.refl w.heap.size w) nq))
            have HB1 := hd_ (below_drewN (Below.refl w.heap.size w) nq)
            have y0 : (w.drewN nq).cell? ⟨g, 0, none⟩ = some v := hS1.out.1.cell 0 rfl
            clear HN q0 q1 q2
            generalize w.drewN nq = W1 at *
            go_wp2_with (go_at_call 86; refine (Q_done_ok g v B a a2 W1 hS1.out HA.out).mono ?_; rintro e w2 ⟨rfl, HP2⟩)
            go_ret
            exact ⟨rfl, HP2.after HB1.out⟩
          · clear hqb k1
            go_enter Try.func71, Try.ntmps71
            go_upto_region 6 with fail
            go_quiet ((go_at_call 85; exact Calls.quiet_of_same (HN.out _)))
            rename_i nq
            have hS1 := hd_ (hS.out.keep (below_drewN (Below.refl w.heap.size w) nq))
            have HB1 := hd_ (below_drewN (Below.refl w.heap.size w) nq)
            clear HN q0 q1 q2
            generalize w.drewN nq = W1 at *
            go_wp2_with (go_at_call 86; refine (Q_done_ok g v B a a2 W1 hS1.out HA.out).mono ?_; rintro e w2 ⟨rfl, HP2⟩)
            go_ret
            exact ⟨rfl, HP2.after HB1.out⟩
          · clear hqb k1
            go_enter Try.func71, Try.ntmps71
            go_upto_region 6 with fail
            go_quiet ((go_at_call 85; exact Calls.quiet_of_same (HN.out _)))
            rename_i nq
            have hS1 := hd_ (hS.out.keep (below_drewN (Below.refl w.heap.size w) nq))
            have HB1 := hd_ (below_drewN (Below.refl w.heap.size w) nq)
            clear HN q0 q1 q2
            generalize w.drewN nq = W1 at *
            go_wp2_with (go_at_call 86; refine (Q_done_ok g v B a a2 W1 hS1.out HA.out).mono ?_; rintro e w2 ⟨rfl, HP2⟩)
            go_ret
            exact ⟨rfl, HP2.after HB1.out⟩
  · rw [if_pos h0]
    have hB : (err == 0) = false := by rw [beq_eq_false_iff_ne]; exact h0
    have hB2 : (err != 0) = true := by rw [bne, hB]; rfl
    clear h h0
    go_enter Try.func71, Try.ntmps71
    go_wp2
    go_ret
    exact ⟨rfl, hS.out.same⟩
theorem infoA32 : (Try.prog.info? 49).map (·.size) = some 32 := by kernel_rfl
/-- the post of a call that has also written into variables of its own -/
theorem qr_post {w w0 w1 : World} {g : Nat} {v : Value} {B : List Int} {a : Nat} {err : Int} {S : Nat → Prop} (hB : Below w.heap.size w w0) (hc : Chg S w0 w1) (hs : ∀ b, b < w.heap.size → S b → b = g) (h : Qr w1 g v B a err) : QrPost w g v B a err w1 :=
  ⟨h, ⟨hc.os.trans hB.os, hc.tape.trans hB.tape, hc.output.trans hB.output, Nat.le_trans hB.size hc.size, fun b hb hn => (hc.block b (Nat.lt_of_lt_of_le hb hB.size) fun h => hn (hs b hb h)).trans (hB.block b hb)⟩⟩
theorem qr_end {w w0 w1 : World} {g : Nat} {v : Value} {B : List Int} {a a0 : Nat} {err e0 : Int} {S : Nat → Prop} (h : Qr w g v B a0 e0) (hB : Below w.heap.size w w0) (hc : Chg S w0 w1) (hs : ∀ b, b < w.heap.size → S b → b = g) (hb : Box w1 g 72 #[v, .int .i64 (a : Int), .int .i64 err]) (ha : a ≤ B.length) : QrPost w g v B a err w1 := by
  have hC : Chg (fun k => k = g) w w1 := ⟨hc.os.trans hB.os, hc.tape.trans hB.tape, hc.output.trans hB.output, Nat.le_trans hB.size hc.size, fun b hb hn => (hc.block b (Nat.lt_of_lt_of_le hb hB.size) fun h => hn (hs b hb h)).trans (hB.block b hb)⟩
  exact ⟨⟨hb, h.2.1.chgE hC (h.2.2.1.imp id fun hx k hk e => hx (hk.trans (by rw [e]))), h.2.2.1, ha⟩, hC⟩
set_option maxHeartbeats 1000000 in
theorem Q_Digest_bad (g : Nat) (v : Value) (B : List Int) (a : Nat) (err0 : Int) (w : World) (h : Qr w g v B a err0) (h0 : err0 ≠ 0) :
    Calls Try.prog 79 #[.pointer (some ⟨g, 0, none⟩)] w (QRet w g v B (.agg (u8A (List.replicate 32 0))) a err0) := by
  have hb1 : Box ((w.alloc (.cells #[.int .u8 0, .int .u8 0, .int .u8 0, .int .u8 0, .int .u8 0, .int .u8 0, .int .u8 0, .int .u8 0, .int .u8 0, .int .u8 0, .int .u8 0, .int .u8 0, .int .u8 0, .int .u8 0, .int .u8 0, .int .u8 0, .int .u8 0, .int .u8 0, .int .u8 0, .int .u8 0, .int .u8 0, .int .u8 0, .int .u8 0, .int .u8 0, .int .u8 0, .int .u8 0, .int .u8 0, .int .u8 0, .int .u8 0, .int .u8 0, .int .u8 0, .int .u8 0] 49)).alloc (.cells #[.int .u8 0, .int .u8 0, .int .u8 0, .int .u8 0, .int .u8 0, .int .u8 0, .int .u8 0, .int .u8 0, .int .u8 0, .int .u8 0, .int .u8 0, .int .u8 0, .int .u8 0, .int .u8 0, .int .u8 0, .int .u8 0, .int .u8 0, .int .u8 0, .int .u8 0, .int .u8 0, .int .u8 0, .int .u8 0, .int .u8 0, .int .u8 0, .int .u8 0, .int .u8 0, .int .u8 0, .int .u8 0, .int .u8 0, .int .u8 0, .int .u8 0, .int .u8 0] 49)) w.heap.size 49 (u8A (List.replicate 32 0)) := (Box.new w #[.int .u8 0, .int .u8 0, .int .u8 0, .int .u8 0, .int .u8 0, .int .u8 0, .int .u8 0, .int .u8 0, .int .u8 0, .int .u8 0, .int .u8 0, .int .u8 0, .int .u8 0, .int .u8 0, .int .u8 0, .int .u8 0, .int .u8 0, .int .u8 0, .int .u8 0, .int .u8 0, .int .u8 0, .int .u8 0, .int .u8 0, .int .u8 0, .int .u8 0, .int .u8 0, .int .u8 0, .int .u8 0, .int .u8 0, .int .u8 0, .int .u8 0, .int .u8 0] 49).keep (al1 (Below.refl _ _) _)
  have hb2 : Box ((w.alloc (.cells #[.int .u8 0, .int .u8 0, .int .u8 0, .int .u8 0, .int .u8 0, .int .u8 0, .int .u8 0, .int .u8 0, .int .u8 0, .int .u8 0, .int .u8 0, .int .u8 0, .int .u8 0, .int .u8 0, .int .u8 0, .int .u8 0, .int .u8 0, .int .u8 0, .int .u8 0, .int .u8 0, .int .u8 0, .int .u8 0, .int .u8 0, .int .u8 0, .int .u8 0, .int .u8 0, .int .u8 0, .int .u8 0, .int .u8 0, .int .u8 0, .int .u8 0, .int .u8 0] 49)).alloc (.cells #[.int .u8 0, .int .u8 0, .int .u8 0, .int .u8 0, .int .u8 0, .int .u8 0, .int .u8 0, .int .u8 0, .int .u8 0, .int .u8 0, .int .u8 0, .int .u8 0, .int .u8 0, .int .u8 0, .int .u8 0, .int .u8 0, .int .u8 0, .int .u8 0, .int .u8 0, .int .u8 0, .int .u8 0, .int .u8 0, .int .u8 0, .int .u8 0, .int .u8 0, .int .u8 0, .int .u8 0, .int .u8 0, .int .u8 0, .int .u8 0, .int .u8 0, .int .u8 0] 49)) (w.alloc (.cells #[.int .u8 0, .int .u8 0, .int .u8 0, .int .u8 0, .int .u8 0, .int .u8 0, .int .u8 0, .int .u8 0, .int .u8 0, .int .u8 0, .int .u8 0, .int .u8 0, .int .u8 0, .int .u8 0, .int .u8 0, .int .u8 0, .int .u8 0, .int .u8 0, .int .u8 0, .int .u8 0, .int .u8 0, .int .u8 0, .int .u8 0, .int .u8 0, .int .u8 0, .int .u8 0, .int .u8 0, .int .u8 0, .int .u8 0, .int .u8 0, .int .u8 0, .int .u8 0] 49)).heap.size 49 (u8A (List.replicate 32 0)) := Box.new _ #[.int .u8 0, .int .u8 0, .int .u8 0, .int .u8 0, .int .u8 0, .int .u8 0, .int .u8 0, .int .u8 0, .int .u8 0, .int .u8 0, .int .u8 0, .int .u8 0, .int .u8 0, .int .u8 0, .int .u8 0, .int .u8 0, .int .u8 0, .int .u8 0, .int .u8 0, .int .u8 0, .int .u8 0, .int .u8 0, .int .u8 0, .int .u8 0, .int .u8 0, .int .u8 0, .int .u8 0, .int .u8 0, .int .u8 0, .int .u8 0, .int .u8 0, .int .u8 0] 49
  have hB0 := al1 (al1 (Below.refl w.heap.size w) (.cells #[.int .u8 0, .int .u8 0, .int .u8 0, .int .u8 0, .int .u8 0, .int .u8 0, .int .u8 0, .int .u8 0, .int .u8 0, .int .u8 0, .int .u8 0, .int .u8 0, .int .u8 0, .int .u8 0, .int .u8 0, .int .u8 0, .int .u8 0, .int .u8 0, .int .u8 0, .int .u8 0, .int .u8 0, .int .u8 0, .int .u8 0, .int .u8 0, .int .u8 0, .int .u8 0, .int .u8 0, .int .u8 0, .int .u8 0, .int .u8 0, .int .u8 0, .int .u8 0] 49)) (.cells #[.int .u8 0, .int .u8 0, .int .u8 0, .int .u8 0, .int .u8 0, .int .u8 0, .int .u8 0, .int .u8 0, .int .u8 0, .int .u8 0, .int .u8 0, .int .u8 0, .int .u8 0, .int .u8 0, .int .u8 0, .int .u8 0, .int .u8 0, .int .u8 0, .int .u8 0, .int .u8 0, .int .u8 0, .int .u8 0, .int .u8 0, .int .u8 0, .int .u8 0, .int .u8 0, .int .u8 0, .int .u8 0, .int .u8 0, .int .u8 0, .int .u8 0, .int .u8 0] 49)
  rw [World.size_alloc] at hb2
  have NR := hd_ (show w.heap.size ≠ g from fun e => by have := h.1.lt; omega)
  have hS := hd_ h
  have q0 : w.cell? ⟨g, 0, none⟩ = some v := h.1.cell 0 rfl
  have q1 : w.cell? ⟨g, 1, none⟩ = some (.int .i64 (a : Int)) := h.1.cell 1 rfl
  have q2 : w.cell? ⟨g, 2, none⟩ = some (.int .i64 err0) := h.1.cell 2 rfl
  have hlen := h.2.1.2.len (P := Try.prog) 25 5 3 Try.underlying25
  have hlt := h.2.1.lt63
  have hle := h.2.2.2
  have p0 := cell_keep hB0 q0
  have p1 := cell_keep hB0 q1
  have p2 := cell_keep hB0 q2
  clear h q0 q1 q2
  have hB : (err0 == 0) = false := by rw [beq_eq_false_iff_ne]; exact h0
  have hBn : (err0 != 0) = true := by rw [bne, hB]; rfl
  go_enter Try.func79, Try.ntmps79
  go_upto_region 2 with fail
  generalize (w.alloc (.cells #[.int .u8 0, .int .u8 0, .int .u8 0, .int .u8 0, .int .u8 0, .int .u8 0, .int .u8 0, .int .u8 0, .int .u8 0, .int .u8 0, .int .u8 0, .int .u8 0, .int .u8 0, .int .u8 0, .int .u8 0, .int .u8 0, .int .u8 0, .int .u8 0, .int .u8 0, .int .u8 0, .int .u8 0, .int .u8 0, .int .u8 0, .int .u8 0, .int .u8 0, .int .u8 0, .int .u8 0, .int .u8 0, .int .u8 0, .int .u8 0, .int .u8 0, .int .u8 0] 49)).alloc (.cells #[.int .u8 0, .int .u8 0, .int .u8 0, .int .u8 0, .int .u8 0, .int .u8 0, .int .u8 0, .int .u8 0, .int .u8 0, .int .u8 0, .int .u8 0, .int .u8 0, .int .u8 0, .int .u8 0, .int .u8 0, .int .u8 0, .int .u8 0, .int .u8 0, .int .u8 0, .int .u8 0, .int .u8 0, .int .u8 0, .int .u8 0, .int .u8 0, .int .u8 0, .int .u8 0, .int .u8 0, .int .u8 0, .int .u8 0, .int .u8 0, .int .u8 0, .int .u8 0] 49) = W0 at *
  go_wp2_with (first
    | (refine load_box rfl 49 _ rfl (w.heap.size + 1) 49 (u8A (List.replicate 32 0)) _ rfl hb2 Try.underlying49 rfl infoA32 ?_)
    | (refine store_box rfl 49 _ _ rfl w.heap.size 49 _ (u8A (List.replicate 32 0)) rfl rfl hb1 infoA32 rfl (u8A_one _) ?_; intro w9 hb9 hg9))
  refine bodyPost_ret (results_cell1 rfl _ _ _ rfl (run_load_box _ _ _ _ _ hb9 Try.underlying49 rfl infoA32)) rfl ⟨rfl, ?_⟩
  exact hS.out.later (below_row hB0 hg9 (Nat.le_refl _) hB0.size)
set_option maxHeartbeats 1000000 in
theorem Q_Digest_short (g : Nat) (v : Value) (B : List Int) (a : Nat) (w : World) (h : Qr w g v B a 0) (h1 : (B.length : Int) - (a : Int) < 32) :
    Calls Try.prog 79 #[.pointer (some ⟨g, 0, none⟩)] w (QRet w g v B (.agg (u8A (List.replicate 32 0))) a 30) := by
  have hb1 : Box ((w.alloc (.cells #[.int .u8 0, .int .u8 0, .int .u8 0, .int .u8 0, .int .u8 0, .int .u8 0, .int .u8 0, .int .u8 0, .int .u8 0, .int .u8 0, .int .u8 0, .int .u8 0, .int .u8 0, .int .u8 0, .int .u8 0, .int .u8 0, .int .u8 0, .int .u8 0, .int .u8 0, .int .u8 0, .int .u8 0, .int .u8 0, .int .u8 0, .int .u8 0, .int .u8 0, .int .u8 0, .int .u8 0, .int .u8 0, .int .u8 0, .int .u8 0, .int .u8 0, .int .u8 0] 49)).alloc (.cells #[.int .u8 0, .int .u8 0, .int .u8 0, .int .u8 0, .int .u8 0, .int .u8 0, .int .u8 0, .int .u8 0, .int .u8 0, .int .u8 0, .int .u8 0, .int .u8 0, .int .u8 0, .int .u8 0, .int .u8 0, .int .u8 0, .int .u8 0, .int .u8 0, .int .u8 0, .int .u8 0, .int .u8 0, .int .u8 0, .int .u8 0, .int .u8 0, .int .u8 0, .int .u8 0, .int .u8 0, .int .u8 0, .int .u8 0, .int .u8 0, .int .u8 0, .int .u8 0] 49)) w.heap.size 49 (u8A (List.replicate 32 0)) := (Box.new w #[.int .u8 0, .int .u8 0, .int .u8 0, .int .u8 0, .int .u8 0, .int .u8 0, .int .u8 0, .int .u8 0, .int .u8 0, .int .u8 0, .int .u8 0, .int .u8 0, .int .u8 0, .int .u8 0, .int .u8 0, .int .u8 0, .int .u8 0, .int .u8 0, .int .u8 0, .int .u8 0, .int .u8 0, .int .u8 0, .int .u8 0, .int .u8 0, .int .u8 0, .int .u8 0, .int .u8 0, .int .u8 0, .int .u8 0, .int .u8 0, .int .u8 0, .int .u8 0] 49).keep (al1 (Below.refl _ _) _)
  have hb2 : Box ((w.alloc (.cells #[.int .u8 0, .int .u8 0, .int .u8 0, .int .u8 0, .int .u8 0, .int .u8 0, .int .u8 0, .int .u8 0, .int .u8 0, .int .u8 0, .int .u8 0, .int .u8 0, .int .u8 0, .int .u8 0, .int .u8 0, .int .u8 0, .int .u8 0, .int .u8 0, .int .u8 0, .int .u8 0, .int .u8 0, .int .u8 0, .int .u8 0, .int .u8 0, .int .u8 0, .int .u8 0, .int .u8 0, .int .u8 0, .int .u8 0, .int .u8 0, .int .u8 0, .int .u8 0] 49)).alloc (.cells #[.int .u8 0, .int .u8 0, .int .u8 0, .int .u8 0, .int .u8 0, .int .u8 0, .int .u8 0, .int .u8 0, .int .u8 0, .int .u8 0, .int .u8 0, .int .u8 0, .int .u8 0, .int .u8 0, .int .u8 0, .int .u8 0, .int .u8 0, .int .u8 0, .int .u8 0, .int .u8 0, .int .u8 0, .int .u8 0, .int .u8 0, .int .u8 0, .int .u8 0, .int .u8 0, .int .u8 0, .int .u8 0, .int .u8 0, .int .u8 0, .int .u8 0, .int .u8 0] 49)) (w.alloc (.cells #[.int .u8 0, .int .u8 0, .int .u8 0, .int .u8 0, .int .u8 0, .int .u8 0, .int .u8 0, .int .u8 0, .int .u8 0, .int .u8 0, .int .u8 0, .int .u8 0, .int .u8 0, .int .u8 0, .int .u8 0, .int .u8 0, .int .u8 0, .int .u8 0, .int .u8 0, .int .u8 0, .int .u8 0, .int .u8 0, .int .u8 0, .int .u8 0, .int .u8 0, .int .u8 0, .int .u8 0, .int .u8 0, .int .u8 0, .int .u8 0, .int .u8 0, .int .u8 0] 49)).heap.size 49 (u8A (List.replicate 32 0)) := Box.new _ #[.int .u8 0, .int .u8 0, .int .u8 0, .int .u8 0, .int .u8 0, .int .u8 0, .int .u8 0, .int .u8 0, .int .u8 0, .int .u8 0, .int .u8 0, .int .u8 0, .int .u8 0, .int .u8 0, .int .u8 0, .int .u8 0, .int .u8 0, .int .u8 0, .int .u8 0, .int .u8 0, .int .u8 0, .int .u8 0, .int .u8 0, .int .u8 0, .int .u8 0, .int .u8 0, .int .u8 0, .int .u8 0, .int .u8 0, .int .u8 0, .int .u8 0, .int .u8 0] 49
  have hB0 := al1 (al1 (Below.refl w.heap.size w) (.cells #[.int .u8 0, .int .u8 0, .int .u8 0, .int .u8 0, .int .u8 0, .int .u8 0, .int .u8 0, .int .u8 0, .int .u8 0, .int .u8 0, .int .u8 0, .int .u8 0, .int .u8 0, .int .u8 0, .int .u8 0, .int .u8 0, .int .u8 0, .int .u8 0, .int .u8 0, .int .u8 0, .int .u8 0, .int .u8 0, .int .u8 0, .int .u8 0, .int .u8 0, .int .u8 0, .int .u8 0, .int .u8 0, .int .u8 0, .int .u8 0, .int .u8 0, .int .u8 0] 49)) (.cells #[.int .u8 0, .int .u8 0, .int .u8 0, .int .u8 0, .int .u8 0, .int .u8 0, .int .u8 0, .int .u8 0, .int .u8 0, .int .u8 0, .int .u8 0, .int .u8 0, .int .u8 0, .int .u8 0, .int .u8 0, .int .u8 0, .int .u8 0, .int .u8 0, .int .u8 0, .int .u8 0, .int .u8 0, .int .u8 0, .int .u8 0, .int .u8 0, .int .u8 0, .int .u8 0, .int .u8 0, .int .u8 0, .int .u8 0, .int .u8 0, .int .u8 0, .int .u8 0] 49)
  rw [World.size_alloc] at hb2
  have NR := hd_ (show w.heap.size ≠ g from fun e => by have := h.1.lt; omega)
  have hS := hd_ h
  have q0 : w.cell? ⟨g, 0, none⟩ = some v := h.1.cell 0 rfl
  have q1 : w.cell? ⟨g, 1, none⟩ = some (.int .i64 (a : Int)) := h.1.cell 1 rfl
  have q2 : w.cell? ⟨g, 2, none⟩ = some (.int .i64 0) := h.1.cell 2 rfl
  have hlen := h.2.1.2.len (P := Try.prog) 25 5 3 Try.underlying25
  have hlt := h.2.1.lt63
  have hle := h.2.2.2
  have p0 := cell_keep hB0 q0
  have p1 := cell_keep hB0 q1
  have p2 := cell_keep hB0 q2
  clear h q0 q1 q2
  have hw1 : IntKind.i64.wrap ((B.length : Int) - (a : Int)) = (B.length : Int) - (a : Int) := by rw [IntKind.wrap_i64]; omega
  go_enter Try.func79, Try.ntmps79
  go_upto_region 2 with fail
  generalize (w.alloc (.cells #[.int .u8 0, .int .u8 0, .int .u8 0, .int .u8 0, .int .u8 0, .int .u8 0, .int .u8 0, .int .u8 0, .int .u8 0, .int .u8 0, .int .u8 0, .int .u8 0, .int .u8 0, .int .u8 0, .int .u8 0, .int .u8 0, .int .u8 0, .int .u8 0, .int .u8 0, .int .u8 0, .int .u8 0, .int .u8 0, .int .u8 0, .int .u8 0, .int .u8 0, .int .u8 0, .int .u8 0, .int .u8 0, .int .u8 0, .int .u8 0, .int .u8 0, .int .u8 0] 49)).alloc (.cells #[.int .u8 0, .int .u8 0, .int .u8 0, .int .u8 0, .int .u8 0, .int .u8 0, .int .u8 0, .int .u8 0, .int .u8 0, .int .u8 0, .int .u8 0, .int .u8 0, .int .u8 0, .int .u8 0, .int .u8 0, .int .u8 0, .int .u8 0, .int .u8 0, .int .u8 0, .int .u8 0, .int .u8 0, .int .u8 0, .int .u8 0, .int .u8 0, .int .u8 0, .int .u8 0, .int .u8 0, .int .u8 0, .int .u8 0, .int .u8 0, .int .u8 0, .int .u8 0] 49) = W0 at *
  go_upto_region 4 with fail
  go_quiet (fail)
  rename_i nq
  have hB1 := below_drewN (Below.refl W0.heap.size W0) nq
  have hb1' := hb1.keep hB1
  have hb2' := hb2.keep hB1
  have HBB := hd_ (bel_trans hB0 hB1)
  have hS1 := hd_ (hS.out.keep HBB.out)
  clear hb1 hb2 hB1 p0 p1 p2 hB0
  generalize W0.drewN nq = W1 at *
  go_wp2_with (first
    | (go_at_call 73; refine (Q_Fail_any g v B a 0 30 W1 hS1.out).mono ?_; rintro e w2 ⟨rfl, HP2⟩; have hb1s := hb1'.chg HP2.2 NR.out; have hb2s := hb2'.chg HP2.2 (fun e => by have h3 := hS.out.1.lt; omega))
    | (refine load_box rfl 49 _ rfl (w.heap.size + 1) 49 (u8A (List.replicate 32 0)) _ rfl hb2s Try.underlying49 rfl infoA32 ?_)
    | (refine store_box rfl 49 _ _ rfl w.heap.size 49 _ (u8A (List.replicate 32 0)) rfl rfl hb1s infoA32 rfl (u8A_one _) ?_; intro w9 hb9 hg9))
  refine bodyPost_ret (results_cell1 rfl _ _ _ rfl (run_load_box _ _ _ _ _ hb9 Try.underlying49 rfl infoA32)) rfl ⟨rfl, ?_⟩
  exact qr_end hS.out HBB.out (S := fun k => k = g ∨ k = w.heap.size) ((HP2.2.mono fun _ _ h => Or.inl h).trans (Chg.of hg9) fun b hb hs => .inr (by injection hs)) (fun b hb hs => by omega) (HP2.1.1.grown hg9 (fun e => by injection e with e; exact NR.out e.symm)) HP2.1.2.2.2
theorem dig_set {T : List Int} (hT : T.length = 32) {k : Nat} (hk : k < 32) : (T.take k ++ List.replicate (32 - k) 0).set k (T.getD k 0) = T.take (k + 1) ++ List.replicate (32 - (k + 1)) 0 := by
  have hl : (T.take k).length = k := by rw [List.length_take]; omega
  rw [List.set_append_right _ _ (by omega), hl, Nat.sub_self, show 32 - k = (32 - (k + 1)) + 1 by omega, List.replicate_succ, List.set_cons_zero, take_snoc (by omega), List.append_assoc]
  rfl
set_option maxHeartbeats 1000000 in
theorem Q_Digest_ok (g : Nat) (v : Value) (B : List Int) (a : Nat) (w : World) (h : Qr w g v B a 0) (h1 : ¬ (B.length : Int) - (a : Int) < 32) :
    Calls Try.prog 79 #[.pointer (some ⟨g, 0, none⟩)] w (QRet w g v B (.agg (u8A ((B.drop a).take 32))) (a + 32) 0) := by
  have hR := h.2.1
  have hb1 : Box ((w.alloc (.cells #[.int .u8 0, .int .u8 0, .int .u8 0, .int .u8 0, .int .u8 0, .int .u8 0, .int .u8 0, .int .u8 0, .int .u8 0, .int .u8 0, .int .u8 0, .int .u8 0, .int .u8 0, .int .u8 0, .int .u8 0, .int .u8 0, .int .u8 0, .int .u8 0, .int .u8 0, .int .u8 0, .int .u8 0, .int .u8 0, .int .u8 0, .int .u8 0, .int .u8 0, .int .u8 0, .int .u8 0, .int .u8 0, .int .u8 0, .int .u8 0, .int .u8 0, .int .u8 0] 49)).alloc (.cells #[.int .u8 0, .int .u8 0, .int .u8 0, .int .u8 0, .int .u8 0, .int .u8 0, .int .u8 0, .int .u8 0, .int .u8 0, .int .u8 0, .int .u8 0, .int .u8 0, .int .u8 0, .int .u8 0, .int .u8 0, .int .u8 0, .int .u8 0, .int .u8 0, .int .u8 0, .int .u8 0, .int .u8 0, .int .u8 0, .int .u8 0, .int .u8 0, .int .u8 0, .int .u8 0, .int .u8 0, .int .u8 0, .int .u8 0, .int .u8 0, .int .u8 0, .int .u8 0] 49)) w.heap.size 49 (u8A (List.replicate 32 0)) := (Box.new w #[.int .u8 0, .int .u8 0, .int .u8 0, .int .u8 0, .int .u8 0, .int .u8 0, .int .u8 0, .int .u8 0, .int .u8 0, .int .u8 0, .int .u8 0, .int .u8 0, .int .u8 0, .int .u8 0, .int .u8 0, .int .u8 0, .int .u8 0, .int .u8 0, .int .u8 0, .int .u8 0, .int .u8 0, .int .u8 0, .int .u8 0, .int .u8 0, .int .u8 0, .int .u8 0, .int .u8 0, .int .u8 0, .int .u8 0, .int .u8 0, .int .u8 0, .int .u8 0] 49).keep (al1 (Below.refl _ _) _)
  have hb2 : Box ((w.alloc (.cells #[.int .u8 0, .int .u8 0, .int .u8 0, .int .u8 0, .int .u8 0, .int .u8 0, .int .u8 0, .int .u8 0, .int .u8 0, .int .u8 0, .int .u8 0, .int .u8 0, .int .u8 0, .int .u8 0, .int .u8 0, .int .u8 0, .int .u8 0, .int .u8 0, .int .u8 0, .int .u8 0, .int .u8 0, .int .u8 0, .int .u8 0, .int .u8 0, .int .u8 0, .int .u8 0, .int .u8 0, .int .u8 0, .int .u8 0, .int .u8 0, .int .u8 0, .int .u8 0] 49)).alloc (.cells #[.int .u8 0, .int .u8 0, .int .u8 0, .int .u8 0, .int .u8 0, .int .u8 0, .int .u8 0, .int .u8 0, .int .u8 0, .int .u8 0, .int .u8 0, .int .u8 0, .int .u8 0, .int .u8 0, .int .u8 0, .int .u8 0, .int .u8 0, .int .u8 0, .int .u8 0, .int .u8 0, .int .u8 0, .int .u8 0, .int .u8 0, .int .u8 0, .int .u8 0, .int .u8 0, .int .u8 0, .int .u8 0, .int .u8 0, .int .u8 0, .int .u8 0, .int .u8 0] 49)) (w.alloc (.cells #[.int .u8 0, .int .u8 0, .int .u8 0, .int .u8 0, .int .u8 0, .int .u8 0, .int .u8 0, .int .u8 0, .int .u8 0, .int .u8 0, .int .u8 0, .int .u8 0, .int .u8 0, .int .u8 0, .int .u8 0, .int .u8 0, .int .u8 0, .int .u8 0, .int .u8 0, .int .u8 0, .int .u8 0, .int .u8 0, .int .u8 0, .int .u8 0, .int .u8 0, .int .u8 0, .int .u8 0, .int .u8 0, .int .u8 0, .int .u8 0, .int .u8 0, .int .u8 0] 49)).heap.size 49 (u8A (List.replicate 32 0)) := Box.new _ #[.int .u8 0, .int .u8 0, .int .u8 0, .int .u8 0, .int .u8 0, .int .u8 0, .int .u8 0, .int .u8 0, .int .u8 0, .int .u8 0, .int .u8 0, .int .u8 0, .int .u8 0, .int .u8 0, .int .u8 0, .int .u8 0, .int .u8 0, .int .u8 0, .int .u8 0, .int .u8 0, .int .u8 0, .int .u8 0, .int .u8 0, .int .u8 0, .int .u8 0, .int .u8 0, .int .u8 0, .int .u8 0, .int .u8 0, .int .u8 0, .int .u8 0, .int .u8 0] 49
  have hB0 := al1 (al1 (Below.refl w.heap.size w) (.cells #[.int .u8 0, .int .u8 0, .int .u8 0, .int .u8 0, .int .u8 0, .int .u8 0, .int .u8 0, .int .u8 0, .int .u8 0, .int .u8 0, .int .u8 0, .int .u8 0, .int .u8 0, .int .u8 0, .int .u8 0, .int .u8 0, .int .u8 0, .int .u8 0, .int .u8 0, .int .u8 0, .int .u8 0, .int .u8 0, .int .u8 0, .int .u8 0, .int .u8 0, .int .u8 0, .int .u8 0, .int .u8 0, .int .u8 0, .int .u8 0, .int .u8 0, .int .u8 0] 49)) (.cells #[.int .u8 0, .int .u8 0, .int .u8 0, .int .u8 0, .int .u8 0, .int .u8 0, .int .u8 0, .int .u8 0, .int .u8 0, .int .u8 0, .int .u8 0, .int .u8 0, .int .u8 0, .int .u8 0, .int .u8 0, .int .u8 0, .int .u8 0, .int .u8 0, .int .u8 0, .int .u8 0, .int .u8 0, .int .u8 0, .int .u8 0, .int .u8 0, .int .u8 0, .int .u8 0, .int .u8 0, .int .u8 0, .int .u8 0, .int .u8 0, .int .u8 0, .int .u8 0] 49)
  rw [World.size_alloc] at hb2
  have NR := hd_ (show w.heap.size ≠ g from fun e => by have := h.1.lt; omega)
  have hS := hd_ h
  have q0 : w.cell? ⟨g, 0, none⟩ = some v := h.1.cell 0 rfl
  have q1 : w.cell? ⟨g, 1, none⟩ = some (.int .i64 (a : Int)) := h.1.cell 1 rfl
  have q2 : w.cell? ⟨g, 2, none⟩ = some (.int .i64 0) := h.1.cell 2 rfl
  have hlen := h.2.1.2.len (P := Try.prog) 25 5 3 Try.underlying25
  have hlt := h.2.1.lt63
  have hle := h.2.2.2
  have p0 := cell_keep hB0 q0
  have p1 := cell_keep hB0 q1
  have p2 := cell_keep hB0 q2
  clear h q0 q1 q2
  have hw1 : IntKind.i64.wrap ((B.length : Int) - (a : Int)) = (B.length : Int) - (a : Int) := by rw [IntKind.wrap_i64]; omega
  have hT : ((B.drop a).take 32).length = 32 := by rw [List.length_take, List.length_drop]; omega
  have hTg : Hid (∀ k, k < 32 → ((B.drop a).take 32).getD k 0 = B.getD (a + k) 0) := hd_ fun k hk => by
    rw [getD_take32 hk, List.getD_eq_getElem?_getD, List.getD_eq_getElem?_getD, List.getElem?_drop]
  have HT := hd_ hT
  have hRR := hd_ hR
  clear hT hR
  generalize (B.drop a).take 32 = T at *
  go_enter Try.func79, Try.ntmps79
  go_upto_region 2 with fail
  generalize (w.alloc (.cells #[.int .u8 0, .int .u8 0, .int .u8 0, .int .u8 0, .int .u8 0, .int .u8 0, .int .u8 0, .int .u8 0, .int .u8 0, .int .u8 0, .int .u8 0, .int .u8 0, .int .u8 0, .int .u8 0, .int .u8 0, .int .u8 0, .int .u8 0, .int .u8 0, .int .u8 0, .int .u8 0, .int .u8 0, .int .u8 0, .int .u8 0, .int .u8 0, .int .u8 0, .int .u8 0, .int .u8 0, .int .u8 0, .int .u8 0, .int .u8 0, .int .u8 0, .int .u8 0] 49)).alloc (.cells #[.int .u8 0, .int .u8 0, .int .u8 0, .int .u8 0, .int .u8 0, .int .u8 0, .int .u8 0, .int .u8 0, .int .u8 0, .int .u8 0, .int .u8 0, .int .u8 0, .int .u8 0, .int .u8 0, .int .u8 0, .int .u8 0, .int .u8 0, .int .u8 0, .int .u8 0, .int .u8 0, .int .u8 0, .int .u8 0, .int .u8 0, .int .u8 0, .int .u8 0, .int .u8 0, .int .u8 0, .int .u8 0, .int .u8 0, .int .u8 0, .int .u8 0, .int .u8 0] 49) = W0 at *
  go_upto_region 4 with fail
  go_quiet (fail)
  rename_i nq
  have hB1 := below_drewN (Below.refl W0.heap.size W0) nq
  have hb1' := hb1.keep hB1
  have hb2' := hb2.keep hB1
  have HBB := bel_trans hB0 hB1
  clear hb1 hb2 hB1 p0 p1 p2 hB0
  generalize W0.drewN nq = W1 at *
  go_wp2
  go_loopw [4] (fun vi wr => ∃ k : Nat, k ≤ 32 ∧ vi = .int .i64 k ∧ Box wr w.heap.size 49 (u8A (List.replicate 32 0)) ∧ Box wr (w.heap.size + 1) 49 (u8A (T.take k ++ List.replicate (32 - k) 0)) ∧ Below w.heap.size w wr) (fun i _ => 32 - (intOf i).toNat)
  case atStart => exact ⟨0, by omega, rfl, hb1', hb2', HBB⟩
  case round =>
    clear hb1' hb2' HBB
    obtain ⟨k, hk, rfl, hb1, hb2, HB⟩ := hrel
    have hSr := hS.out.keep HB
    have y0 : wr.cell? ⟨g, 0, none⟩ = some v := hSr.1.cell 0 rfl
    have y1 : wr.cell? ⟨g, 1, none⟩ = some (.int .i64 (a : Int)) := hSr.1.cell 1 rfl
    by_cases hlt2 : k < 32
    · obtain ⟨bl, off, hat0, hcell0⟩ := hRR.out.at Try.underlying25 infoB .i64 (a + k) (by omega)
      have hat : ∀ W, Sem.run Try.prog (Instr.indexAt 25 v (Value.int IntKind.i64 ((a : Int) + (k : Int)))) W = .ok (.pointer (some ⟨bl, off, none⟩)) W := fun W => by
        have := hat0 W
        rwa [Int.natCast_add] at this
      have hcell := cell_keep HB hcell0
      obtain ⟨x0, x1⟩ := byte_at hRR.out.1 (show a + k < B.length by omega)
      have hE := hd_ (dig_set HT.out hlt2)
      rw [hTg.out k hlt2] at hE
      have hwa : IntKind.i64.wrap ((a : Int) + (k : Int)) = (a : Int) + (k : Int) := by rw [IntKind.wrap_i64]; omega
      have hlen32 : (T.take k ++ List.replicate (32 - k) (0 : Int)).length = 32 := by rw [List.length_append, List.length_take, List.length_replicate, HT.out]; omega
      have hc2 := hb2.cell k (u8A_cell _ k (by rw [hlen32]; exact hlt2))
      have z2 := hb2.frozen k
      generalize (T.take k ++ List.replicate (32 - k) (0 : Int)).getD k 0 = c at *
      generalize B.getD (a + k) 0 = x at *
      clear hat0 hcell0 hlen32 hSr
      go_upto_region 10 with fail
      go_still_tail 14, (by kernel_rfl)
      change wpList _ _ _ _ _ wr.drew
      have hb1d := hb1.keep (Below.refl wr.heap.size wr).drew
      have hb2d := hb2.keep (Below.refl wr.heap.size wr).drew
      have HBd := hd_ HB.drew
      have c2d : wr.drew.cell? ⟨w.heap.size + 1, k, none⟩ = some (.int .u8 c) := hc2
      have z2d : wr.drew.frozen? ⟨w.heap.size + 1, k, none⟩ = false := z2
      obtain ⟨g3, g4⟩ := hb2d.put k (.int .u8 x)
      rw [u8A_set, hE.out] at g3
      have G5 := hd_ (hb1d.grown g4 (fun e => by injection e with e; omega))
      have G3 := hd_ g3
      have G6 := hd_ (below_row HBd.out g4 (Nat.le_succ _) HBd.out.size)
      clear g3 g4 hb1d hb2d hb1 hb2 hc2 z2 y0 y1 hcell HB HBd
      generalize wr.drew = W5 at *
      go_wp2
      go_roundw
      case rel => exact ⟨k + 1, by omega, by go_num, G5.out, G3.out, G6.out⟩
      case measure => (simp [intOf]; try omega)
    · obtain rfl : k = 32 := by omega
      have e32 : T.take 32 ++ List.replicate (32 - 32) (0 : Int) = T := by rw [Nat.sub_self, List.replicate_zero, List.append_nil, ← HT.out, List.take_length]
      rw [e32] at hb2
      have hinf := hd_ (show (Try.prog.info? 49).map (·.size) = some (u8A T).size by rw [u8A_size, HT.out]; exact infoA32)
      have hsz := hd_ (show (u8A (List.replicate 32 0)).size = (u8A T).size by rw [u8A_size, u8A_size, HT.out]; rfl)
      have z1 := hSr.1.frozen 1
      have hM := hSr.set 1 (.int .i64 ((a + 32 : Nat) : Int)) (a + 32) 0 (by omega) rfl
      rw [show ((a + 32 : Nat) : Int) = (a : Int) + 32 by omega] at hM
      have HB1 := hd_ (hb1.chg hM.2 NR.out)
      have HB2 := hd_ (hb2.chg hM.2 (fun e => by have h3 := hS.out.1.lt; omega))
      have HM := hd_ hM
      have HBr := hd_ HB
      clear hM hb1 hb2 hSr HB e32
      go_upto_region 12 with fail
      clear y0 y1 z1
      generalize wr.setCell ⟨g, 1, none⟩ (.int .i64 ((a : Int) + 32)) = W7 at *
      go_wp2_with (first
        | (refine load_box rfl 49 _ rfl (w.heap.size + 1) 49 (u8A T) _ rfl HB2.out Try.underlying49 rfl hinf.out ?_)
        | (refine store_box rfl 49 _ _ rfl w.heap.size 49 _ (u8A T) rfl rfl HB1.out hinf.out hsz.out (u8A_one _) ?_; intro w9 hb9 hg9))
      refine bodyPost_ret (results_cell1 rfl _ _ _ rfl (run_load_box _ _ _ _ _ hb9 Try.underlying49 rfl hinf.out)) rfl ⟨rfl, ?_⟩
      exact qr_end hS.out HBr.out (S := fun k => k = g ∨ k = w.heap.size) ((HM.out.2.mono fun _ _ h => Or.inl h).trans (Chg.of hg9) fun b hb hs => .inr (by injection hs)) (fun b hb hs => by omega) (HM.out.1.1.grown hg9 (fun e => by injection e with e; exact NR.out e.symm)) HM.out.1.2.2.2
theorem Q_Digest_any (g : Nat) (v : Value) (B : List Int) (a : Nat) (err : Int) (w : World) (h : Qr w g v B a err) :
    Calls Try.prog 79 #[.pointer (some ⟨g, 0, none⟩)] w (QRet w g v B (.agg (u8A (rDigest B a err).1)) (rDigest B a err).2.1 (rDigest B a err).2.2) := by
  unfold rDigest
  by_cases h0 : err = 0
  · subst h0
    rw [if_neg (by simp)]
    by_cases h1 : (B.length : Int) - (a : Int) < 32
    · rw [if_pos h1]; exact Q_Digest_short g v B a w h h1
    · rw [if_neg h1]; exact Q_Digest_ok g v B a w h h1
  · rw [if_pos h0]; exact Q_Digest_bad g v B a err w h h0
set_option maxHeartbeats 1000000 in
theorem Q_Row_1 (g : Nat) (v : Value) (B : List Int) (a : Nat) (w : World) (h : Qr w g v B a 0) (k : List Int) (b : Nat) (E : Int) (h1 : textA B a 1024 = (k, b, E)) (hE : E ≠ 0) :
    Calls Try.prog 80 #[.pointer (some ⟨g, 0, none⟩)] w (QRet w g v B (.agg (rowC (strOfNums []) (strOfNums []) 0)) a E) := by
  have hb1 := Box.new w #[.string ⟨#[]⟩, .string ⟨#[]⟩, .int .i64 0] 51
  have hB0 := al1 (Below.refl w.heap.size w) (.cells #[.string ⟨#[]⟩, .string ⟨#[]⟩, .int .i64 0] 51)
  have NR := hd_ (show w.heap.size ≠ g from fun e => by have := h.1.lt; omega)
  have hS := hd_ h
  have hS0 := hd_ (h.keep hB0)
  have hle := h.2.2.2
  have hE1 : (E == 0) = false := by rw [beq_eq_false_iff_ne]; exact hE
  have hE2 : (E != 0) = true := by rw [bne, hE1]; rfl
  have HE := hd_ hE
  have H1 := hd_ h1
  clear h h1 hE
  go_enter Try.func80, Try.ntmps80
  go_upto_region 1 with fail
  generalize w.alloc (.cells #[.string ⟨#[]⟩, .string ⟨#[]⟩, .int .i64 0] 51) = W0 at *
  have q0 : W0.cell? ⟨g, 0, none⟩ = some v := hS0.out.1.cell 0 rfl
  have q1 : W0.cell? ⟨g, 1, none⟩ = some (.int .i64 (a : Int)) := hS0.out.1.cell 1 rfl
  have q2 : W0.cell? ⟨g, 2, none⟩ = some (.int .i64 0) := hS0.out.1.cell 2 rfl
  have hN : ∀ m : Nat, _ := fun m => tri_quiet m (Q_text_any v B a 1024 _ (hS0.out.2.1.keep (below_drewN (Below.refl _ _) m)) hle (by decide))
  rw [H1.out] at hN
  have HN := hd_ hN
  clear hN
  go_upto_region 3 with fail
  go_quiet ((go_at_call 87; exact Calls.quiet_of_same (HN.out _)))
  rename_i nq
  have hB1 := below_drewN (Below.refl W0.heap.size W0) nq
  have hb1' := hb1.keep hB1
  have HBB := hd_ (bel_trans hB0 hB1)
  have hS1 := hd_ (hS0.out.keep hB1)
  have p0 : (W0.drewN nq).cell? ⟨g, 0, none⟩ = some v := hS1.out.1.cell 0 rfl
  clear hb1 hB1 hB0 hS0 HN q0 q1 q2
  generalize W0.drewN nq = W1 at *
  go_wp2_with (first
    | (go_at_call 86; refine (Q_done_no g v B a E b W1 hS1.out HE.out).mono ?_; rintro e w2 ⟨rfl, HP2⟩; have hb1s := hb1'.chg HP2.2 NR.out)
    | (refine store_box rfl 51 _ _ rfl w.heap.size 51 _ #[.string ⟨#[]⟩, .string ⟨#[]⟩, .int .i64 0] rfl rfl hb1s infoRw rfl (rowC_one _ _ _) ?_; intro w9 hb9 hg9))
  refine bodyPost_ret (results_cell1 rfl _ _ _ rfl (run_load_box _ _ _ _ _ hb9 Try.underlying51 rfl infoRw)) rfl ⟨rfl, ?_⟩
  exact qr_end hS.out HBB.out (S := fun k => k = g ∨ k = w.heap.size) ((HP2.2.mono fun _ _ h => Or.inl h).trans (Chg.of hg9) fun b hb hs => .inr (by injection hs)) (fun b hb hs => by omega) (HP2.1.1.grown hg9 (fun e => by injection e with e; exact NR.out e.symm)) HP2.1.2.2.2
set_option maxHeartbeats 1000000 in
theorem Q_Row_2 (g : Nat) (v : Value) (B : List Int) (a : Nat) (w : World) (h : Qr w g v B a 0) (k u : List Int) (a1 b : Nat) (E : Int) (h1 : textA B a 1024 = (k, a1, 0)) (k1 : a1 ≤ B.length) (h2 : textA B a1 65536 = (u, b, E)) (hE : E ≠ 0) :
    Calls Try.prog 80 #[.pointer (some ⟨g, 0, none⟩)] w (QRet w g v B (.agg (rowC (strOfNums []) (strOfNums []) 0)) a E) := by
  have hb1 := Box.new w #[.string ⟨#[]⟩, .string ⟨#[]⟩, .int .i64 0] 51
  have hB0 := al1 (Below.refl w.heap.size w) (.cells #[.string ⟨#[]⟩, .string ⟨#[]⟩, .int .i64 0] 51)
  have NR := hd_ (show w.heap.size ≠ g from fun e => by have := h.1.lt; omega)
  have hS := hd_ h
  have hS0 := hd_ (h.keep hB0)
  have hle := h.2.2.2
  have hE1 : (E == 0) = false := by rw [beq_eq_false_iff_ne]; exact hE
  have hE2 : (E != 0) = true := by rw [bne, hE1]; rfl
  have HE := hd_ hE
  have H1 := hd_ h1
  have H2 := hd_ h2
  have ha1 := hd_ k1
  clear h h1 h2 hE k1
  go_enter Try.func80, Try.ntmps80
  go_upto_region 1 with fail
  generalize w.alloc (.cells #[.string ⟨#[]⟩, .string ⟨#[]⟩, .int .i64 0] 51) = W0 at *
  have q0 : W0.cell? ⟨g, 0, none⟩ = some v := hS0.out.1.cell 0 rfl
  have q1 : W0.cell? ⟨g, 1, none⟩ = some (.int .i64 (a : Int)) := hS0.out.1.cell 1 rfl
  have q2 : W0.cell? ⟨g, 2, none⟩ = some (.int .i64 0) := hS0.out.1.cell 2 rfl
  have hN : ∀ m : Nat, _ := fun m => tri_quiet m (Q_text_any v B a 1024 _ (hS0.out.2.1.keep (below_drewN (Below.refl _ _) m)) hle (by decide))
  rw [H1.out] at hN
  have HN := hd_ hN
  clear hN
  go_upto_region 3 with fail
  go_quiet ((go_at_call 87; exact Calls.quiet_of_same (HN.out _)))
  rename_i nq
  have hB1 := below_drewN (Below.refl W0.heap.size W0) nq
  have hb1' := hb1.keep hB1
  have HBB := hd_ (bel_trans hB0 hB1)
  have hS1 := hd_ (hS0.out.keep hB1)
  have p0 : (W0.drewN nq).cell? ⟨g, 0, none⟩ = some v := hS1.out.1.cell 0 rfl
  have hR1 := hd_ hS1.out.2.1
  clear hb1 hB1 hB0 hS0 HN q0 q1 q2
  generalize W0.drewN nq = W1 at *
  go_wp2_with (first
    | (go_at_call 87; (with_reducible refine (Q_text_any v B a1 65536 W1 hR1.out ha1.out (by decide)).mono ?_); rintro e w' ⟨rfl, rfl⟩; rw [H2.out])
    | (go_at_call 86; refine (Q_done_no g v B a E b W1 hS1.out HE.out).mono ?_; rintro e w2 ⟨rfl, HP2⟩; have hb1s := hb1'.chg HP2.2 NR.out)
    | (refine store_box rfl 51 _ _ rfl w.heap.size 51 _ #[.string ⟨#[]⟩, .string ⟨#[]⟩, .int .i64 0] rfl rfl hb1s infoRw rfl (rowC_one _ _ _) ?_; intro w9 hb9 hg9))
  refine bodyPost_ret (results_cell1 rfl _ _ _ rfl (run_load_box _ _ _ _ _ hb9 Try.underlying51 rfl infoRw)) rfl ⟨rfl, ?_⟩
  exact qr_end hS.out HBB.out (S := fun k => k = g ∨ k = w.heap.size) ((HP2.2.mono fun _ _ h => Or.inl h).trans (Chg.of hg9) fun b hb hs => .inr (by injection hs)) (fun b hb hs => by omega) (HP2.1.1.grown hg9 (fun e => by injection e with e; exact NR.out e.symm)) HP2.1.2.2.2
set_option maxHeartbeats 1000000 in
theorem Q_Row_3 (g : Nat) (v : Value) (B : List Int) (a : Nat) (w : World) (h : Qr w g v B a 0) (k u : List Int) (n : Int) (a1 a2 b : Nat) (E : Int) (h1 : textA B a 1024 = (k, a1, 0)) (k1 : a1 ≤ B.length) (h2 : textA B a1 65536 = (u, a2, 0)) (k2 : a2 ≤ B.length) (h3 : uptoA B a2 1152921504606846976 = (n, b, E)) (hE : E ≠ 0) :
    Calls Try.prog 80 #[.pointer (some ⟨g, 0, none⟩)] w (QRet w g v B (.agg (rowC (strOfNums []) (strOfNums []) 0)) a E) := by
  have hb1 := Box.new w #[.string ⟨#[]⟩, .string ⟨#[]⟩, .int .i64 0] 51
  have hB0 := al1 (Below.refl w.heap.size w) (.cells #[.string ⟨#[]⟩, .string ⟨#[]⟩, .int .i64 0] 51)
  have NR := hd_ (show w.heap.size ≠ g from fun e => by have := h.1.lt; omega)
  have hS := hd_ h
  have hS0 := hd_ (h.keep hB0)
  have hle := h.2.2.2
  have hE1 : (E == 0) = false := by rw [beq_eq_false_iff_ne]; exact hE
  have hE2 : (E != 0) = true := by rw [bne, hE1]; rfl
  have HE := hd_ hE
  have H1 := hd_ h1
  have H2 := hd_ h2
  have H3 := hd_ h3
  have ha1 := hd_ k1
  have ha2 := hd_ k2
  clear h h1 h2 h3 hE k1 k2
  go_enter Try.func80, Try.ntmps80
  go_upto_region 1 with fail
  generalize w.alloc (.cells #[.string ⟨#[]⟩, .string ⟨#[]⟩, .int .i64 0] 51) = W0 at *
  have q0 : W0.cell? ⟨g, 0, none⟩ = some v := hS0.out.1.cell 0 rfl
  have q1 : W0.cell? ⟨g, 1, none⟩ = some (.int .i64 (a : Int)) := hS0.out.1.cell 1 rfl
  have q2 : W0.cell? ⟨g, 2, none⟩ = some (.int .i64 0) := hS0.out.1.cell 2 rfl
  have hN : ∀ m : Nat, _ := fun m => tri_quiet m (Q_text_any v B a 1024 _ (hS0.out.2.1.keep (below_drewN (Below.refl _ _) m)) hle (by decide))
  rw [H1.out] at hN
  have HN := hd_ hN
  clear hN
  go_upto_region 3 with fail
  go_quiet ((go_at_call 87; exact Calls.quiet_of_same (HN.out _)))
  rename_i nq
  have hB1 := below_drewN (Below.refl W0.heap.size W0) nq
  have hb1' := hb1.keep hB1
  have HBB := hd_ (bel_trans hB0 hB1)
  have hS1 := hd_ (hS0.out.keep hB1)
  have p0 : (W0.drewN nq).cell? ⟨g, 0, none⟩ = some v := hS1.out.1.cell 0 rfl
  have hR1 := hd_ hS1.out.2.1
  clear hb1 hB1 hB0 hS0 HN q0 q1 q2
  generalize W0.drewN nq = W1 at *
  go_wp2_with (first
    | (go_at_call 87; (with_reducible refine (Q_text_any v B a1 65536 W1 hR1.out ha1.out (by decide)).mono ?_); rintro e w' ⟨rfl, rfl⟩; rw [H2.out])
    | (go_at_call 85; (with_reducible refine (Q_upto_any v B a2 1152921504606846976 W1 hR1.out ha2.out (by decide)).mono ?_); rintro e w' ⟨rfl, rfl⟩; rw [H3.out])
    | (go_at_call 86; refine (Q_done_no g v B a E b W1 hS1.out HE.out).mono ?_; rintro e w2 ⟨rfl, HP2⟩; have hb1s := hb1'.chg HP2.2 NR.out)
    | (refine store_box rfl 51 _ _ rfl w.heap.size 51 _ #[.string ⟨#[]⟩, .string ⟨#[]⟩, .int .i64 0] rfl rfl hb1s infoRw rfl (rowC_one _ _ _) ?_; intro w9 hb9 hg9))
  refine bodyPost_ret (results_cell1 rfl _ _ _ rfl (run_load_box _ _ _ _ _ hb9 Try.underlying51 rfl infoRw)) rfl ⟨rfl, ?_⟩
  exact qr_end hS.out HBB.out (S := fun k => k = g ∨ k = w.heap.size) ((HP2.2.mono fun _ _ h => Or.inl h).trans (Chg.of hg9) fun b hb hs => .inr (by injection hs)) (fun b hb hs => by omega) (HP2.1.1.grown hg9 (fun e => by injection e with e; exact NR.out e.symm)) HP2.1.2.2.2
set_option maxHeartbeats 1000000 in
theorem Q_Row_4 (g : Nat) (v : Value) (B : List Int) (a : Nat) (w : World) (h : Qr w g v B a 0) (k u : List Int) (n : Int) (a1 a2 a3 : Nat) (h1 : textA B a 1024 = (k, a1, 0)) (k1 : a1 ≤ B.length) (h2 : textA B a1 65536 = (u, a2, 0)) (k2 : a2 ≤ B.length) (h3 : uptoA B a2 1152921504606846976 = (n, a3, 0)) (k3 : a3 ≤ B.length) (hk : k = []) :
    Calls Try.prog 80 #[.pointer (some ⟨g, 0, none⟩)] w (QRet w g v B (.agg (rowC (strOfNums []) (strOfNums []) 0)) a 32) := by
  have hb1 := Box.new w #[.string ⟨#[]⟩, .string ⟨#[]⟩, .int .i64 0] 51
  have hB0 := al1 (Below.refl w.heap.size w) (.cells #[.string ⟨#[]⟩, .string ⟨#[]⟩, .int .i64 0] 51)
  have NR := hd_ (show w.heap.size ≠ g from fun e => by have := h.1.lt; omega)
  have hS := hd_ h
  have hS0 := hd_ (h.keep hB0)
  have hle := h.2.2.2
  have H1 := hd_ h1
  have H2 := hd_ h2
  have H3 := hd_ h3
  have ha1 := hd_ k1
  have ha2 := hd_ k2
  have ha3 := hd_ k3
  have hkL : (strOfNums k).toList = [] := toList_nil (by rw [strOfNums_size, hk]; rfl)
  have hkE : (strOfNums k).toList.isEmpty = true := by rw [hkL]; rfl
  clear h h1 h2 h3 k1 k2 k3 hk
  go_enter Try.func80, Try.ntmps80
  go_upto_region 1 with fail
  generalize w.alloc (.cells #[.string ⟨#[]⟩, .string ⟨#[]⟩, .int .i64 0] 51) = W0 at *
  have q0 : W0.cell? ⟨g, 0, none⟩ = some v := hS0.out.1.cell 0 rfl
  have q1 : W0.cell? ⟨g, 1, none⟩ = some (.int .i64 (a : Int)) := hS0.out.1.cell 1 rfl
  have q2 : W0.cell? ⟨g, 2, none⟩ = some (.int .i64 0) := hS0.out.1.cell 2 rfl
  have hN : ∀ m : Nat, _ := fun m => tri_quiet m (Q_text_any v B a 1024 _ (hS0.out.2.1.keep (below_drewN (Below.refl _ _) m)) hle (by decide))
  rw [H1.out] at hN
  have HN := hd_ hN
  clear hN
  go_upto_region 3 with fail
  go_quiet ((go_at_call 87; exact Calls.quiet_of_same (HN.out _)))
  rename_i nq
  have hB1 := below_drewN (Below.refl W0.heap.size W0) nq
  have hb1' := hb1.keep hB1
  have HBB := hd_ (bel_trans hB0 hB1)
  have hS1 := hd_ (hS0.out.keep hB1)
  have p0 : (W0.drewN nq).cell? ⟨g, 0, none⟩ = some v := hS1.out.1.cell 0 rfl
  have hR1 := hd_ hS1.out.2.1
  clear hb1 hB1 hB0 hS0 HN q0 q1 q2
  generalize W0.drewN nq = W1 at *
  go_wp2_with (first
    | (go_at_call 87; (with_reducible refine (Q_text_any v B a1 65536 W1 hR1.out ha1.out (by decide)).mono ?_); rintro e w' ⟨rfl, rfl⟩; rw [H2.out])
    | (go_at_call 85; (with_reducible refine (Q_upto_any v B a2 1152921504606846976 W1 hR1.out ha2.out (by decide)).mono ?_); rintro e w' ⟨rfl, rfl⟩; rw [H3.out])
    | (go_at_call 86; refine (Q_done_no g v B a 32 a3 W1 hS1.out (by decide)).mono ?_; rintro e w2 ⟨rfl, HP2⟩; have hb1s := hb1'.chg HP2.2 NR.out)
    | (refine store_box rfl 51 _ _ rfl w.heap.size 51 _ #[.string ⟨#[]⟩, .string ⟨#[]⟩, .int .i64 0] rfl rfl hb1s infoRw rfl (rowC_one _ _ _) ?_; intro w9 hb9 hg9))
  refine bodyPost_ret (results_cell1 rfl _ _ _ rfl (run_load_box _ _ _ _ _ hb9 Try.underlying51 rfl infoRw)) rfl ⟨rfl, ?_⟩
  exact qr_end hS.out HBB.out (S := fun k => k = g ∨ k = w.heap.size) ((HP2.2.mono fun _ _ h => Or.inl h).trans (Chg.of hg9) fun b hb hs => .inr (by injection hs)) (fun b hb hs => by omega) (HP2.1.1.grown hg9 (fun e => by injection e with e; exact NR.out e.symm)) HP2.1.2.2.2
set_option maxHeartbeats 1000000 in
theorem Q_Row_5 (g : Nat) (v : Value) (B : List Int) (a : Nat) (w : World) (h : Qr w g v B a 0) (k u : List Int) (n : Int) (a1 a2 a3 : Nat) (h1 : textA B a 1024 = (k, a1, 0)) (k1 : a1 ≤ B.length) (h2 : textA B a1 65536 = (u, a2, 0)) (k2 : a2 ≤ B.length) (h3 : uptoA B a2 1152921504606846976 = (n, a3, 0)) (k3 : a3 ≤ B.length) (hk : ¬ k = []) (hn : n = 0) :
    Calls Try.prog 80 #[.pointer (some ⟨g, 0, none⟩)] w (QRet w g v B (.agg (rowC (strOfNums []) (strOfNums []) 0)) a 32) := by
  have hb1 := Box.new w #[.string ⟨#[]⟩, .string ⟨#[]⟩, .int .i64 0] 51
  have hB0 := al1 (Below.refl w.heap.size w) (.cells #[.string ⟨#[]⟩, .string ⟨#[]⟩, .int .i64 0] 51)
  have NR := hd_ (show w.heap.size ≠ g from fun e => by have := h.1.lt; omega)
  have hS := hd_ h
  have hS0 := hd_ (h.keep hB0)
  have hle := h.2.2.2
  have H1 := hd_ h1
  have H2 := hd_ h2
  have H3 := hd_ h3
  have ha1 := hd_ k1
  have ha2 := hd_ k2
  have ha3 := hd_ k3
  have hkL : ¬ (strOfNums k).toList = [] := toList_ne (by rw [strOfNums_size]; exact fun h => hk (List.eq_nil_of_length_eq_zero h))
  have hkE : (strOfNums k).toList.isEmpty = false := by rw [List.isEmpty_eq_false_iff]; exact hkL
  have hn0 : (n == 0) = true := by rw [beq_iff_eq]; exact hn
  clear h h1 h2 h3 k1 k2 k3 hk hn
  go_enter Try.func80, Try.ntmps80
  go_upto_region 1 with fail
  generalize w.alloc (.cells #[.string ⟨#[]⟩, .string ⟨#[]⟩, .int .i64 0] 51) = W0 at *
  have q0 : W0.cell? ⟨g, 0, none⟩ = some v := hS0.out.1.cell 0 rfl
  have q1 : W0.cell? ⟨g, 1, none⟩ = some (.int .i64 (a : Int)) := hS0.out.1.cell 1 rfl
  have q2 : W0.cell? ⟨g, 2, none⟩ = some (.int .i64 0) := hS0.out.1.cell 2 rfl
  have hN : ∀ m : Nat, _ := fun m => tri_quiet m (Q_text_any v B a 1024 _ (hS0.out.2.1.keep (below_drewN (Below.refl _ _) m)) hle (by decide))
  rw [H1.out] at hN
  have HN := hd_ hN
  clear hN
  go_upto_region 3 with fail
  go_quiet ((go_at_call 87; exact Calls.quiet_of_same (HN.out _)))
  rename_i nq
  have hB1 := below_drewN (Below.refl W0.heap.size W0) nq
  have hb1' := hb1.keep hB1
  have HBB := hd_ (bel_trans hB0 hB1)
  have hS1 := hd_ (hS0.out.keep hB1)
  have p0 : (W0.drewN nq).cell? ⟨g, 0, none⟩ = some v := hS1.out.1.cell 0 rfl
  have hR1 := hd_ hS1.out.2.1
  clear hb1 hB1 hB0 hS0 HN q0 q1 q2
  generalize W0.drewN nq = W1 at *
  go_wp2_with (first
    | (go_at_call 87; (with_reducible refine (Q_text_any v B a1 65536 W1 hR1.out ha1.out (by decide)).mono ?_); rintro e w' ⟨rfl, rfl⟩; rw [H2.out])
    | (go_at_call 85; (with_reducible refine (Q_upto_any v B a2 1152921504606846976 W1 hR1.out ha2.out (by decide)).mono ?_); rintro e w' ⟨rfl, rfl⟩; rw [H3.out])
    | (go_at_call 86; refine (Q_done_no g v B a 32 a3 W1 hS1.out (by decide)).mono ?_; rintro e w2 ⟨rfl, HP2⟩; have hb1s := hb1'.chg HP2.2 NR.out)
    | (refine store_box rfl 51 _ _ rfl w.heap.size 51 _ #[.string ⟨#[]⟩, .string ⟨#[]⟩, .int .i64 0] rfl rfl hb1s infoRw rfl (rowC_one _ _ _) ?_; intro w9 hb9 hg9))
  refine bodyPost_ret (results_cell1 rfl _ _ _ rfl (run_load_box _ _ _ _ _ hb9 Try.underlying51 rfl infoRw)) rfl ⟨rfl, ?_⟩
  exact qr_end hS.out HBB.out (S := fun k => k = g ∨ k = w.heap.size) ((HP2.2.mono fun _ _ h => Or.inl h).trans (Chg.of hg9) fun b hb hs => .inr (by injection hs)) (fun b hb hs => by omega) (HP2.1.1.grown hg9 (fun e => by injection e with e; exact NR.out e.symm)) HP2.1.2.2.2
set_option maxHeartbeats 1000000 in
theorem Q_Row_6 (g : Nat) (v : Value) (B : List Int) (a : Nat) (w : World) (h : Qr w g v B a 0) (k u : List Int) (n : Int) (a1 a2 a3 : Nat) (h1 : textA B a 1024 = (k, a1, 0)) (k1 : a1 ≤ B.length) (h2 : textA B a1 65536 = (u, a2, 0)) (k2 : a2 ≤ B.length) (h3 : uptoA B a2 1152921504606846976 = (n, a3, 0)) (k3 : a3 ≤ B.length) (hk : ¬ k = []) (hn : ¬ n = 0) :
    Calls Try.prog 80 #[.pointer (some ⟨g, 0, none⟩)] w (QRet w g v B (.agg (rowC (strOfNums k) (strOfNums u) n)) a3 0) := by
  have hb1 := Box.new w #[.string ⟨#[]⟩, .string ⟨#[]⟩, .int .i64 0] 51
  have hB0 := al1 (Below.refl w.heap.size w) (.cells #[.string ⟨#[]⟩, .string ⟨#[]⟩, .int .i64 0] 51)
  have NR := hd_ (show w.heap.size ≠ g from fun e => by have := h.1.lt; omega)
  have hS := hd_ h
  have hS0 := hd_ (h.keep hB0)
  have hle := h.2.2.2
  have H1 := hd_ h1
  have H2 := hd_ h2
  have H3 := hd_ h3
  have ha1 := hd_ k1
  have ha2 := hd_ k2
  have ha3 := hd_ k3
  have hkL : ¬ (strOfNums k).toList = [] := toList_ne (by rw [strOfNums_size]; exact fun h => hk (List.eq_nil_of_length_eq_zero h))
  have hkE : (strOfNums k).toList.isEmpty = false := by rw [List.isEmpty_eq_false_iff]; exact hkL
  have hn0 : (n == 0) = false := by rw [beq_eq_false_iff_ne]; exact hn
  clear h h1 h2 h3 k1 k2 k3 hk hn
  go_enter Try.func80, Try.ntmps80
  go_upto_region 1 with fail
  generalize w.alloc (.cells #[.string ⟨#[]⟩, .string ⟨#[]⟩, .int .i64 0] 51) = W0 at *
  have q0 : W0.cell? ⟨g, 0, none⟩ = some v := hS0.out.1.cell 0 rfl
  have q1 : W0.cell? ⟨g, 1, none⟩ = some (.int .i64 (a : Int)) := hS0.out.1.cell 1 rfl
  have q2 : W0.cell? ⟨g, 2, none⟩ = some (.int .i64 0) := hS0.out.1.cell 2 rfl
  have hN : ∀ m : Nat, _ := fun m => tri_quiet m (Q_text_any v B a 1024 _ (hS0.out.2.1.keep (below_drewN (Below.refl _ _) m)) hle (by decide))
  rw [H1.out] at hN
  have HN := hd_ hN
  clear hN
  go_upto_region 3 with fail
  go_quiet ((go_at_call 87; exact Calls.quiet_of_same (HN.out _)))
  rename_i nq
  have hB1 := below_drewN (Below.refl W0.heap.size W0) nq
  have hb1' := hb1.keep hB1
  have HBB := hd_ (bel_trans hB0 hB1)
  have hS1 := hd_ (hS0.out.keep hB1)
  have p0 : (W0.drewN nq).cell? ⟨g, 0, none⟩ = some v := hS1.out.1.cell 0 rfl
  have hR1 := hd_ hS1.out.2.1
  clear hb1 hB1 hB0 hS0 HN q0 q1 q2
  generalize W0.drewN nq = W1 at *
  go_wp2_with (first
    | (go_at_call 87; (with_reducible refine (Q_text_any v B a1 65536 W1 hR1.out ha1.out (by decide)).mono ?_); rintro e w' ⟨rfl, rfl⟩; rw [H2.out])
    | (go_at_call 85; (with_reducible refine (Q_upto_any v B a2 1152921504606846976 W1 hR1.out ha2.out (by decide)).mono ?_); rintro e w' ⟨rfl, rfl⟩; rw [H3.out])
    | (go_at_call 86; refine (Q_done_ok g v B a a3 W1 hS1.out ha3.out).mono ?_; rintro e w2 ⟨rfl, HP2⟩; have hb1s := hb1'.chg HP2.2 NR.out)
    | (refine store_box rfl 51 _ _ rfl w.heap.size 51 _ #[.string (strOfNums k), .string (strOfNums u), .int .i64 n] rfl rfl hb1s infoRw rfl (rowC_one _ _ _) ?_; intro w9 hb9 hg9))
  refine bodyPost_ret (results_cell1 rfl _ _ _ rfl (run_load_box _ _ _ _ _ hb9 Try.underlying51 rfl infoRw)) rfl ⟨rfl, ?_⟩
  exact qr_end hS.out HBB.out (S := fun k => k = g ∨ k = w.heap.size) ((HP2.2.mono fun _ _ h => Or.inl h).trans (Chg.of hg9) fun b hb hs => .inr (by injection hs)) (fun b hb hs => by omega) (HP2.1.1.grown hg9 (fun e => by injection e with e; exact NR.out e.symm)) HP2.1.2.2.2
set_option maxHeartbeats 1000000 in
theorem Q_Row_0 (g : Nat) (v : Value) (B : List Int) (a : Nat) (err : Int) (w : World) (h : Qr w g v B a err) (h0 : err ≠ 0) :
    Calls Try.prog 80 #[.pointer (some ⟨g, 0, none⟩)] w (QRet w g v B (.agg (rowC (strOfNums []) (strOfNums []) 0)) a err) := by
  have hb1 := Box.new w #[.string ⟨#[]⟩, .string ⟨#[]⟩, .int .i64 0] 51
  have hB0 := al1 (Below.refl w.heap.size w) (.cells #[.string ⟨#[]⟩, .string ⟨#[]⟩, .int .i64 0] 51)
  have hS := hd_ h
  have hS0 := hd_ (h.keep hB0)
  have hE1 : (err == 0) = false := by rw [beq_eq_false_iff_ne]; exact h0
  have hE2 : (err != 0) = true := by rw [bne, hE1]; rfl
  clear h h0
  go_enter Try.func80, Try.ntmps80
  go_upto_region 1 with fail
  generalize w.alloc (.cells #[.string ⟨#[]⟩, .string ⟨#[]⟩, .int .i64 0] 51) = W0 at *
  have q2 : W0.cell? ⟨g, 2, none⟩ = some (.int .i64 err) := hS0.out.1.cell 2 rfl
  go_wp2_with (refine store_box rfl 51 _ _ rfl w.heap.size 51 _ #[.string ⟨#[]⟩, .string ⟨#[]⟩, .int .i64 0] rfl rfl hb1 infoRw rfl (rowC_one _ _ _) ?_; intro w9 hb9 hg9)
  refine bodyPost_ret (results_cell1 rfl _ _ _ rfl (run_load_box _ _ _ _ _ hb9 Try.underlying51 rfl infoRw)) rfl ⟨rfl, ?_⟩
  exact hS.out.later (below_row hB0 hg9 (Nat.le_refl _) hB0.size)
theorem Q_Row_any (g : Nat) (v : Value) (B : List Int) (a : Nat) (err : Int) (w : World) (h : Qr w g v B a err) :
    Calls Try.prog 80 #[.pointer (some ⟨g, 0, none⟩)] w (QRet w g v B (.agg (rowC (strOfNums (rRow B a err).1.1) (strOfNums (rRow B a err).1.2.1) (rRow B a err).1.2.2)) (rRow B a err).2.1 (rRow B a err).2.2) := by
  unfold rRow
  by_cases h0 : err = 0
  · subst h0
    rw [if_neg (by simp)]
    unfold rowA
    rcases textA_cases B h.2.1.1 a h.2.2.2 1024 (by decide) with ⟨E, hE, e1⟩ | ⟨n1, k1, _, e1, b1, _, _, _, _, _⟩
    · rw [e1, if_pos (by simp only; omega)]
      exact Q_Row_1 g v B a w h _ _ E e1 (by omega)
    · rw [e1, if_neg (by simp)]
      generalize (B.drop (a + k1)).take n1 = K at *
      generalize a + k1 + n1 = a1 at *
      simp only
      rcases textA_cases B h.2.1.1 a1 b1 65536 (by decide) with ⟨E, hE, e2⟩ | ⟨n2, k2, _, e2, b2, _, _, _, _, _⟩
      · rw [e2, if_pos (by simp only; omega)]
        exact Q_Row_2 g v B a w h K _ a1 _ E e1 b1 e2 (by omega)
      · rw [e2, if_neg (by simp)]
        generalize (B.drop (a1 + k2)).take n2 = U at *
        generalize a1 + k2 + n2 = a2 at *
        simp only
        rcases uptoA_cases B h.2.1.1 a2 b2 1152921504606846976 (by decide) with ⟨E, hE, e3⟩ | ⟨n3, k3, e3, b3, _, _, _, _, _⟩
        · rw [e3, if_pos (by simp only; omega)]
          exact Q_Row_3 g v B a w h K U _ a1 a2 _ E e1 b1 e2 b2 e3 (by omega)
        · rw [e3, if_neg (by simp)]
          simp only
          by_cases hk : K = []
          · rw [if_pos (.inl hk)]
            exact Q_Row_4 g v B a w h K U _ a1 a2 _ e1 b1 e2 b2 e3 b3 hk
          · by_cases hn : (n3 : Int) = 0
            · rw [if_pos (.inr hn)]
              exact Q_Row_5 g v B a w h K U _ a1 a2 _ e1 b1 e2 b2 e3 b3 hk hn
            · rw [if_neg (fun h => h.elim hk hn)]
              exact Q_Row_6 g v B a w h K U _ a1 a2 _ e1 b1 e2 b2 e3 b3 hk hn
  · rw [if_pos h0]; exact Q_Row_0 g v B a err w h h0
end Go.Proofs.Ytlaeiipiboabaaa
