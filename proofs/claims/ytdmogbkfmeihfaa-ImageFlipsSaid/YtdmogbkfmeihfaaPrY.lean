/- The reader of the document and its calls. -/
import Derived.Test.YtdmogbkfmeihfaaPrB
import Derived.Test.YtdmogbkfmeihfaaPwX
namespace Go.Proofs.Ytdmogbkfmeihfaa
open Go.RowKit
set_option maxRecDepth 100000
set_option linter.unusedVariables false
/-- three answers, the world as it was -/
def Tri (x : Value) (n : Nat) (E : Int) (w : World) (e : Ending) (w' : World) : Prop := e = .returned (.tuple #[x, .int .i64 (n : Int), .int .i64 E]) ∧ w = w'
theorem Q_number_any (v : Value) (B : List Int) (a : Nat) (w : World) (HR : Rd w v B) (ha : a ≤ B.length) :
    Calls Try.prog 89 #[v, .int .i64 (a : Int)] w (Tri (.int .u64 (numA B a).1) (numA B a).2.1 (numA B a).2.2 w) := by
  have hlt := HR.lt63
  obtain ⟨y, hs0, hR⟩ := HR.sl_l Try.underlying22 infoB a ha
  have hs : ∀ (W : World), Sem.run Try.prog (Instr.slice 22 v (some (Value.int IntKind.i64 (a : Int))) none none) W = Result.ok y W := hs0
  have hD := ref_Read_any y (B.drop a) w hR
  have hB := HR.1
  clear hs0 hR HR
  rcases numA_cases B hB a ha with ⟨E, hE, e1, e2⟩ | ⟨u, k, e1, e2, h1, h2, h2', _, hu64⟩
  · rw [e2]
    rw [e1] at hD
    have HD := hd_ hD
    clear e1 e2 hD
    rcases hE with rfl | rfl | rfl
    all_goals
      go_enter Try.func89, Try.ntmps89
      go_wp2_with (go_at_call 111; refine HD.out.mono ?_; rintro e w' ⟨rfl, rfl⟩)
      go_ret3
      exact ⟨rfl, rfl⟩
  · rw [e2]
    rw [e1] at hD
    have HD := hd_ hD
    clear e1 e2 hD
    obtain ⟨a2, ha2⟩ : ∃ a2, a + k = a2 := ⟨_, rfl⟩
    have ha2' : (a : Int) + (k : Int) = (a2 : Int) := by omega
    rw [ha2]
    clear ha2
    go_enter Try.func89, Try.ntmps89
    go_wp2_with (go_at_call 111; refine HD.out.mono ?_; rintro e w' ⟨rfl, rfl⟩)
    go_ret3
    exact ⟨rfl, rfl⟩
theorem Q_upto_any (v : Value) (B : List Int) (a : Nat) (most : Int) (w : World) (HR : Rd w v B) (ha : a ≤ B.length) (hm : most ≤ 9223372036854775807) :
    Calls Try.prog 65 #[v, .int .i64 (a : Int), .int .i64 most] w (Tri (.int .i64 (uptoA B a most).1) (uptoA B a most).2.1 (uptoA B a most).2.2 w) := by
  have hN := Q_number_any v B a w HR ha
  have hB := HR.1
  unfold uptoA
  by_cases h0 : most < 0
  · rw [if_pos h0]
    clear hN HR
    go_enter Try.func65, Try.ntmps65
    go_wp2
    go_ret3
    exact ⟨rfl, rfl⟩
  rw [if_neg h0]
  have hm0 : 0 ≤ most := by omega
  rcases numA_cases B hB a ha with ⟨E, hE, e1, e2⟩ | ⟨u, k, e1, e2, h1, h2, h2', _, hu64⟩
  · rw [e2, if_pos (by simp only; omega)]
    rw [e2] at hN
    have HN := hd_ hN
    have hE1 : (E + 20 == 0) = false := by rw [beq_eq_false_iff_ne]; omega
    have hE2 : (E + 20 != 0) = true := by rw [bne, hE1]; rfl
    clear e1 e2 hN HR hE
    generalize E + 20 = F at *
    go_enter Try.func65, Try.ntmps65
    go_wp2_with (go_at_call 89; refine HN.out.mono ?_; rintro e w' ⟨rfl, rfl⟩)
    go_ret3
    exact ⟨rfl, rfl⟩
  · rw [e2, if_neg (by simp)]
    rw [e2] at hN
    have HN := hd_ hN
    clear e1 e2 hN HR
    generalize a + k = a2 at *
    by_cases hu : most < (u : Int)
    · rw [if_pos hu]
      go_enter Try.func65, Try.ntmps65
      go_wp2_with (go_at_call 89; refine HN.out.mono ?_; rintro e w' ⟨rfl, rfl⟩)
      go_ret3
      exact ⟨rfl, rfl⟩
    · rw [if_neg hu]
      go_enter Try.func65, Try.ntmps65
      go_wp2_with (go_at_call 89; refine HN.out.mono ?_; rintro e w' ⟨rfl, rfl⟩)
      go_ret3
      exact ⟨rfl, rfl⟩
theorem Q_text_any (v : Value) (B : List Int) (a : Nat) (most : Int) (w : World) (HR : Rd w v B) (ha : a ≤ B.length) (hm : most ≤ 9223372036854775807) :
    Calls Try.prog 85 #[v, .int .i64 (a : Int), .int .i64 most] w (Tri (.string (strOfNums (textA B a most).1)) (textA B a most).2.1 (textA B a most).2.2 w) := by
  have hN := Q_upto_any v B a most w HR ha hm
  have hB := HR.1
  have hlt := HR.lt63
  have hlen := HR.2.len (P := Try.prog) 22 5 3 Try.underlying22
  unfold textA
  rcases uptoA_cases B hB a ha most (by omega) with ⟨E, hE, e2⟩ | ⟨u, k, e2, h1, h2, _, h4, h5, h6⟩
  · rw [e2, if_pos (by simp only; omega)]
    rw [e2] at hN
    have HN := hd_ hN
    have hE1 : (E == 0) = false := by rw [beq_eq_false_iff_ne]; omega
    have hE2 : (E != 0) = true := by rw [bne, hE1]; rfl
    clear e2 hN HR hE
    go_enter Try.func85, Try.ntmps85
    go_wp2_with (go_at_call 65; refine HN.out.mono ?_; rintro e w' ⟨rfl, rfl⟩)
    go_ret3
    exact ⟨rfl, rfl⟩
  · rw [e2, if_neg (by simp)]
    rw [e2] at hN
    have HN := hd_ hN
    clear e2 hN
    generalize a + k = a2 at *
    simp only
    by_cases hu : (B.length : Int) - (a2 : Int) < (u : Int)
    · rw [if_pos hu]
      clear HR
      have hd1 : decide ((B.length : Int) - (a2 : Int) < (u : Int)) = true := decide_eq_true hu
      go_enter Try.func85, Try.ntmps85
      go_wp2_with (go_at_call 65; refine HN.out.mono ?_; rintro e w' ⟨rfl, rfl⟩)
      go_ret3
      exact ⟨rfl, rfl⟩
    · rw [if_neg hu, Int.toNat_natCast]
      have hd1 : decide ((B.length : Int) - (a2 : Int) < (u : Int)) = false := decide_eq_false hu
      obtain ⟨y, hs0, hR⟩ := HR.sl Try.underlying22 infoB a2 (a2 + u) (by omega) (by omega)
      rw [cut_cut] at hR
      have hs : ∀ (W : World), Sem.run Try.prog (Instr.slice 22 v (some (Value.int IntKind.i64 (a2 : Int))) (some (Value.int IntKind.i64 ((a2 : Int) + (u : Int)))) none) W = Result.ok y W := fun W => by
        have := hs0 W
        rwa [Int.natCast_add] at this
      have hcv := hR.str (P := Try.prog) 22 5 9 Try.underlying22 Try.underlying5 Try.underlying9
      clear HR hR hs0
      generalize (B.drop a2).take u = T at *
      obtain ⟨a3, ha3⟩ : ∃ a3, a2 + u = a3 := ⟨_, rfl⟩
      have ha3' : (a2 : Int) + (u : Int) = (a3 : Int) := by omega
      rw [ha3]
      clear ha3
      rw [ha3'] at hs
      go_enter Try.func85, Try.ntmps85
      go_wp2_with (go_at_call 65; refine HN.out.mono ?_; rintro e w' ⟨rfl, rfl⟩)
      go_ret3
      exact ⟨rfl, rfl⟩
theorem Rd.chgE {S : Nat → Prop} {w w1 : World} {v : Value} {xs : List Int} (hr : Rd w v xs) (h : Chg S w w1) (hn : xs = [] ∨ ∀ k, v.ownBlock = some k → ¬ S k) : Rd w1 v xs := by
  rcases hn with rfl | hn
  · obtain ⟨hb, hl, A, cap, hv, h1, h2, h3, h4⟩ := hr
    exact ⟨hb, hl, A, cap, hv, h1, h2, h3, fun j hj => absurd hj (Nat.not_lt_zero j)⟩
  · exact hr.chg h hn
/-- the document's reader -/
def Qr (W : World) (g : Nat) (v : Value) (B : List Int) (a : Nat) (err : Int) : Prop :=
  Box W g 88 #[v, .int .i64 (a : Int), .int .i64 err] ∧ Rd W v B ∧ (B = [] ∨ v.ownBlock ≠ some g) ∧ a ≤ B.length
def QrPost (w : World) (g : Nat) (v : Value) (B : List Int) (a : Nat) (err : Int) (w' : World) : Prop := Qr w' g v B a err ∧ Chg (fun k => k = g) w w'
def QRet (w : World) (g : Nat) (v : Value) (B : List Int) (x : Value) (a : Nat) (err : Int) (e : Ending) (w' : World) : Prop := e = .returned x ∧ QrPost w g v B a err w'
section
variable {w w1 w2 : World} {g : Nat} {v : Value} {B : List Int} {a a1 : Nat} {err e1 : Int}
theorem Qr.same (h : Qr w g v B a err) : QrPost w g v B a err w := ⟨h, Chg.refl _ _⟩
theorem Qr.keep (h : Qr w g v B a err) (hb : Below w.heap.size w w1) : Qr w1 g v B a err := ⟨h.1.keep hb, h.2.1.keep hb, h.2.2⟩
theorem Qr.later (h : Qr w g v B a err) (hb : Below w.heap.size w w1) : QrPost w g v B a err w1 := ⟨h.keep hb, Chg.below hb⟩
theorem QrPost.trans (h : QrPost w g v B a err w1) (h2 : QrPost w1 g v B a1 e1 w2) : QrPost w g v B a1 e1 w2 := ⟨h2.1, h.2.trans h2.2 fun _ _ h => h⟩
theorem QrPost.after (hb : Below w.heap.size w w1) (h2 : QrPost w1 g v B a err w2) : QrPost w g v B a err w2 := ⟨h2.1, (Chg.below hb).trans h2.2 fun _ _ h => h⟩
theorem QrPost.before (h : QrPost w g v B a err w1) (hb : Below w1.heap.size w1 w2) : QrPost w g v B a err w2 := ⟨h.1.keep hb, h.2.trans (Chg.below hb) fun _ _ h => h⟩
theorem Qr.set (h : Qr w g v B a err) (j : Nat) (u : Value) (a2 : Nat) (e2 : Int) (ha : a2 ≤ B.length) (hc : #[v, .int .i64 (a : Int), .int .i64 err].setIfInBounds j u = #[v, .int .i64 (a2 : Int), .int .i64 e2]) : QrPost w g v B a2 e2 (w.setCell ⟨g, j, none⟩ u) := by
  obtain ⟨hb, hg⟩ := h.1.put j u
  rw [hc] at hb
  exact ⟨⟨hb, h.2.1.chgE (Chg.of hg) (h.2.2.1.imp id fun hx k hk e => hx (hk.trans e)), h.2.2.1, ha⟩, Chg.grown hg (fun b _ hb => by injection hb)⟩
end
def QFailRet (w : World) (g : Nat) (v : Value) (B : List Int) (a : Nat) (err : Int) (e : Ending) (w' : World) : Prop := e = .returned (.tuple #[]) ∧ QrPost w g v B a err w'
theorem Q_Fail_any (g : Nat) (v : Value) (B : List Int) (a : Nat) (err e : Int) (w : World) (h : Qr w g v B a err) : Calls Try.prog 90 #[.pointer (some ⟨g, 0, none⟩), .int .i64 e] w (QFailRet w g v B a (rFail err e)) := by
  have q2 : w.cell? ⟨g, 2, none⟩ = some (.int .i64 err) := h.1.cell 2 rfl
  have z2 := h.1.frozen 2
  have hS := hd_ h
  unfold rFail
  by_cases h0 : err = 0
  · subst h0
    rw [if_pos rfl]
    clear h
    go_enter Try.func90, Try.ntmps90
    go_wp2
    go_end0
    exact ⟨rfl, hS.out.set 2 (.int .i64 e) a e hS.out.2.2.2 rfl⟩
  · rw [if_neg h0]
    have hB : (err == 0) = false := by rw [beq_eq_false_iff_ne]; exact h0
    clear h
    go_enter Try.func90, Try.ntmps90
    go_wp2
    go_end0
    exact ⟨rfl, hS.out.same⟩
theorem Q_done_no (g : Nat) (v : Value) (B : List Int) (a : Nat) (E : Int) (x : Nat) (w : World) (h : Qr w g v B a 0) (hE : E ≠ 0) : Calls Try.prog 66 #[.pointer (some ⟨g, 0, none⟩), .int .i64 (x : Int), .int .i64 E] w (QRet w g v B (.bool false) a E) := by
  have hS := hd_ h
  have hE1 : (E == 0) = false := by rw [beq_eq_false_iff_ne]; omega
  have hE2 : (E != 0) = true := by rw [bne, hE1]; rfl
  clear h
  go_enter Try.func66, Try.ntmps66
  go_wp2_with (go_at_call 90; refine (Q_Fail_any g v B a 0 E _ hS.out).mono ?_; rintro en w1 ⟨rfl, HP⟩)
  go_ret
  exact ⟨rfl, HP⟩
theorem Q_done_ok (g : Nat) (v : Value) (B : List Int) (a a2 : Nat) (w : World) (h : Qr w g v B a 0) (ha2 : a2 ≤ B.length) : Calls Try.prog 66 #[.pointer (some ⟨g, 0, none⟩), .int .i64 (a2 : Int), .int .i64 0] w (QRet w g v B (.bool true) a2 0) := by
  have hS := hd_ h
  have q1 : w.cell? ⟨g, 1, none⟩ = some (.int .i64 (a : Int)) := h.1.cell 1 rfl
  have z1 := h.1.frozen 1
  have HA := hd_ ha2
  clear h ha2
  go_enter Try.func66, Try.ntmps66
  go_wp2
  go_ret
  exact ⟨rfl, hS.out.set 1 (.int .i64 (a2 : Int)) a2 0 HA.out rfl⟩
theorem tri_quiet {f : FuncId} {args : Array Value} {x : Value} {n : Nat} {E : Int} {w : World} (m : Nat) (h : Calls Try.prog f args (w.drewN m) (Tri x n E (w.drewN m))) : Calls Try.prog f args (w.drewN m) fun e w' => e = .returned (.tuple #[x, .int .i64 (n : Int), .int .i64 E]) ∧ w' = w.drewN m :=
  h.mono fun _ _ h => ⟨h.1, h.2.symm⟩
set_option maxHeartbeats 1000000 in
theorem Q_Int_any (g : Nat) (v : Value) (B : List Int) (a : Nat) (err most : Int) (w : World) (h : Qr w g v B a err) (hm : most ≤ 9223372036854775807) :
    Calls Try.prog 41 #[.pointer (some ⟨g, 0, none⟩), .int .i64 most] w (QRet w g v B (.int .i64 (rInt B a err most).1) (rInt B a err most).2.1 (rInt B a err most).2.2) := by
  have hS := hd_ h
  have q0 : w.cell? ⟨g, 0, none⟩ = some v := h.1.cell 0 rfl
  have q1 : w.cell? ⟨g, 1, none⟩ = some (.int .i64 (a : Int)) := h.1.cell 1 rfl
  have q2 : w.cell? ⟨g, 2, none⟩ = some (.int .i64 err) := h.1.cell 2 rfl
  by_cases h0 : err = 0
  · subst h0
    have hN : ∀ m : Nat, _ := fun m => tri_quiet m (Q_upto_any v B a most _ (h.2.1.keep (below_drewN (Below.refl _ _) m)) h.2.2.2 hm)
    have hcs : (∃ E : Int, E ≠ 0 ∧ uptoA B a most = (0, 0, E) ∧ rInt B a 0 most = (0, a, E)) ∨ ∃ x a2, uptoA B a most = (x, a2, 0) ∧ rInt B a 0 most = (x, a2, 0) ∧ a2 ≤ B.length := by
      unfold rInt
      rcases uptoA_cases B h.2.1.1 a h.2.2.2 most (by omega) with ⟨E, hE, e2⟩ | ⟨u, k, e2, h1, _, _, _, _, _⟩
      · exact .inl ⟨E, by omega, e2, by rw [if_neg (by simp), e2, if_pos (by simp only; omega)]⟩
      · exact .inr ⟨_, _, e2, by rw [if_neg (by simp), e2, if_neg (by simp)], by omega⟩
    rcases hcs with ⟨E, hE, e1, e2⟩ | ⟨x, a2, e1, e2, ha2⟩
    · rw [e2]
      rw [e1] at hN
      have HN := hd_ hN
      have HE := hd_ hE
      clear hN e1 e2 h hE
      go_enter Try.func41, Try.ntmps41
      go_upto_region 3 with fail
      go_quiet ((go_at_call 65; exact Calls.quiet_of_same (HN.out _)))
      rename_i nq
      have hS1 := hd_ (hS.out.keep (below_drewN (Below.refl w.heap.size w) nq))
      have HB1 := hd_ (below_drewN (Below.refl w.heap.size w) nq)
      clear HN
      generalize w.drewN nq = W1 at *
      go_wp2_with (go_at_call 66; refine (Q_done_no g v B a E 0 W1 hS1.out HE.out).mono ?_; rintro e w2 ⟨rfl, HP2⟩)
      go_ret
      exact ⟨rfl, HP2.after HB1.out⟩
    · rw [e2]
      rw [e1] at hN
      have HN := hd_ hN
      have HA := hd_ ha2
      clear hN e1 e2 h ha2
      go_enter Try.func41, Try.ntmps41
      go_upto_region 3 with fail
      go_quiet ((go_at_call 65; exact Calls.quiet_of_same (HN.out _)))
      rename_i nq
      have hS1 := hd_ (hS.out.keep (below_drewN (Below.refl w.heap.size w) nq))
      have HB1 := hd_ (below_drewN (Below.refl w.heap.size w) nq)
      clear HN
      generalize w.drewN nq = W1 at *
      go_wp2_with (go_at_call 66; refine (Q_done_ok g v B a a2 W1 hS1.out HA.out).mono ?_; rintro e w2 ⟨rfl, HP2⟩)
      go_ret
      exact ⟨rfl, HP2.after HB1.out⟩
  · have hR : rInt B a err most = (0, a, err) := by unfold rInt; rw [if_pos h0]
    rw [hR]
    have hB : (err == 0) = false := by rw [beq_eq_false_iff_ne]; exact h0
    have hB2 : (err != 0) = true := by rw [bne, hB]; rfl
    clear h hR h0
    go_enter Try.func41, Try.ntmps41
    go_wp2
    go_ret
    exact ⟨rfl, hS.out.same⟩
/-- the post of a call that has also written into variables of its own -/
theorem qr_post {w w0 w1 : World} {g : Nat} {v : Value} {B : List Int} {a : Nat} {err : Int} {S : Nat → Prop} (hB : Below w.heap.size w w0) (hc : Chg S w0 w1) (hs : ∀ b, b < w.heap.size → S b → b = g) (h : Qr w1 g v B a err) : QrPost w g v B a err w1 :=
  ⟨h, ⟨hc.os.trans hB.os, hc.tape.trans hB.tape, hc.output.trans hB.output, Nat.le_trans hB.size hc.size, fun b hb hn => (hc.block b (Nat.lt_of_lt_of_le hb hB.size) fun h => hn (hs b hb h)).trans (hB.block b hb)⟩⟩
theorem qr_end {w w0 w1 : World} {g : Nat} {v : Value} {B : List Int} {a a0 : Nat} {err e0 : Int} {S : Nat → Prop} (h : Qr w g v B a0 e0) (hB : Below w.heap.size w w0) (hc : Chg S w0 w1) (hs : ∀ b, b < w.heap.size → S b → b = g) (hb : Box w1 g 88 #[v, .int .i64 (a : Int), .int .i64 err]) (ha : a ≤ B.length) : QrPost w g v B a err w1 := by
  have hC : Chg (fun k => k = g) w w1 := ⟨hc.os.trans hB.os, hc.tape.trans hB.tape, hc.output.trans hB.output, Nat.le_trans hB.size hc.size, fun b hb hn => (hc.block b (Nat.lt_of_lt_of_le hb hB.size) fun h => hn (hs b hb h)).trans (hB.block b hb)⟩
  exact ⟨⟨hb, h.2.1.chgE hC (h.2.2.1.imp id fun hx k hk e => hx (hk.trans (by rw [e]))), h.2.2.1, ha⟩, hC⟩
theorem dig_set {T : List Int} (hT : T.length = 32) {k : Nat} (hk : k < 32) : (T.take k ++ List.replicate (32 - k) 0).set k (T.getD k 0) = T.take (k + 1) ++ List.replicate (32 - (k + 1)) 0 := by
  have hl : (T.take k).length = k := by rw [List.length_take]; omega
  rw [List.set_append_right _ _ (by omega), hl, Nat.sub_self, show 32 - k = (32 - (k + 1)) + 1 by omega, List.replicate_succ, List.set_cons_zero, take_snoc (by omega), List.append_assoc]
  rfl
set_option maxHeartbeats 1000000 in
theorem Q_Row_1 (g : Nat) (v : Value) (B : List Int) (a : Nat) (w : World) (h : Qr w g v B a 0) (k : List Int) (b : Nat) (E : Int) (h1 : textA B a 1024 = (k, b, E)) (hE : E ≠ 0) :
    Calls Try.prog 56 #[.pointer (some ⟨g, 0, none⟩)] w (QRet w g v B (.agg (rowC (strOfNums []) (strOfNums []) 0)) a E) := by
  have hb1 := Box.new w #[.string ⟨#[]⟩, .string ⟨#[]⟩, .int .i64 0] 61
  have hB0 := al1 (Below.refl w.heap.size w) (.cells #[.string ⟨#[]⟩, .string ⟨#[]⟩, .int .i64 0] 61)
  have NR := hd_ (show w.heap.size ≠ g from fun e => by have := h.1.lt; omega)
  have hS := hd_ h
  have hS0 := hd_ (h.keep hB0)
  have hle := h.2.2.2
  have hE1 : (E == 0) = false := by rw [beq_eq_false_iff_ne]; exact hE
  have hE2 : (E != 0) = true := by rw [bne, hE1]; rfl
  have HE := hd_ hE
  have H1 := hd_ h1
  clear h h1 hE
  go_enter Try.func56, Try.ntmps56
  go_upto_region 1 with fail
  generalize w.alloc (.cells #[.string ⟨#[]⟩, .string ⟨#[]⟩, .int .i64 0] 61) = W0 at *
  have q0 : W0.cell? ⟨g, 0, none⟩ = some v := hS0.out.1.cell 0 rfl
  have q1 : W0.cell? ⟨g, 1, none⟩ = some (.int .i64 (a : Int)) := hS0.out.1.cell 1 rfl
  have q2 : W0.cell? ⟨g, 2, none⟩ = some (.int .i64 0) := hS0.out.1.cell 2 rfl
  have hN : ∀ m : Nat, _ := fun m => tri_quiet m (Q_text_any v B a 1024 _ (hS0.out.2.1.keep (below_drewN (Below.refl _ _) m)) hle (by decide))
  rw [H1.out] at hN
  have HN := hd_ hN
  clear hN
  go_upto_region 3 with fail
  go_quiet ((go_at_call 85; exact Calls.quiet_of_same (HN.out _)))
  rename_i nq
  have hB1 := below_drewN (Below.refl W0.heap.size W0) nq
  have hb1' := hb1.keep hB1
  have HBB := hd_ (bel_trans hB0 hB1)
  have hS1 := hd_ (hS0.out.keep hB1)
  have p0 : (W0.drewN nq).cell? ⟨g, 0, none⟩ = some v := hS1.out.1.cell 0 rfl
  clear hb1 hB1 hB0 hS0 HN q0 q1 q2
  generalize W0.drewN nq = W1 at *
  go_wp2_with (first
    | (go_at_call 66; refine (Q_done_no g v B a E b W1 hS1.out HE.out).mono ?_; rintro e w2 ⟨rfl, HP2⟩; have hb1s := hb1'.chg HP2.2 NR.out)
    | (refine store_box rfl 61 _ _ rfl w.heap.size 61 _ #[.string ⟨#[]⟩, .string ⟨#[]⟩, .int .i64 0] rfl rfl hb1s infoRw rfl (rowC_one _ _ _) ?_; intro w9 hb9 hg9))
  refine bodyPost_ret (results_cell1 rfl _ _ _ rfl (run_load_box _ _ _ _ _ hb9 Try.underlying61 rfl infoRw)) rfl ⟨rfl, ?_⟩
  exact qr_end hS.out HBB.out (S := fun k => k = g ∨ k = w.heap.size) ((HP2.2.mono fun _ _ h => Or.inl h).trans (Chg.of hg9) fun b hb hs => .inr (by injection hs)) (fun b hb hs => by omega) (HP2.1.1.grown hg9 (fun e => by injection e with e; exact NR.out e.symm)) HP2.1.2.2.2
set_option maxHeartbeats 1000000 in
theorem Q_Row_2 (g : Nat) (v : Value) (B : List Int) (a : Nat) (w : World) (h : Qr w g v B a 0) (k u : List Int) (a1 b : Nat) (E : Int) (h1 : textA B a 1024 = (k, a1, 0)) (k1 : a1 ≤ B.length) (h2 : textA B a1 65536 = (u, b, E)) (hE : E ≠ 0) :
    Calls Try.prog 56 #[.pointer (some ⟨g, 0, none⟩)] w (QRet w g v B (.agg (rowC (strOfNums []) (strOfNums []) 0)) a E) := by
  have hb1 := Box.new w #[.string ⟨#[]⟩, .string ⟨#[]⟩, .int .i64 0] 61
  have hB0 := al1 (Below.refl w.heap.size w) (.cells #[.string ⟨#[]⟩, .string ⟨#[]⟩, .int .i64 0] 61)
  have NR := hd_ (show w.heap.size ≠ g from fun e => by have := h.1.lt; omega)
  have hS := hd_ h
  have hS0 := hd_ (h.keep hB0)
  have hle := h.2.2.2
  have hE1 : (E == 0) = false := by rw [beq_eq_false_iff_ne]; exact hE
  have hE2 : (E != 0) = true := by rw [bne, hE1]; rfl
  have HE := hd_ hE
  have H1 := hd_ h1
  have H2 := hd_ h2
  have ha1 := hd_ k1
  clear h h1 h2 hE k1
  go_enter Try.func56, Try.ntmps56
  go_upto_region 1 with fail
  generalize w.alloc (.cells #[.string ⟨#[]⟩, .string ⟨#[]⟩, .int .i64 0] 61) = W0 at *
  have q0 : W0.cell? ⟨g, 0, none⟩ = some v := hS0.out.1.cell 0 rfl
  have q1 : W0.cell? ⟨g, 1, none⟩ = some (.int .i64 (a : Int)) := hS0.out.1.cell 1 rfl
  have q2 : W0.cell? ⟨g, 2, none⟩ = some (.int .i64 0) := hS0.out.1.cell 2 rfl
  have hN : ∀ m : Nat, _ := fun m => tri_quiet m (Q_text_any v B a 1024 _ (hS0.out.2.1.keep (below_drewN (Below.refl _ _) m)) hle (by decide))
  rw [H1.out] at hN
  have HN := hd_ hN
  clear hN
  go_upto_region 3 with fail
  go_quiet ((go_at_call 85; exact Calls.quiet_of_same (HN.out _)))
  rename_i nq
  have hB1 := below_drewN (Below.refl W0.heap.size W0) nq
  have hb1' := hb1.keep hB1
  have HBB := hd_ (bel_trans hB0 hB1)
  have hS1 := hd_ (hS0.out.keep hB1)
  have p0 : (W0.drewN nq).cell? ⟨g, 0, none⟩ = some v := hS1.out.1.cell 0 rfl
  have hR1 := hd_ hS1.out.2.1
  clear hb1 hB1 hB0 hS0 HN q0 q1 q2
  generalize W0.drewN nq = W1 at *
  go_wp2_with (first
    | (go_at_call 85; (with_reducible refine (Q_text_any v B a1 65536 W1 hR1.out ha1.out (by decide)).mono ?_); rintro e w' ⟨rfl, rfl⟩; rw [H2.out])
    | (go_at_call 66; refine (Q_done_no g v B a E b W1 hS1.out HE.out).mono ?_; rintro e w2 ⟨rfl, HP2⟩; have hb1s := hb1'.chg HP2.2 NR.out)
    | (refine store_box rfl 61 _ _ rfl w.heap.size 61 _ #[.string ⟨#[]⟩, .string ⟨#[]⟩, .int .i64 0] rfl rfl hb1s infoRw rfl (rowC_one _ _ _) ?_; intro w9 hb9 hg9))
  refine bodyPost_ret (results_cell1 rfl _ _ _ rfl (run_load_box _ _ _ _ _ hb9 Try.underlying61 rfl infoRw)) rfl ⟨rfl, ?_⟩
  exact qr_end hS.out HBB.out (S := fun k => k = g ∨ k = w.heap.size) ((HP2.2.mono fun _ _ h => Or.inl h).trans (Chg.of hg9) fun b hb hs => .inr (by injection hs)) (fun b hb hs => by omega) (HP2.1.1.grown hg9 (fun e => by injection e with e; exact NR.out e.symm)) HP2.1.2.2.2
set_option maxHeartbeats 1000000 in
theorem Q_Row_3 (g : Nat) (v : Value) (B : List Int) (a : Nat) (w : World) (h : Qr w g v B a 0) (k u : List Int) (n : Int) (a1 a2 b : Nat) (E : Int) (h1 : textA B a 1024 = (k, a1, 0)) (k1 : a1 ≤ B.length) (h2 : textA B a1 65536 = (u, a2, 0)) (k2 : a2 ≤ B.length) (h3 : uptoA B a2 1152921504606846976 = (n, b, E)) (hE : E ≠ 0) :
    Calls Try.prog 56 #[.pointer (some ⟨g, 0, none⟩)] w (QRet w g v B (.agg (rowC (strOfNums []) (strOfNums []) 0)) a E) := by
  have hb1 := Box.new w #[.string ⟨#[]⟩, .string ⟨#[]⟩, .int .i64 0] 61
  have hB0 := al1 (Below.refl w.heap.size w) (.cells #[.string ⟨#[]⟩, .string ⟨#[]⟩, .int .i64 0] 61)
  have NR := hd_ (show w.heap.size ≠ g from fun e => by have := h.1.lt; omega)
  have hS := hd_ h
  have hS0 := hd_ (h.keep hB0)
  have hle := h.2.2.2
  have hE1 : (E == 0) = false := by rw [beq_eq_false_iff_ne]; exact hE
  have hE2 : (E != 0) = true := by rw [bne, hE1]; rfl
  have HE := hd_ hE
  have H1 := hd_ h1
  have H2 := hd_ h2
  have H3 := hd_ h3
  have ha1 := hd_ k1
  have ha2 := hd_ k2
  clear h h1 h2 h3 hE k1 k2
  go_enter Try.func56, Try.ntmps56
  go_upto_region 1 with fail
  generalize w.alloc (.cells #[.string ⟨#[]⟩, .string ⟨#[]⟩, .int .i64 0] 61) = W0 at *
  have q0 : W0.cell? ⟨g, 0, none⟩ = some v := hS0.out.1.cell 0 rfl
  have q1 : W0.cell? ⟨g, 1, none⟩ = some (.int .i64 (a : Int)) := hS0.out.1.cell 1 rfl
  have q2 : W0.cell? ⟨g, 2, none⟩ = some (.int .i64 0) := hS0.out.1.cell 2 rfl
  have hN : ∀ m : Nat, _ := fun m => tri_quiet m (Q_text_any v B a 1024 _ (hS0.out.2.1.keep (below_drewN (Below.refl _ _) m)) hle (by decide))
  rw [H1.out] at hN
  have HN := hd_ hN
  clear hN
  go_upto_region 3 with fail
  go_quiet ((go_at_call 85; exact Calls.quiet_of_same (HN.out _)))
  rename_i nq
  have hB1 := below_drewN (Below.refl W0.heap.size W0) nq
  have hb1' := hb1.keep hB1
  have HBB := hd_ (bel_trans hB0 hB1)
  have hS1 := hd_ (hS0.out.keep hB1)
  have p0 : (W0.drewN nq).cell? ⟨g, 0, none⟩ = some v := hS1.out.1.cell 0 rfl
  have hR1 := hd_ hS1.out.2.1
  clear hb1 hB1 hB0 hS0 HN q0 q1 q2
  generalize W0.drewN nq = W1 at *
  go_wp2_with (first
    | (go_at_call 85; (with_reducible refine (Q_text_any v B a1 65536 W1 hR1.out ha1.out (by decide)).mono ?_); rintro e w' ⟨rfl, rfl⟩; rw [H2.out])
    | (go_at_call 65; (with_reducible refine (Q_upto_any v B a2 1152921504606846976 W1 hR1.out ha2.out (by decide)).mono ?_); rintro e w' ⟨rfl, rfl⟩; rw [H3.out])
    | (go_at_call 66; refine (Q_done_no g v B a E b W1 hS1.out HE.out).mono ?_; rintro e w2 ⟨rfl, HP2⟩; have hb1s := hb1'.chg HP2.2 NR.out)
    | (refine store_box rfl 61 _ _ rfl w.heap.size 61 _ #[.string ⟨#[]⟩, .string ⟨#[]⟩, .int .i64 0] rfl rfl hb1s infoRw rfl (rowC_one _ _ _) ?_; intro w9 hb9 hg9))
  refine bodyPost_ret (results_cell1 rfl _ _ _ rfl (run_load_box _ _ _ _ _ hb9 Try.underlying61 rfl infoRw)) rfl ⟨rfl, ?_⟩
  exact qr_end hS.out HBB.out (S := fun k => k = g ∨ k = w.heap.size) ((HP2.2.mono fun _ _ h => Or.inl h).trans (Chg.of hg9) fun b hb hs => .inr (by injection hs)) (fun b hb hs => by omega) (HP2.1.1.grown hg9 (fun e => by injection e with e; exact NR.out e.symm)) HP2.1.2.2.2
set_option maxHeartbeats 1000000 in
theorem Q_Row_4 (g : Nat) (v : Value) (B : List Int) (a : Nat) (w : World) (h : Qr w g v B a 0) (k u : List Int) (n : Int) (a1 a2 a3 : Nat) (h1 : textA B a 1024 = (k, a1, 0)) (k1 : a1 ≤ B.length) (h2 : textA B a1 65536 = (u, a2, 0)) (k2 : a2 ≤ B.length) (h3 : uptoA B a2 1152921504606846976 = (n, a3, 0)) (k3 : a3 ≤ B.length) (hk : k = []) :
    Calls Try.prog 56 #[.pointer (some ⟨g, 0, none⟩)] w (QRet w g v B (.agg (rowC (strOfNums []) (strOfNums []) 0)) a 32) := by
  have hb1 := Box.new w #[.string ⟨#[]⟩, .string ⟨#[]⟩, .int .i64 0] 61
  have hB0 := al1 (Below.refl w.heap.size w) (.cells #[.string ⟨#[]⟩, .string ⟨#[]⟩, .int .i64 0] 61)
  have NR := hd_ (show w.heap.size ≠ g from fun e => by have := h.1.lt; omega)
  have hS := hd_ h
  have hS0 := hd_ (h.keep hB0)
  have hle := h.2.2.2
  have H1 := hd_ h1
  have H2 := hd_ h2
  have H3 := hd_ h3
  have ha1 := hd_ k1
  have ha2 := hd_ k2
  have ha3 := hd_ k3
  have hkL : (strOfNums k).toList = [] := toList_nil (by rw [strOfNums_size, hk]; rfl)
  have hkE : (strOfNums k).toList.isEmpty = true := by rw [hkL]; rfl
  clear h h1 h2 h3 k1 k2 k3 hk
  go_enter Try.func56, Try.ntmps56
  go_upto_region 1 with fail
  generalize w.alloc (.cells #[.string ⟨#[]⟩, .string ⟨#[]⟩, .int .i64 0] 61) = W0 at *
  have q0 : W0.cell? ⟨g, 0, none⟩ = some v := hS0.out.1.cell 0 rfl
  have q1 : W0.cell? ⟨g, 1, none⟩ = some (.int .i64 (a : Int)) := hS0.out.1.cell 1 rfl
  have q2 : W0.cell? ⟨g, 2, none⟩ = some (.int .i64 0) := hS0.out.1.cell 2 rfl
  have hN : ∀ m : Nat, _ := fun m => tri_quiet m (Q_text_any v B a 1024 _ (hS0.out.2.1.keep (below_drewN (Below.refl _ _) m)) hle (by decide))
  rw [H1.out] at hN
  have HN := hd_ hN
  clear hN
  go_upto_region 3 with fail
  go_quiet ((go_at_call 85; exact Calls.quiet_of_same (HN.out _)))
  rename_i nq
  have hB1 := below_drewN (Below.refl W0.heap.size W0) nq
  have hb1' := hb1.keep hB1
  have HBB := hd_ (bel_trans hB0 hB1)
  have hS1 := hd_ (hS0.out.keep hB1)
  have p0 : (W0.drewN nq).cell? ⟨g, 0, none⟩ = some v := hS1.out.1.cell 0 rfl
  have hR1 := hd_ hS1.out.2.1
  clear hb1 hB1 hB0 hS0 HN q0 q1 q2
  generalize W0.drewN nq = W1 at *
  go_wp2_with (first
    | (go_at_call 85; (with_reducible refine (Q_text_any v B a1 65536 W1 hR1.out ha1.out (by decide)).mono ?_); rintro e w' ⟨rfl, rfl⟩; rw [H2.out])
    | (go_at_call 65; (with_reducible refine (Q_upto_any v B a2 1152921504606846976 W1 hR1.out ha2.out (by decide)).mono ?_); rintro e w' ⟨rfl, rfl⟩; rw [H3.out])
    | (go_at_call 66; refine (Q_done_no g v B a 32 a3 W1 hS1.out (by decide)).mono ?_; rintro e w2 ⟨rfl, HP2⟩; have hb1s := hb1'.chg HP2.2 NR.out)
    | (refine store_box rfl 61 _ _ rfl w.heap.size 61 _ #[.string ⟨#[]⟩, .string ⟨#[]⟩, .int .i64 0] rfl rfl hb1s infoRw rfl (rowC_one _ _ _) ?_; intro w9 hb9 hg9))
  refine bodyPost_ret (results_cell1 rfl _ _ _ rfl (run_load_box _ _ _ _ _ hb9 Try.underlying61 rfl infoRw)) rfl ⟨rfl, ?_⟩
  exact qr_end hS.out HBB.out (S := fun k => k = g ∨ k = w.heap.size) ((HP2.2.mono fun _ _ h => Or.inl h).trans (Chg.of hg9) fun b hb hs => .inr (by injection hs)) (fun b hb hs => by omega) (HP2.1.1.grown hg9 (fun e => by injection e with e; exact NR.out e.symm)) HP2.1.2.2.2
set_option maxHeartbeats 1000000 in
theorem Q_Row_5 (g : Nat) (v : Value) (B : List Int) (a : Nat) (w : World) (h : Qr w g v B a 0) (k u : List Int) (n : Int) (a1 a2 a3 : Nat) (h1 : textA B a 1024 = (k, a1, 0)) (k1 : a1 ≤ B.length) (h2 : textA B a1 65536 = (u, a2, 0)) (k2 : a2 ≤ B.length) (h3 : uptoA B a2 1152921504606846976 = (n, a3, 0)) (k3 : a3 ≤ B.length) (hk : ¬ k = []) (hn : n = 0) :
    Calls Try.prog 56 #[.pointer (some ⟨g, 0, none⟩)] w (QRet w g v B (.agg (rowC (strOfNums []) (strOfNums []) 0)) a 32) := by
  have hb1 := Box.new w #[.string ⟨#[]⟩, .string ⟨#[]⟩, .int .i64 0] 61
  have hB0 := al1 (Below.refl w.heap.size w) (.cells #[.string ⟨#[]⟩, .string ⟨#[]⟩, .int .i64 0] 61)
  have NR := hd_ (show w.heap.size ≠ g from fun e => by have := h.1.lt; omega)
  have hS := hd_ h
  have hS0 := hd_ (h.keep hB0)
  have hle := h.2.2.2
  have H1 := hd_ h1
  have H2 := hd_ h2
  have H3 := hd_ h3
  have ha1 := hd_ k1
  have ha2 := hd_ k2
  have ha3 := hd_ k3
  have hkL : ¬ (strOfNums k).toList = [] := toList_ne (by rw [strOfNums_size]; exact fun h => hk (List.eq_nil_of_length_eq_zero h))
  have hkE : (strOfNums k).toList.isEmpty = false := by rw [List.isEmpty_eq_false_iff]; exact hkL
  have hn0 : (n == 0) = true := by rw [beq_iff_eq]; exact hn
  clear h h1 h2 h3 k1 k2 k3 hk hn
  go_enter Try.func56, Try.ntmps56
  go_upto_region 1 with fail
  generalize w.alloc (.cells #[.string ⟨#[]⟩, .string ⟨#[]⟩, .int .i64 0] 61) = W0 at *
  have q0 : W0.cell? ⟨g, 0, none⟩ = some v := hS0.out.1.cell 0 rfl
  have q1 : W0.cell? ⟨g, 1, none⟩ = some (.int .i64 (a : Int)) := hS0.out.1.cell 1 rfl
  have q2 : W0.cell? ⟨g, 2, none⟩ = some (.int .i64 0) := hS0.out.1.cell 2 rfl
  have hN : ∀ m : Nat, _ := fun m => tri_quiet m (Q_text_any v B a 1024 _ (hS0.out.2.1.keep (below_drewN (Below.refl _ _) m)) hle (by decide))
  rw [H1.out] at hN
  have HN := hd_ hN
  clear hN
  go_upto_region 3 with fail
  go_quiet ((go_at_call 85; exact Calls.quiet_of_same (HN.out _)))
  rename_i nq
  have hB1 := below_drewN (Below.refl W0.heap.size W0) nq
  have hb1' := hb1.keep hB1
  have HBB := hd_ (bel_trans hB0 hB1)
  have hS1 := hd_ (hS0.out.keep hB1)
  have p0 : (W0.drewN nq).cell? ⟨g, 0, none⟩ = some v := hS1.out.1.cell 0 rfl
  have hR1 := hd_ hS1.out.2.1
  clear hb1 hB1 hB0 hS0 HN q0 q1 q2
  generalize W0.drewN nq = W1 at *
  go_wp2_with (first
    | (go_at_call 85; (with_reducible refine (Q_text_any v B a1 65536 W1 hR1.out ha1.out (by decide)).mono ?_); rintro e w' ⟨rfl, rfl⟩; rw [H2.out])
    | (go_at_call 65; (with_reducible refine (Q_upto_any v B a2 1152921504606846976 W1 hR1.out ha2.out (by decide)).mono ?_); rintro e w' ⟨rfl, rfl⟩; rw [H3.out])
    | (go_at_call 66; refine (Q_done_no g v B a 32 a3 W1 hS1.out (by decide)).mono ?_; rintro e w2 ⟨rfl, HP2⟩; have hb1s := hb1'.chg HP2.2 NR.out)
    | (refine store_box rfl 61 _ _ rfl w.heap.size 61 _ #[.string ⟨#[]⟩, .string ⟨#[]⟩, .int .i64 0] rfl rfl hb1s infoRw rfl (rowC_one _ _ _) ?_; intro w9 hb9 hg9))
  refine bodyPost_ret (results_cell1 rfl _ _ _ rfl (run_load_box _ _ _ _ _ hb9 Try.underlying61 rfl infoRw)) rfl ⟨rfl, ?_⟩
  exact qr_end hS.out HBB.out (S := fun k => k = g ∨ k = w.heap.size) ((HP2.2.mono fun _ _ h => Or.inl h).trans (Chg.of hg9) fun b hb hs => .inr (by injection hs)) (fun b hb hs => by omega) (HP2.1.1.grown hg9 (fun e => by injection e with e; exact NR.out e.symm)) HP2.1.2.2.2
set_option maxHeartbeats 1000000 in
theorem Q_Row_6 (g : Nat) (v : Value) (B : List Int) (a : Nat) (w : World) (h : Qr w g v B a 0) (k u : List Int) (n : Int) (a1 a2 a3 : Nat) (h1 : textA B a 1024 = (k, a1, 0)) (k1 : a1 ≤ B.length) (h2 : textA B a1 65536 = (u, a2, 0)) (k2 : a2 ≤ B.length) (h3 : uptoA B a2 1152921504606846976 = (n, a3, 0)) (k3 : a3 ≤ B.length) (hk : ¬ k = []) (hn : ¬ n = 0) :
    Calls Try.prog 56 #[.pointer (some ⟨g, 0, none⟩)] w (QRet w g v B (.agg (rowC (strOfNums k) (strOfNums u) n)) a3 0) := by
  have hb1 := Box.new w #[.string ⟨#[]⟩, .string ⟨#[]⟩, .int .i64 0] 61
  have hB0 := al1 (Below.refl w.heap.size w) (.cells #[.string ⟨#[]⟩, .string ⟨#[]⟩, .int .i64 0] 61)
  have NR := hd_ (show w.heap.size ≠ g from fun e => by have := h.1.lt; omega)
  have hS := hd_ h
  have hS0 := hd_ (h.keep hB0)
  have hle := h.2.2.2
  have H1 := hd_ h1
  have H2 := hd_ h2
  have H3 := hd_ h3
  have ha1 := hd_ k1
  have ha2 := hd_ k2
  have ha3 := hd_ k3
  have hkL : ¬ (strOfNums k).toList = [] := toList_ne (by rw [strOfNums_size]; exact fun h => hk (List.eq_nil_of_length_eq_zero h))
  have hkE : (strOfNums k).toList.isEmpty = false := by rw [List.isEmpty_eq_false_iff]; exact hkL
  have hn0 : (n == 0) = false := by rw [beq_eq_false_iff_ne]; exact hn
  clear h h1 h2 h3 k1 k2 k3 hk hn
  go_enter Try.func56, Try.ntmps56
  go_upto_region 1 with fail
  generalize w.alloc (.cells #[.string ⟨#[]⟩, .string ⟨#[]⟩, .int .i64 0] 61) = W0 at *
  have q0 : W0.cell? ⟨g, 0, none⟩ = some v := hS0.out.1.cell 0 rfl
  have q1 : W0.cell? ⟨g, 1, none⟩ = some (.int .i64 (a : Int)) := hS0.out.1.cell 1 rfl
  have q2 : W0.cell? ⟨g, 2, none⟩ = some (.int .i64 0) := hS0.out.1.cell 2 rfl
  have hN : ∀ m : Nat, _ := fun m => tri_quiet m (Q_text_any v B a 1024 _ (hS0.out.2.1.keep (below_drewN (Below.refl _ _) m)) hle (by decide))
  rw [H1.out] at hN
  have HN := hd_ hN
  clear hN
  go_upto_region 3 with fail
  go_quiet ((go_at_call 85; exact Calls.quiet_of_same (HN.out _)))
  rename_i nq
  have hB1 := below_drewN (Below.refl W0.heap.size W0) nq
  have hb1' := hb1.keep hB1
  have HBB := hd_ (bel_trans hB0 hB1)
  have hS1 := hd_ (hS0.out.keep hB1)
  have p0 : (W0.drewN nq).cell? ⟨g, 0, none⟩ = some v := hS1.out.1.cell 0 rfl
  have hR1 := hd_ hS1.out.2.1
  clear hb1 hB1 hB0 hS0 HN q0 q1 q2
  generalize W0.drewN nq = W1 at *
  go_wp2_with (first
    | (go_at_call 85; (with_reducible refine (Q_text_any v B a1 65536 W1 hR1.out ha1.out (by decide)).mono ?_); rintro e w' ⟨rfl, rfl⟩; rw [H2.out])
    | (go_at_call 65; (with_reducible refine (Q_upto_any v B a2 1152921504606846976 W1 hR1.out ha2.out (by decide)).mono ?_); rintro e w' ⟨rfl, rfl⟩; rw [H3.out])
    | (go_at_call 66; refine (Q_done_ok g v B a a3 W1 hS1.out ha3.out).mono ?_; rintro e w2 ⟨rfl, HP2⟩; have hb1s := hb1'.chg HP2.2 NR.out)
    | (refine store_box rfl 61 _ _ rfl w.heap.size 61 _ #[.string (strOfNums k), .string (strOfNums u), .int .i64 n] rfl rfl hb1s infoRw rfl (rowC_one _ _ _) ?_; intro w9 hb9 hg9))
  refine bodyPost_ret (results_cell1 rfl _ _ _ rfl (run_load_box _ _ _ _ _ hb9 Try.underlying61 rfl infoRw)) rfl ⟨rfl, ?_⟩
  exact qr_end hS.out HBB.out (S := fun k => k = g ∨ k = w.heap.size) ((HP2.2.mono fun _ _ h => Or.inl h).trans (Chg.of hg9) fun b hb hs => .inr (by injection hs)) (fun b hb hs => by omega) (HP2.1.1.grown hg9 (fun e => by injection e with e; exact NR.out e.symm)) HP2.1.2.2.2
set_option maxHeartbeats 1000000 in
theorem Q_Row_0 (g : Nat) (v : Value) (B : List Int) (a : Nat) (err : Int) (w : World) (h : Qr w g v B a err) (h0 : err ≠ 0) :
    Calls Try.prog 56 #[.pointer (some ⟨g, 0, none⟩)] w (QRet w g v B (.agg (rowC (strOfNums []) (strOfNums []) 0)) a err) := by
  have hb1 := Box.new w #[.string ⟨#[]⟩, .string ⟨#[]⟩, .int .i64 0] 61
  have hB0 := al1 (Below.refl w.heap.size w) (.cells #[.string ⟨#[]⟩, .string ⟨#[]⟩, .int .i64 0] 61)
  have hS := hd_ h
  have hS0 := hd_ (h.keep hB0)
  have hE1 : (err == 0) = false := by rw [beq_eq_false_iff_ne]; exact h0
  have hE2 : (err != 0) = true := by rw [bne, hE1]; rfl
  clear h h0
  go_enter Try.func56, Try.ntmps56
  go_upto_region 1 with fail
  generalize w.alloc (.cells #[.string ⟨#[]⟩, .string ⟨#[]⟩, .int .i64 0] 61) = W0 at *
  have q2 : W0.cell? ⟨g, 2, none⟩ = some (.int .i64 err) := hS0.out.1.cell 2 rfl
  go_wp2_with (refine store_box rfl 61 _ _ rfl w.heap.size 61 _ #[.string ⟨#[]⟩, .string ⟨#[]⟩, .int .i64 0] rfl rfl hb1 infoRw rfl (rowC_one _ _ _) ?_; intro w9 hb9 hg9)
  refine bodyPost_ret (results_cell1 rfl _ _ _ rfl (run_load_box _ _ _ _ _ hb9 Try.underlying61 rfl infoRw)) rfl ⟨rfl, ?_⟩
  exact hS.out.later (below_row hB0 hg9 (Nat.le_refl _) hB0.size)
theorem Q_Row_any (g : Nat) (v : Value) (B : List Int) (a : Nat) (err : Int) (w : World) (h : Qr w g v B a err) :
    Calls Try.prog 56 #[.pointer (some ⟨g, 0, none⟩)] w (QRet w g v B (.agg (rowC (strOfNums (rRow B a err).1.1) (strOfNums (rRow B a err).1.2.1) (rRow B a err).1.2.2)) (rRow B a err).2.1 (rRow B a err).2.2) := by
  unfold rRow
  by_cases h0 : err = 0
  · subst h0
    rw [if_neg (by simp)]
    unfold rowA
    rcases textA_cases B h.2.1.1 a h.2.2.2 1024 (by decide) with ⟨E, hE, e1⟩ | ⟨n1, k1, _, e1, b1, _, _, _, _, _⟩
    · rw [e1, if_pos (by simp only; omega)]
      exact Q_Row_1 g v B a w h _ _ E e1 (by omega)
    · rw [e1, if_neg (by simp)]
      generalize (B.drop (a + k1)).take n1 = K at *
      generalize a + k1 + n1 = a1 at *
      simp only
      rcases textA_cases B h.2.1.1 a1 b1 65536 (by decide) with ⟨E, hE, e2⟩ | ⟨n2, k2, _, e2, b2, _, _, _, _, _⟩
      · rw [e2, if_pos (by simp only; omega)]
        exact Q_Row_2 g v B a w h K _ a1 _ E e1 b1 e2 (by omega)
      · rw [e2, if_neg (by simp)]
        generalize (B.drop (a1 + k2)).take n2 = U at *
        generalize a1 + k2 + n2 = a2 at *
        simp only
        rcases uptoA_cases B h.2.1.1 a2 b2 1152921504606846976 (by decide) with ⟨E, hE, e3⟩ | ⟨n3, k3, e3, b3, _, _, _, _, _⟩
        · rw [e3, if_pos (by simp only; omega)]
          exact Q_Row_3 g v B a w h K U _ a1 a2 _ E e1 b1 e2 b2 e3 (by omega)
        · rw [e3, if_neg (by simp)]
          simp only
          by_cases hk : K = []
          · rw [if_pos (.inl hk)]
            exact Q_Row_4 g v B a w h K U _ a1 a2 _ e1 b1 e2 b2 e3 b3 hk
          · by_cases hn : (n3 : Int) = 0
            · rw [if_pos (.inr hn)]
              exact Q_Row_5 g v B a w h K U _ a1 a2 _ e1 b1 e2 b2 e3 b3 hk hn
            · rw [if_neg (fun h => h.elim hk hn)]
              exact Q_Row_6 g v B a w h K U _ a1 a2 _ e1 b1 e2 b2 e3 b3 hk hn
  · rw [if_pos h0]; exact Q_Row_0 g v B a err w h h0
end Go.Proofs.Ytdmogbkfmeihfaa
