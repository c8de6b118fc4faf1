/- The law's function 'read', with both readers. -/
import Derived.Test.YtlaeiipiboabaaaPlC
import Derived.Test.YtlaeiipiboabaaaMdE
import Derived.Test.YtlaeiipiboabaaaRegJ
namespace Go.Proofs.Ytlaeiipiboabaaa
open Go.RowKit
set_option maxRecDepth 100000
set_option linter.unusedVariables false
/-- what one call of a script makes of a reader: its place and its error -/
def rdStep (B : List Int) (a : Nat) (err call n most : Int) : Nat × Int :=
  if call = 0 then (rUint B a err).2 else if call = 1 then (rInt B a err most).2 else if call = 2 then (rText B a err most).2 else if call = 3 then (rFlag B a err).2 else if call = 4 then (rDigest B a err).2 else if call = 5 then (rRow B a err).2 else if call = 8 then (rCount B a err most n).2 else if call = 6 then (a, rFail err n) else (a, err)
theorem two_q {w w1 : World} {g h : Nat} {v u : Value} {B : List Int} {a a1 : Nat} {err e1 : Int} (t : Two w g h v u B a err) (p : RrPost w g v B a1 e1 w1) : Qr w1 h u B a err :=
  ⟨t.2.1.1.chg p.2 (fun e => t.2.2.1 e.symm), t.2.1.2.1.chgE p.2 (t.2.2.2.2.imp id fun hx k hk e => hx (by rw [hk, e])), t.2.1.2.2⟩
theorem two_post {w w0 w1 w2 : World} {g h : Nat} {v u : Value} {B : List Int} {a a1 : Nat} {err e1 : Int} (t : Two w g h v u B a err) (hb : Below w.heap.size w w0) (p : RrPost w0 g v B a1 e1 w1) (q : QrPost w1 h u B a1 e1 w2) : TwoPost w g h v u B a1 e1 w2 := by
  refine ⟨⟨p.1.chg q.2 t.2.2.1 (fun k hk e => t.2.2.2.1 (by rw [hk, e])), q.1, t.2.2⟩, ((Chg.below hb : Chg (fun k => k = g ∨ k = h) w w0).trans p.2 (fun _ _ e => .inl e)).trans q.2 (fun _ _ e => .inr e)⟩
def TwoRet (w : World) (g h : Nat) (v u : Value) (B : List Int) (a : Nat) (err : Int) (e : Ending) (w' : World) : Prop := e = .returned (.bool true) ∧ TwoPost w g h v u B a err w'
theorem infoU8r : (Try.prog.info? 5).map (fun i => (i.zero, i.size, i.bytes)) = some (some (.int .u8 0), 1, 1) := by kernel_rfl
theorem eqDgR (a : List Int) (ha : a.length = 32) (W : World) : Sem.run Try.prog (Op.equalIn 10000 99 (.agg (u8A a)) (.agg (u8A a))) W = .ok true W := by
  obtain ⟨i0, hi, _⟩ := info_parts infoU8r
  have h := eqArr (P := Try.prog) Try.underlying5 (by kernel_rfl) 9998 W Try.underlying99 hi a a ha ha
  rw [decide_eq_true rfl] at h
  exact h
theorem eqRwR (k v : ByteArray) (n : Int) (W : World) : Sem.run Try.prog (Op.equalIn 10000 51 (.agg (rowC k v n)) (.agg (rowC k v n))) W = .ok true W := by
  unfold rowC
  go_simp
theorem rDigest_length (B : List Int) (a : Nat) (err : Int) : (rDigest B a err).1.length = 32 := by
  unfold rDigest
  split
  · rfl
  · split
    · rfl
    · simp only [List.length_take, List.length_drop]
      omega
set_option maxHeartbeats 4000000 in
theorem read_any (g h : Nat) (v u : Value) (B : List Int) (a : Nat) (err call n most : Int) (C : Array Value) (w : World) (t : Two w g h v u B a err) (c0 : C[0]? = some (.int .i64 call)) (c2 : C[2]? = some (.int .i64 n)) (c3 : C[3]? = some (.int .i64 most)) (hm : most ≤ 9223372036854775807) (hn : n ≤ 9223372036854775807) :
    Calls Try.prog 36 #[.pointer (some ⟨g, 0, none⟩), .pointer (some ⟨h, 0, none⟩), .agg C] w (TwoRet w g h v u B (rdStep B a err call n most).1 (rdStep B a err call n most).2) := by
  have hbx := Box.new w C 53
  have hB0 := al1 (Below.refl w.heap.size w) (.cells C 53)
  have q0 := hbx.cell 0 c0
  have q2 := hbx.cell 2 c2
  have q3 := hbx.cell 3 c3
  have hT0 := hd_ (t.keep hB0)
  have hR := hd_ (t.keep hB0).1
  have HB0 := hd_ hB0
  have hnb := hd_ (show w.heap.size ≠ g by have := t.1.1.lt; omega)
  have hbxH := hd_ hbx
  have hnb2 := hd_ (show w.heap.size ≠ h by have := t.2.1.1.lt; omega)
  have hmH := hd_ hm
  have hnH := hd_ hn
  have hpost := hd_ (fun w1 w2 (a1 : Nat) (e1 : Int) (p : RrPost _ g v B a1 e1 w1) (q : QrPost w1 h u B a1 e1 w2) => two_post t hB0 p q)
  have hcc := hd_ (fun w1 (a1 : Nat) (e1 : Int) (p : RrPost _ g v B a1 e1 w1) => (show Qr w1 h u B a err ∧ w1.cell? ⟨w.heap.size, 2, none⟩ = some (.int .i64 n) ∧ w1.cell? ⟨w.heap.size, 3, none⟩ = some (.int .i64 most) from ⟨two_q (t.keep hB0) p, p.2.cell q2 (fun e => hnb.out e), p.2.cell q3 (fun e => hnb.out e)⟩))
  have hdr := hd_ (fun (W : World) (hb : Below w.heap.size w W) w1 w2 (a1 : Nat) (e1 : Int) (p : RrPost W g v B a1 e1 w1) (q : QrPost w1 h u B a1 e1 w2) => two_post t hb p q)
  clear hbx t hB0 hm hn
  by_cases h0 : call = 0
  · subst h0
    have hS : rdStep B a err 0 n most = (rUint B a err).2 := rfl
    rw [hS]
    clear hS
    go_enter Try.func36, Try.ntmps36
    go_wp2_with (first
      | (go_at_call 15; (with_reducible refine (R_Uint_any g v B a err _ hR.out).mono ?_); rintro e w1 ⟨rfl, P1⟩; obtain ⟨X1, r2, r3⟩ := hcc.out _ _ _ P1)
      | (go_at_call 76; (with_reducible refine (Q_Uint_any h u B a err _ X1).mono ?_); rintro e w2 ⟨rfl, P2⟩))
    go_ret
    exact ⟨rfl, hpost.out _ _ _ _ P1 P2⟩
  by_cases h1 : call = 1
  · subst h1
    have hS : rdStep B a err 1 n most = (rInt B a err most).2 := rfl
    rw [hS]
    clear hS
    go_enter Try.func36, Try.ntmps36
    go_upto_region 5 with fail
    have hBd := hd_ (Below.refl (w.alloc (.cells C 53)).heap.size (w.alloc (.cells C 53))).drew
    have hC0 : (fun W : World => W.cell? ⟨w.heap.size, 2, none⟩ = some (.int .i64 n) ∧ W.cell? ⟨w.heap.size, 3, none⟩ = some (.int .i64 most)) (w.alloc (.cells C 53)).drew := ⟨cell_keep hBd.out q2, cell_keep hBd.out q3⟩
    have hR1 := hd_ (hR.out.keep hBd.out)
    have hT1 := hd_ (hT0.out.keep hBd.out)
    have hB1 := hd_ (bel_trans HB0.out hBd.out)
    refine region_J [] (fun W : World => W.cell? ⟨w.heap.size, 2, none⟩ = some (.int .i64 n) ∧ W.cell? ⟨w.heap.size, 3, none⟩ = some (.int .i64 most)) (by kernel_rfl) ?_
    generalize (w.alloc (.cells C 53)).drew = W1 at *
    refine take_J 0 _ _ (v := ?_) rfl (by kernel_rfl) (by kernel_rfl) (by kernel_rfl) (by kernel_rfl) (fun _ _ _ h => h) rfl hC0 ?_ ?_
    rotate_left
    · intro W hC; obtain ⟨c2, c3⟩ := hC; go_simp; try with_reducible rfl
    simp only [Act.put, List.setIfInBounds_toArray, List.set_cons_zero, List.set_cons_succ]
    refine take_J 1 _ _ (v := ?_) rfl (by kernel_rfl) (by kernel_rfl) (by kernel_rfl) (by kernel_rfl) (fun _ _ _ h => h) rfl hC0 ?_ ?_
    rotate_left
    · intro W hC; obtain ⟨c2, c3⟩ := hC; go_simp; try with_reducible rfl
    simp only [Act.put, List.setIfInBounds_toArray, List.set_cons_zero, List.set_cons_succ]
    refine take_J 2 _ _ (v := ?_) rfl (by kernel_rfl) (by kernel_rfl) (by kernel_rfl) (by kernel_rfl) (fun _ _ _ h => h) rfl hC0 ?_ ?_
    rotate_left
    · intro W hC; obtain ⟨c2, c3⟩ := hC; go_simp; try with_reducible rfl
    simp only [Act.put, List.setIfInBounds_toArray, List.set_cons_zero, List.set_cons_succ]
    refine take_J 4 _ _ (v := ?_) rfl (by kernel_rfl) (by kernel_rfl) (by kernel_rfl) (by kernel_rfl) (fun _ _ _ h => h) rfl hC0 ?_ ?_
    rotate_left
    · intro W hC; obtain ⟨c2, c3⟩ := hC; go_simp; try with_reducible rfl
    simp only [Act.put, List.setIfInBounds_toArray, List.set_cons_zero, List.set_cons_succ]
    refine take_J 5 _ _ (v := ?_) rfl (by kernel_rfl) (by kernel_rfl) (by kernel_rfl) (by kernel_rfl) (fun _ _ _ h => h) rfl hC0 ?_ ?_
    rotate_left
    · intro W hC; obtain ⟨c2, c3⟩ := hC; go_simp; try with_reducible rfl
    simp only [Act.put, List.setIfInBounds_toArray, List.set_cons_zero, List.set_cons_succ]
    refine take_J 6 _ _ (v := ?_) rfl (by kernel_rfl) (by kernel_rfl) (by kernel_rfl) (by kernel_rfl) (fun _ _ _ h => h) rfl hC0 ?_ ?_
    rotate_left
    · intro W hC; obtain ⟨c2, c3⟩ := hC; go_simp; try with_reducible rfl
    simp only [Act.put, List.setIfInBounds_toArray, List.set_cons_zero, List.set_cons_succ]
    refine ready_J 3 _ _ rfl (by kernel_rfl) rfl (fun K hK => ?_)
    go_simp
    with_reducible refine (R_Int_any g v B a err most _ hR1.out hmH.out).mono ?_
    rintro e w1 ⟨rfl, P1⟩
    have X1 := two_q hT1.out P1
    have hC1 : (fun W : World => W.cell? ⟨w.heap.size, 2, none⟩ = some (.int .i64 n) ∧ W.cell? ⟨w.heap.size, 3, none⟩ = some (.int .i64 most)) w1 := ⟨P1.2.cell hC0.1 (fun e => hnb.out e), P1.2.cell hC0.2 (fun e => hnb.out e)⟩
    refine hK _ _ (fun _ => hC1) ?_
    clear hK K hC0
    refine ready_J 7 _ _ rfl (by kernel_rfl) rfl (fun K hK => ?_)
    go_simp
    with_reducible refine (Q_Int_any h u B a err most _ X1 hmH.out).mono ?_
    rintro e w2 ⟨rfl, P2⟩
    have hP := hdr.out _ hB1.out _ _ _ _ P1 P2
    have hnh := hP.1.2.1.1.lt
    have hC0 : (fun W : World => W.cell? ⟨w.heap.size, 2, none⟩ = some (.int .i64 n) ∧ W.cell? ⟨w.heap.size, 3, none⟩ = some (.int .i64 most)) w2 := ⟨P2.2.cell hC1.1 (fun e => hnb2.out e), P2.2.cell hC1.2 (fun e => hnb2.out e)⟩
    refine hK _ _ (fun _ => hC0) ?_
    clear hK K hC1
    refine ready_J 8 _ _ rfl (by kernel_rfl) rfl (fun K hK => ?_)
    go_simp
    refine hK _ _ (fun _ => hC0) ?_
    clear hK K
    refine ready_J 9 _ _ rfl (by kernel_rfl) rfl (fun K hK => ?_)
    go_simp
    refine hK _ _ (fun _ => hC0) ?_
    clear hK K
    refine wpAnyJ_done (by kernel_rfl) ?_ _
    go_wp2
    go_ret
    exact ⟨by simp, hP⟩
  by_cases h2 : call = 2
  · subst h2
    have hS : rdStep B a err 2 n most = (rText B a err most).2 := rfl
    rw [hS]
    clear hS
    go_enter Try.func36, Try.ntmps36
    go_upto_region 7 with fail
    have hBd := hd_ (Below.refl (w.alloc (.cells C 53)).heap.size (w.alloc (.cells C 53))).drew
    have hC0 : (fun W : World => W.cell? ⟨w.heap.size, 2, none⟩ = some (.int .i64 n) ∧ W.cell? ⟨w.heap.size, 3, none⟩ = some (.int .i64 most)) (w.alloc (.cells C 53)).drew := ⟨cell_keep hBd.out q2, cell_keep hBd.out q3⟩
    have hR1 := hd_ (hR.out.keep hBd.out)
    have hT1 := hd_ (hT0.out.keep hBd.out)
    have hB1 := hd_ (bel_trans HB0.out hBd.out)
    refine region_J [] (fun W : World => W.cell? ⟨w.heap.size, 2, none⟩ = some (.int .i64 n) ∧ W.cell? ⟨w.heap.size, 3, none⟩ = some (.int .i64 most)) (by kernel_rfl) ?_
    generalize (w.alloc (.cells C 53)).drew = W1 at *
    refine take_J 0 _ _ (v := ?_) rfl (by kernel_rfl) (by kernel_rfl) (by kernel_rfl) (by kernel_rfl) (fun _ _ _ h => h) rfl hC0 ?_ ?_
    rotate_left
    · intro W hC; obtain ⟨c2, c3⟩ := hC; go_simp; try with_reducible rfl
    simp only [Act.put, List.setIfInBounds_toArray, List.set_cons_zero, List.set_cons_succ]
    refine take_J 1 _ _ (v := ?_) rfl (by kernel_rfl) (by kernel_rfl) (by kernel_rfl) (by kernel_rfl) (fun _ _ _ h => h) rfl hC0 ?_ ?_
    rotate_left
    · intro W hC; obtain ⟨c2, c3⟩ := hC; go_simp; try with_reducible rfl
    simp only [Act.put, List.setIfInBounds_toArray, List.set_cons_zero, List.set_cons_succ]
    refine take_J 2 _ _ (v := ?_) rfl (by kernel_rfl) (by kernel_rfl) (by kernel_rfl) (by kernel_rfl) (fun _ _ _ h => h) rfl hC0 ?_ ?_
    rotate_left
    · intro W hC; obtain ⟨c2, c3⟩ := hC; go_simp; try with_reducible rfl
    simp only [Act.put, List.setIfInBounds_toArray, List.set_cons_zero, List.set_cons_succ]
    refine take_J 4 _ _ (v := ?_) rfl (by kernel_rfl) (by kernel_rfl) (by kernel_rfl) (by kernel_rfl) (fun _ _ _ h => h) rfl hC0 ?_ ?_
    rotate_left
    · intro W hC; obtain ⟨c2, c3⟩ := hC; go_simp; try with_reducible rfl
    simp only [Act.put, List.setIfInBounds_toArray, List.set_cons_zero, List.set_cons_succ]
    refine take_J 5 _ _ (v := ?_) rfl (by kernel_rfl) (by kernel_rfl) (by kernel_rfl) (by kernel_rfl) (fun _ _ _ h => h) rfl hC0 ?_ ?_
    rotate_left
    · intro W hC; obtain ⟨c2, c3⟩ := hC; go_simp; try with_reducible rfl
    simp only [Act.put, List.setIfInBounds_toArray, List.set_cons_zero, List.set_cons_succ]
    refine take_J 6 _ _ (v := ?_) rfl (by kernel_rfl) (by kernel_rfl) (by kernel_rfl) (by kernel_rfl) (fun _ _ _ h => h) rfl hC0 ?_ ?_
    rotate_left
    · intro W hC; obtain ⟨c2, c3⟩ := hC; go_simp; try with_reducible rfl
    simp only [Act.put, List.setIfInBounds_toArray, List.set_cons_zero, List.set_cons_succ]
    refine ready_J 3 _ _ rfl (by kernel_rfl) rfl (fun K hK => ?_)
    go_simp
    with_reducible refine (R_Text_any g v B a err most _ hR1.out hmH.out).mono ?_
    rintro e w1 ⟨rfl, P1⟩
    have X1 := two_q hT1.out P1
    have hC1 : (fun W : World => W.cell? ⟨w.heap.size, 2, none⟩ = some (.int .i64 n) ∧ W.cell? ⟨w.heap.size, 3, none⟩ = some (.int .i64 most)) w1 := ⟨P1.2.cell hC0.1 (fun e => hnb.out e), P1.2.cell hC0.2 (fun e => hnb.out e)⟩
    refine hK _ _ (fun _ => hC1) ?_
    clear hK K hC0
    refine ready_J 7 _ _ rfl (by kernel_rfl) rfl (fun K hK => ?_)
    go_simp
    with_reducible refine (Q_Text_any h u B a err most _ X1 hmH.out).mono ?_
    rintro e w2 ⟨rfl, P2⟩
    have hP := hdr.out _ hB1.out _ _ _ _ P1 P2
    have hnh := hP.1.2.1.1.lt
    have hC0 : (fun W : World => W.cell? ⟨w.heap.size, 2, none⟩ = some (.int .i64 n) ∧ W.cell? ⟨w.heap.size, 3, none⟩ = some (.int .i64 most)) w2 := ⟨P2.2.cell hC1.1 (fun e => hnb2.out e), P2.2.cell hC1.2 (fun e => hnb2.out e)⟩
    refine hK _ _ (fun _ => hC0) ?_
    clear hK K hC1
    refine ready_J 8 _ _ rfl (by kernel_rfl) rfl (fun K hK => ?_)
    go_simp
    refine hK _ _ (fun _ => hC0) ?_
    clear hK K
    refine ready_J 9 _ _ rfl (by kernel_rfl) rfl (fun K hK => ?_)
    go_simp
    refine hK _ _ (fun _ => hC0) ?_
    clear hK K
    refine wpAnyJ_done (by kernel_rfl) ?_ _
    go_wp2
    go_ret
    exact ⟨by simp, hP⟩
  by_cases h3 : call = 3
  · subst h3
    have hS : rdStep B a err 3 n most = (rFlag B a err).2 := rfl
    rw [hS]
    clear hS
    go_enter Try.func36, Try.ntmps36
    go_wp2_with (first
      | (go_at_call 40; (with_reducible refine (R_Flag_any g v B a err _ hR.out).mono ?_); rintro e w1 ⟨rfl, P1⟩; obtain ⟨X1, r2, r3⟩ := hcc.out _ _ _ P1)
      | (go_at_call 77; (with_reducible refine (Q_Flag_any h u B a err _ X1).mono ?_); rintro e w2 ⟨rfl, P2⟩))
    go_ret
    exact ⟨rfl, hpost.out _ _ _ _ P1 P2⟩
  by_cases h4 : call = 4
  · subst h4
    have hS : rdStep B a err 4 n most = (rDigest B a err).2 := rfl
    rw [hS]
    clear hS
    have heq := eqDgR _ (rDigest_length B a err)
    go_enter Try.func36, Try.ntmps36
    go_wp2_with (first
      | (go_at_call 78; (with_reducible refine (R_Digest_any g v B a err _ hR.out).mono ?_); rintro e w1 ⟨rfl, P1⟩; obtain ⟨X1, r2, r3⟩ := hcc.out _ _ _ P1)
      | (go_at_call 79; (with_reducible refine (Q_Digest_any h u B a err _ X1).mono ?_); rintro e w2 ⟨rfl, P2⟩))
    go_ret
    exact ⟨rfl, hpost.out _ _ _ _ P1 P2⟩
  by_cases h5 : call = 5
  · subst h5
    have hS : rdStep B a err 5 n most = (rRow B a err).2 := rfl
    rw [hS]
    clear hS
    have heq := eqRwR (strOfNums (rRow B a err).1.1) (strOfNums (rRow B a err).1.2.1) (rRow B a err).1.2.2
    go_enter Try.func36, Try.ntmps36
    go_wp2_with (first
      | (go_at_call 42; (with_reducible refine (R_Row_any g v B a err _ hR.out).mono ?_); rintro e w1 ⟨rfl, P1⟩; obtain ⟨X1, r2, r3⟩ := hcc.out _ _ _ P1)
      | (go_at_call 80; (with_reducible refine (Q_Row_any h u B a err _ X1).mono ?_); rintro e w2 ⟨rfl, P2⟩))
    go_ret
    exact ⟨rfl, hpost.out _ _ _ _ P1 P2⟩
  by_cases h8 : call = 8
  · subst h8
    have hS : rdStep B a err 8 n most = (rCount B a err most n).2 := rfl
    rw [hS]
    clear hS
    go_enter Try.func36, Try.ntmps36
    go_upto_region 15 with fail
    have hBd := hd_ (Below.refl (w.alloc (.cells C 53)).heap.size (w.alloc (.cells C 53))).drew
    have hC0 : (fun W : World => W.cell? ⟨w.heap.size, 2, none⟩ = some (.int .i64 n) ∧ W.cell? ⟨w.heap.size, 3, none⟩ = some (.int .i64 most)) (w.alloc (.cells C 53)).drew := ⟨cell_keep hBd.out q2, cell_keep hBd.out q3⟩
    have hR1 := hd_ (hR.out.keep hBd.out)
    have hT1 := hd_ (hT0.out.keep hBd.out)
    have hB1 := hd_ (bel_trans HB0.out hBd.out)
    refine region_J [] (fun W : World => W.cell? ⟨w.heap.size, 2, none⟩ = some (.int .i64 n) ∧ W.cell? ⟨w.heap.size, 3, none⟩ = some (.int .i64 most)) (by kernel_rfl) ?_
    generalize (w.alloc (.cells C 53)).drew = W1 at *
    refine take_J 0 _ _ (v := ?_) rfl (by kernel_rfl) (by kernel_rfl) (by kernel_rfl) (by kernel_rfl) (fun _ _ _ h => h) rfl hC0 ?_ ?_
    rotate_left
    · intro W hC; obtain ⟨c2, c3⟩ := hC; go_simp; try with_reducible rfl
    simp only [Act.put, List.setIfInBounds_toArray, List.set_cons_zero, List.set_cons_succ]
    refine take_J 1 _ _ (v := ?_) rfl (by kernel_rfl) (by kernel_rfl) (by kernel_rfl) (by kernel_rfl) (fun _ _ _ h => h) rfl hC0 ?_ ?_
    rotate_left
    · intro W hC; obtain ⟨c2, c3⟩ := hC; go_simp; try with_reducible rfl
    simp only [Act.put, List.setIfInBounds_toArray, List.set_cons_zero, List.set_cons_succ]
    refine take_J 2 _ _ (v := ?_) rfl (by kernel_rfl) (by kernel_rfl) (by kernel_rfl) (by kernel_rfl) (fun _ _ _ h => h) rfl hC0 ?_ ?_
    rotate_left
    · intro W hC; obtain ⟨c2, c3⟩ := hC; go_simp; try with_reducible rfl
    simp only [Act.put, List.setIfInBounds_toArray, List.set_cons_zero, List.set_cons_succ]
    refine take_J 3 _ _ (v := ?_) rfl (by kernel_rfl) (by kernel_rfl) (by kernel_rfl) (by kernel_rfl) (fun _ _ _ h => h) rfl hC0 ?_ ?_
    rotate_left
    · intro W hC; obtain ⟨c2, c3⟩ := hC; go_simp; try with_reducible rfl
    simp only [Act.put, List.setIfInBounds_toArray, List.set_cons_zero, List.set_cons_succ]
    refine take_J 4 _ _ (v := ?_) rfl (by kernel_rfl) (by kernel_rfl) (by kernel_rfl) (by kernel_rfl) (fun _ _ _ h => h) rfl hC0 ?_ ?_
    rotate_left
    · intro W hC; obtain ⟨c2, c3⟩ := hC; go_simp; try with_reducible rfl
    simp only [Act.put, List.setIfInBounds_toArray, List.set_cons_zero, List.set_cons_succ]
    refine take_J 6 _ _ (v := ?_) rfl (by kernel_rfl) (by kernel_rfl) (by kernel_rfl) (by kernel_rfl) (fun _ _ _ h => h) rfl hC0 ?_ ?_
    rotate_left
    · intro W hC; obtain ⟨c2, c3⟩ := hC; go_simp; try with_reducible rfl
    simp only [Act.put, List.setIfInBounds_toArray, List.set_cons_zero, List.set_cons_succ]
    refine take_J 7 _ _ (v := ?_) rfl (by kernel_rfl) (by kernel_rfl) (by kernel_rfl) (by kernel_rfl) (fun _ _ _ h => h) rfl hC0 ?_ ?_
    rotate_left
    · intro W hC; obtain ⟨c2, c3⟩ := hC; go_simp; try with_reducible rfl
    simp only [Act.put, List.setIfInBounds_toArray, List.set_cons_zero, List.set_cons_succ]
    refine take_J 8 _ _ (v := ?_) rfl (by kernel_rfl) (by kernel_rfl) (by kernel_rfl) (by kernel_rfl) (fun _ _ _ h => h) rfl hC0 ?_ ?_
    rotate_left
    · intro W hC; obtain ⟨c2, c3⟩ := hC; go_simp; try with_reducible rfl
    simp only [Act.put, List.setIfInBounds_toArray, List.set_cons_zero, List.set_cons_succ]
    refine take_J 9 _ _ (v := ?_) rfl (by kernel_rfl) (by kernel_rfl) (by kernel_rfl) (by kernel_rfl) (fun _ _ _ h => h) rfl hC0 ?_ ?_
    rotate_left
    · intro W hC; obtain ⟨c2, c3⟩ := hC; go_simp; try with_reducible rfl
    simp only [Act.put, List.setIfInBounds_toArray, List.set_cons_zero, List.set_cons_succ]
    refine take_J 10 _ _ (v := ?_) rfl (by kernel_rfl) (by kernel_rfl) (by kernel_rfl) (by kernel_rfl) (fun _ _ _ h => h) rfl hC0 ?_ ?_
    rotate_left
    · intro W hC; obtain ⟨c2, c3⟩ := hC; go_simp; try with_reducible rfl
    simp only [Act.put, List.setIfInBounds_toArray, List.set_cons_zero, List.set_cons_succ]
    refine ready_J 5 _ _ rfl (by kernel_rfl) rfl (fun K hK => ?_)
    go_simp
    with_reducible refine (R_Count_any g v B a err most n _ hR1.out hmH.out).mono ?_
    rintro e w1 ⟨rfl, P1⟩
    have X1 := two_q hT1.out P1
    have hC1 : (fun W : World => W.cell? ⟨w.heap.size, 2, none⟩ = some (.int .i64 n) ∧ W.cell? ⟨w.heap.size, 3, none⟩ = some (.int .i64 most)) w1 := ⟨P1.2.cell hC0.1 (fun e => hnb.out e), P1.2.cell hC0.2 (fun e => hnb.out e)⟩
    refine hK _ _ (fun _ => hC1) ?_
    clear hK K hC0
    refine ready_J 11 _ _ rfl (by kernel_rfl) rfl (fun K hK => ?_)
    go_simp
    with_reducible refine (Q_Count_any h u B a err most n _ X1 hmH.out hnH.out).mono ?_
    rintro e w2 ⟨rfl, P2⟩
    have hP := hdr.out _ hB1.out _ _ _ _ P1 P2
    have hnh := hP.1.2.1.1.lt
    have hC0 : (fun W : World => W.cell? ⟨w.heap.size, 2, none⟩ = some (.int .i64 n) ∧ W.cell? ⟨w.heap.size, 3, none⟩ = some (.int .i64 most)) w2 := ⟨P2.2.cell hC1.1 (fun e => hnb2.out e), P2.2.cell hC1.2 (fun e => hnb2.out e)⟩
    refine hK _ _ (fun _ => hC0) ?_
    clear hK K hC1
    refine ready_J 12 _ _ rfl (by kernel_rfl) rfl (fun K hK => ?_)
    go_simp
    refine hK _ _ (fun _ => hC0) ?_
    clear hK K
    refine ready_J 13 _ _ rfl (by kernel_rfl) rfl (fun K hK => ?_)
    go_simp
    refine hK _ _ (fun _ => hC0) ?_
    clear hK K
    refine wpAnyJ_done (by kernel_rfl) ?_ _
    go_wp2
    go_ret
    exact ⟨by simp, hP⟩
  by_cases h6 : call = 6
  · subst h6
    have hS : rdStep B a err 6 n most = (a, rFail err n) := rfl
    rw [hS]
    clear hS
    go_enter Try.func36, Try.ntmps36
    go_wp2_with (first
      | (go_at_call 81; (with_reducible refine (R_Fail_any g v B a err n _ hR.out).mono ?_); rintro e w1 ⟨rfl, P1⟩; obtain ⟨X1, r2, r3⟩ := hcc.out _ _ _ P1)
      | (go_at_call 73; (with_reducible refine (Q_Fail_any h u B a err n _ X1).mono ?_); rintro e w2 ⟨rfl, P2⟩))
    go_ret
    exact ⟨rfl, hpost.out _ _ _ _ P1 P2⟩
  by_cases h7 : call = 7
  · subst h7
    have hS : rdStep B a err 7 n most = (a, err) := rfl
    rw [hS]
    clear hS
    go_enter Try.func36, Try.ntmps36
    go_wp2_with (go_at_call 37; (with_reducible refine (looked_any g h v u B a err _ hT0.out).mono ?_); rintro e w1 ⟨rfl, HB1⟩)
    go_ret
    exact ⟨rfl, hT0.out.keep HB1, Chg.below (bel_trans HB0.out HB1)⟩
  have b0 : (call == 0) = false := beq_false_of_ne h0
  have b1 : (call == 1) = false := beq_false_of_ne h1
  have b2 : (call == 2) = false := beq_false_of_ne h2
  have b3 : (call == 3) = false := beq_false_of_ne h3
  have b4 : (call == 4) = false := beq_false_of_ne h4
  have b5 : (call == 5) = false := beq_false_of_ne h5
  have b6 : (call == 6) = false := beq_false_of_ne h6
  have b7 : (call == 7) = false := beq_false_of_ne h7
  have b8 : (call == 8) = false := beq_false_of_ne h8
  have hS : rdStep B a err call n most = (a, err) := by unfold rdStep; rw [if_neg h0, if_neg h1, if_neg h2, if_neg h3, if_neg h4, if_neg h5, if_neg h8, if_neg h6]
  rw [hS]
  clear hS
  go_enter Try.func36, Try.ntmps36
  go_wp2
  go_ret
  exact ⟨rfl, hT0.out, Chg.below HB0.out⟩
end Go.Proofs.Ytlaeiipiboabaaa
