/- What PackBack's script makes of a writer, and how it is read back (pure); one pair of writers over a world. -/
import Derived.Test.YtlaeiipiboabaaaMtA
import Derived.Test.YtlaeiipiboabaaaMbA
import Derived.Test.YtlaeiipiboabaaaMwC
namespace Go.Proofs.Ytlaeiipiboabaaa
open Go.RowKit
set_option maxRecDepth 100000
set_option linter.unusedVariables false
theorem wStep_grows (s : WS) (call V n most m : Int) (S k u : ByteArray) (F : Bool) (ds : List Int) : ∃ E, (wStep s call V n most S F ds k u m).2 = s.2 ++ E := by
  have lay : ∀ b, ∃ E, (wLay s b).2 = s.2 ++ E := fun b => by
    unfold wLay; split
    · exact ⟨b, rfl⟩
    · exact ⟨[], by simp⟩
  unfold wStep
  split
  · exact lay _
  split
  · unfold wInt
    split
    · exact ⟨[], by simp⟩
    split
    · exact ⟨[], by simp⟩
    split
    · exact ⟨[], by simp⟩
    · exact ⟨_, rfl⟩
  split
  · unfold wText
    split
    · exact ⟨[], by simp⟩
    split
    · exact ⟨[], by simp⟩
    split
    · exact ⟨[], by simp⟩
    · exact ⟨_, rfl⟩
  split
  · exact lay _
  split
  · exact lay _
  split
  · unfold wRow
    split
    · exact ⟨[], by simp⟩
    split
    · exact ⟨[], by simp⟩
    split
    · exact ⟨[], by simp⟩
    · exact ⟨_, by simp only [List.append_assoc]; rfl⟩
  split
  · unfold wFail
    split
    · exact ⟨[], by simp⟩
    · exact ⟨[], by simp⟩
  · exact ⟨[], by simp⟩
def bkOp (s : WS) (a : OpT) : WS := bkStep s a.1 a.2.1 a.2.2.1 a.2.2.2.1 a.2.2.2.2.1 a.2.2.2.2.2.1 a.2.2.2.2.2.2.1 a.2.2.2.2.2.2.2.1.1 a.2.2.2.2.2.2.2.1.2.1 a.2.2.2.2.2.2.2.1.2.2.1
def bkF (x : List OpT) (k : Nat) : WS := (x.take k).foldl bkOp (0, [9])
theorem bkF_succ (x : List OpT) (k : Nat) (a : OpT) (ha : x[k]? = some a) : bkF x (k + 1) = bkOp (bkF x k) a := by
  unfold bkF
  rw [List.take_add_one, ha, List.foldl_append]
  rfl
theorem bkOp_stays (s : WS) (h : s.1 ≠ 0) (a : OpT) : bkOp s a = s := by
  unfold bkOp bkStep
  split
  · rfl
  · unfold wStep wUint wInt wText wFlag wRow wLay wFail
    simp only [if_neg h, if_pos h, ite_self]
theorem fold_stays : ∀ (l : List OpT) (s : WS), s.1 ≠ 0 → l.foldl bkOp s = s
  | [], s, _ => rfl
  | a :: l, s, h => by
    rw [List.foldl_cons, bkOp_stays s h]
    exact fold_stays l s h
theorem fold_grows : ∀ (l : List OpT) (s : WS), ∃ E, (l.foldl bkOp s).2 = s.2 ++ E
  | [], s => ⟨[], by simp⟩
  | a :: l, s => by
    obtain ⟨E, hE⟩ := fold_grows l (bkOp s a)
    have h2 : ∃ E2, (bkOp s a).2 = s.2 ++ E2 := by
      unfold bkOp bkStep
      split
      · exact ⟨[], by simp⟩
      · exact wStep_grows _ _ _ _ _ _ _ _ _ _ _
    obtain ⟨E2, hE2⟩ := h2
    exact ⟨E2 ++ E, by rw [List.foldl_cons, hE, hE2, List.append_assoc]⟩
theorem bkF_rest (x : List OpT) (k : Nat) : bkF x x.length = (x.drop k).foldl bkOp (bkF x k) := by
  unfold bkF
  rw [List.take_length, ← List.foldl_append, List.take_append_drop]
theorem bkF_zero (x : List OpT) (h : (bkF x x.length).1 = 0) (k : Nat) : (bkF x k).1 = 0 := by
  by_cases h0 : (bkF x k).1 = 0
  · exact h0
  · rw [bkF_rest x k, fold_stays _ _ h0] at h
    exact absurd h h0
/-- what a call laid down stands in the whole at its place, and is read there -/
theorem bkF_back (x : List OpT) (h : (bkF x x.length).1 = 0) (k : Nat) (call n most m : Int) (V : Nat) (S kk u : ByteArray) (F : Bool) (ds : List Int) (u1 u2 : Unit) (ha : x[k]? = some (call, (V : Int), n, most, S, F, ds, (kk, u, m, u1), u2)) (hV : V < 18446744073709551616) (hn : n ≤ 9223372036854775807) (hd : ds.length = 32) (hm : m ≤ 9223372036854775807) (hS : S.size ≤ 140737488351232) (R' : List Int) :
    (∃ R, (bkF x x.length).2 = (bkF x k).2 ++ R) ∧ tkStep ((bkF x x.length).2 ++ R') (bkF x k).2.length 0 call most = ((bkF x (k + 1)).2.length, 0) ∧ tkOk ((bkF x x.length).2 ++ R') (bkF x k).2.length 0 call V n most m S kk u F ds := by
  have h1 := bkF_zero x h (k + 1)
  have h0 := bkF_zero x h k
  obtain ⟨E2, hE2⟩ := fold_grows (x.drop (k + 1)) (bkF x (k + 1))
  rw [← bkF_rest] at hE2
  rw [bkF_succ x k _ ha] at h1 hE2 ⊢
  generalize bkF x x.length = Z at *
  generalize bkF x k = T at *
  obtain ⟨e, L⟩ := T
  replace h0 : e = 0 := h0
  subst h0
  obtain ⟨E, hE, hR⟩ := bk_back L call n most m V S kk u F ds hV hn hd hm hS h1
  have hE' : bkOp (0, L) (call, (V : Int), n, most, S, F, ds, (kk, u, m, u1), u2) = (0, L ++ E) := hE
  rw [hE'] at hE2 ⊢
  obtain ⟨q1, q2⟩ := hR (E2 ++ R')
  simp only at hE2 ⊢
  have hz : Z.2 ++ R' = L ++ (E ++ (E2 ++ R')) := by rw [hE2]; simp [List.append_assoc]
  rw [hz]
  refine ⟨⟨E ++ E2, by rw [hE2, List.append_assoc]⟩, ?_, q2⟩
  rw [q1, List.length_append]
theorem bkF_len (x : List OpT) (k : Nat) (call n most m : Int) (V : Nat) (S kk u : ByteArray) (F : Bool) (ds : List Int) (u1 u2 : Unit) (ha : x[k]? = some (call, (V : Int), n, most, S, F, ds, (kk, u, m, u1), u2)) (hV : V < 18446744073709551616) (hn : n ≤ 9223372036854775807) (hd : ds.length = 32) (hm : m ≤ 9223372036854775807) (hS : S.size ≤ 140737488351232) (hk : kk.size ≤ 140737488351232) (hu : u.size ≤ 140737488351232) :
    (bkF x (k + 1)).2.length ≤ (bkF x k).2.length + S.size + kk.size + u.size + 64 := by
  rw [bkF_succ x k _ ha]
  show (bkStep _ _ _ _ _ _ _ _ _ _ _).2.length ≤ _
  unfold bkStep
  split
  · omega
  · exact wStep_len _ call n most m V hV S kk u F ds hd hn hm hS hk hu
/-- one pair of writers; what was there ahead of them is as it was -/
def Bk (w0 : World) (W : World) (g h : Nat) (v u : Value) (s sx : WS) : Prop :=
  Bd W g h v u s sx ∧ (∀ k, bwS g h v u k → w0.heap.size ≤ k) ∧ Below w0.heap.size w0 W
theorem Bk.keep {w0 W W1 : World} {g h : Nat} {v u : Value} {s sx : WS} (t : Bk w0 W g h v u s sx) (hb : Below W.heap.size W W1) : Bk w0 W1 g h v u s sx := ⟨t.1.keep hb, t.2.1, bel_trans t.2.2 hb⟩
theorem Bk.step {w0 W W1 : World} {g h : Nat} {v u : Value} {s sx s1 t1 : WS} (t : Bk w0 W g h v u s sx) (p : BdPost W g h v u s1 t1 W1) : ∃ v' u', Bk w0 W1 g h v' u' s1 t1 := by
  obtain ⟨v', u', q, hC, hk⟩ := p
  refine ⟨v', u', q, fun k h1 => ?_, hC.then t.2.2 t.2.1 t.2.2.size⟩
  rcases hk k h1 with e | e
  · exact t.2.1 k e
  · exact Nat.le_trans t.2.2.size e
end Go.Proofs.Ytlaeiipiboabaaa
