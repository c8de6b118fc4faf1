/- The writer of the document and its calls. -/
import Derived.Test.YtbebinlnjpfbeaaPwA
namespace Go.Proofs.Ytbebinlnjpfbeaa
open Go.RowKit
set_option maxRecDepth 100000
set_option linter.unusedVariables false
theorem wLay_two (s : WS) (a b : List Int) : wLay (wLay s a) b = wLay s (a ++ b) := by
  unfold wLay
  by_cases h : s.1 = 0
  · rw [if_pos h, if_pos rfl, if_pos h, List.append_assoc]
  · rw [if_neg h, if_neg h, if_neg h]
theorem wLay_len (s : WS) (a : List Int) : (wLay s a).2.length ≤ s.2.length + a.length := by
  unfold wLay
  split
  · rw [List.length_append]; exact Nat.le_refl _
  · omega
theorem take_snoc {l : List Int} {k : Nat} (h : k < l.length) : l.take (k + 1) = l.take k ++ [l.getD k 0] := by
  rw [List.take_succ_eq_append_getElem h, List.getD_eq_getElem?_getD, List.getElem?_eq_getElem h]; rfl
/-- what it tells: its very bytes, or the error -/
def XBytesRet (w : World) (v : Value) (s : WS) (e : Ending) (w' : World) : Prop := e = .returned (.tuple #[if s.1 = 0 then v else .slice none 0 0, .int .i64 s.1]) ∧ Below w.heap.size w w'
/-- what a row's steps come to -/
theorem wRow_steps (st : WS) (k u : List Int) (n : Int) (m : Nat) (hm : 0 ≤ n → n.toNat = m) :
    ∃ f f1 f2 : WS, ((k = [] ∨ n < 1) → f = wFail st 32) ∧ (¬ (k = [] ∨ n < 1) → (1024 < (k.length : Int) ∨ 65536 < (u.length : Int) ∨ 1152921504606846976 < n) → f = wFail st 31) ∧
      (¬ (k = [] ∨ n < 1) → ¬ (1024 < (k.length : Int) ∨ 65536 < (u.length : Int) ∨ 1152921504606846976 < n) → f = st) ∧
      wText f k 1024 = f1 ∧ wText f1 u 65536 = f2 ∧ wUint f2 (m : Int) = wRow st k u n ∧ f.2 = st.2 ∧ f1.2.length ≤ st.2.length + (10 + k.length) ∧ f2.2.length ≤ st.2.length + (10 + k.length) + (10 + u.length) := by
  obtain ⟨err, L⟩ := st
  by_cases h0 : err = 0
  · subst h0
    by_cases h1 : k = [] ∨ n < 1
    · refine ⟨(32, L), (32, L), (32, L), fun _ => rfl, fun h => absurd h1 h, fun h => absurd h1 h, rfl, rfl, ?_, rfl, by simp only; omega, by simp only; omega⟩
      unfold wUint wLay wRow
      rw [if_neg (by simp), if_neg (by simp), if_pos h1]
    · by_cases h2 : 1024 < (k.length : Int) ∨ 65536 < (u.length : Int) ∨ 1152921504606846976 < n
      · refine ⟨(31, L), (31, L), (31, L), fun h => absurd h h1, fun _ _ => rfl, fun _ h => absurd h2 h, rfl, rfl, ?_, rfl, by simp only; omega, by simp only; omega⟩
        unfold wUint wLay wRow
        rw [if_neg (by simp), if_neg (by simp), if_neg h1, if_pos h2]
      · have hk := lebB_10 (v := k.length) (by omega)
        have hu := lebB_10 (v := u.length) (by omega)
        refine ⟨(0, L), (0, L ++ (lebB k.length ++ k)), (0, L ++ (lebB k.length ++ k) ++ (lebB u.length ++ u)), fun h => absurd h h1, fun _ h => absurd h h2, fun _ _ => rfl, ?_, ?_, ?_, rfl, ?_, ?_⟩
        · unfold wText; rw [if_neg (by simp), if_neg (by omega), if_neg (by omega)]
        · unfold wText; rw [if_neg (by simp), if_neg (by omega), if_neg (by omega)]
        · unfold wUint wLay wRow
          rw [if_pos rfl, if_neg (by simp), if_neg h1, if_neg h2, Int.toNat_natCast, hm (by omega)]
        · simp only [List.length_append]; omega
        · simp only [List.length_append]; omega
  · have e1 : ∀ x, wFail (err, L) x = (err, L) := fun x => by unfold wFail; rw [if_neg h0]
    refine ⟨(err, L), (err, L), (err, L), fun _ => (e1 _).symm, fun _ _ => (e1 _).symm, fun _ _ => rfl, ?_, ?_, ?_, rfl, by simp only; omega, by simp only; omega⟩
    · unfold wText; rw [if_pos h0]
    · unfold wText; rw [if_pos h0]
    · unfold wUint wLay wRow; rw [if_neg h0, if_pos h0]
end Go.Proofs.Ytbebinlnjpfbeaa
