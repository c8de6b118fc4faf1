/- What was laid down is taken up: numbers, texts, rows (pure). -/
import Derived.Test.YtlaeiipiboabaaaPwA
namespace Go.Proofs.Ytlaeiipiboabaaa
open Go.RowKit
set_option maxRecDepth 100000
set_option linter.unusedVariables false
theorem drop_at (L E : List Int) : (L ++ E).drop L.length = E := by rw [List.drop_append_of_le_length (Nat.le_refl _), List.drop_length, List.nil_append]
theorem numA_at (L R : List Int) (V : Nat) (hV : V < 18446744073709551616) : numA (L ++ (lebB V ++ R)) L.length = ((V : Int), L.length + (lebB V).length, 0) := by
  unfold numA
  rw [drop_at, lebD_lebB V hV R]
  rw [if_pos rfl, Int.toNat_natCast]
theorem uptoA_at (L R : List Int) (V : Nat) (hV : V < 18446744073709551616) (most : Int) (h : (V : Int) ≤ most) : uptoA (L ++ (lebB V ++ R)) L.length most = ((V : Int), L.length + (lebB V).length, 0) := by
  unfold uptoA
  rw [numA_at L R V hV, if_neg (by omega), if_neg (by simp), if_neg (by simp only; omega)]
theorem textA_at (L b R : List Int) (hb : b.length < 18446744073709551616) (most : Int) (h : (b.length : Int) ≤ most) : textA (L ++ (lebB b.length ++ (b ++ R))) L.length most = (b, L.length + (lebB b.length).length + b.length, 0) := by
  unfold textA
  rw [uptoA_at L (b ++ R) b.length hb most h, if_neg (by simp)]
  have hl : (L ++ (lebB b.length ++ (b ++ R))).length = L.length + ((lebB b.length).length + (b.length + R.length)) := by simp
  rw [if_neg (by rw [hl]; simp only; omega)]
  have e : (L ++ (lebB b.length ++ (b ++ R))).drop (L.length + (lebB b.length).length) = b ++ R := by
    rw [← List.append_assoc, ← List.length_append, drop_at]
  simp only [Int.toNat_natCast]
  rw [e, List.take_append_of_le_length (Nat.le_refl _), List.take_length]
theorem rUint_at (L R : List Int) (V : Nat) (hV : V < 18446744073709551616) : rUint (L ++ (lebB V ++ R)) L.length 0 = ((V : Int), L.length + (lebB V).length, 0) := by
  unfold rUint
  rw [numA_at L R V hV, if_neg (by simp), if_neg (by simp)]
theorem rInt_at (L R : List Int) (V : Nat) (hV : V < 18446744073709551616) (most : Int) (h : (V : Int) ≤ most) : rInt (L ++ (lebB V ++ R)) L.length 0 most = ((V : Int), L.length + (lebB V).length, 0) := by
  unfold rInt
  rw [uptoA_at L R V hV most h, if_neg (by simp), if_neg (by simp)]
theorem rText_at (L b R : List Int) (hb : b.length < 18446744073709551616) (most : Int) (h : (b.length : Int) ≤ most) : rText (L ++ (lebB b.length ++ (b ++ R))) L.length 0 most = (b, L.length + (lebB b.length).length + b.length, 0) := by
  unfold rText
  rw [textA_at L b R hb most h, if_neg (by simp), if_neg (by simp)]
theorem rFlag_at (L R : List Int) (F : Bool) : rFlag (L ++ ((if F then 1 else 0) :: R)) L.length 0 = (F, L.length + 1, 0) := by
  unfold rFlag
  have e : (L ++ ((if F then (1 : Int) else 0) :: R)).getD L.length 0 = if F then 1 else 0 := by
    rw [List.getD_eq_getElem?_getD, List.getElem?_append_right (Nat.le_refl _), Nat.sub_self]; rfl
  rw [e, if_neg (by simp), if_neg (by simp), if_neg (by cases F <;> decide)]
  cases F <;> rfl
theorem rDigest_at (L d R : List Int) (hd : d.length = 32) : rDigest (L ++ (d ++ R)) L.length 0 = (d, L.length + 32, 0) := by
  unfold rDigest
  rw [if_neg (by simp), if_neg (by simp only [List.length_append]; omega), drop_at]
  rw [List.take_append_of_le_length (by omega), List.take_of_length_le (by omega)]
theorem rRow_at (L k u R : List Int) (m : Nat) (hk : k ≠ []) (hk1 : k.length ≤ 1024) (hu : u.length ≤ 65536) (hm0 : 1 ≤ m) (hm : m ≤ 1152921504606846976) :
    rRow (L ++ (lebB k.length ++ (k ++ (lebB u.length ++ (u ++ (lebB m ++ R)))))) L.length 0 = ((k, u, (m : Int)), L.length + (lebB k.length).length + k.length + (lebB u.length).length + u.length + (lebB m).length, 0) := by
  have e1 := textA_at L k (lebB u.length ++ (u ++ (lebB m ++ R))) (by omega) 1024 (by omega)
  have e2 := textA_at (L ++ (lebB k.length ++ k)) u (lebB m ++ R) (by omega) 65536 (by omega)
  have e3 := uptoA_at (L ++ (lebB k.length ++ k) ++ (lebB u.length ++ u)) R m (by omega) 1152921504606846976 (by omega)
  obtain ⟨B, hB⟩ : ∃ B, B = L ++ (lebB k.length ++ (k ++ (lebB u.length ++ (u ++ (lebB m ++ R))))) := ⟨_, rfl⟩
  have hB2 : L ++ (lebB k.length ++ k) ++ (lebB u.length ++ (u ++ (lebB m ++ R))) = B := by rw [hB]; simp [List.append_assoc]
  have hB3 : L ++ (lebB k.length ++ k) ++ (lebB u.length ++ u) ++ (lebB m ++ R) = B := by rw [hB]; simp [List.append_assoc]
  rw [hB2] at e2
  rw [hB3] at e3
  rw [← hB] at e1 ⊢
  have l1 : (L ++ (lebB k.length ++ k)).length = L.length + (lebB k.length).length + k.length := by simp; omega
  have l2 : (L ++ (lebB k.length ++ k) ++ (lebB u.length ++ u)).length = L.length + (lebB k.length).length + k.length + (lebB u.length).length + u.length := by simp; omega
  rw [l1] at e2
  rw [l2] at e3
  unfold rRow rowA
  rw [if_neg (by simp)]
  simp only [e1, e2, e3]
  rw [if_neg (by simp), if_neg (by simp), if_neg (by simp), if_neg (by rintro (h | h); exact hk h; omega)]
end Go.Proofs.Ytlaeiipiboabaaa
