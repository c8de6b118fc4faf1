/- A state as bytes (pure). -/
import Derived.Test.YtdmogbkfmeihfaaImA
namespace Go.Proofs.Ytdmogbkfmeihfaa
open Go.RowKit
set_option maxRecDepth 100000
set_option linter.unusedVariables false
/-- a row: key, value, version -/
abbrev RowT := ByteArray × ByteArray × Int
def rowL (r : RowT) : List Int := (lebB r.1.size ++ byL r.1) ++ (lebB r.2.1.size ++ byL r.2.1) ++ lebB r.2.2.toNat
def lqI (s a : ByteArray) : Bool := Op.bytesLess s.toList a.toList || s.toList == a.toList
def tabC (r : RowT) : Int := if r.1.size = 0 ∨ 1024 < r.1.size then 70 else if 65536 < r.2.1.size then 71 else if r.2.2 < 1 ∨ 1152921504606846976 < r.2.2 then 72 else 0
def mayB (r : RowT) (ahead : ByteArray) (first : Bool) (seq : Int) : Bool := decide (tabC r = 0) && (first || !lqI r.1 ahead) && decide (r.2.2 ≤ seq)
def risesR (seq : Int) : List RowT → Bool → ByteArray → Bool
  | [], _, _ => true
  | r :: t, first, ahead => mayB r ahead first seq && risesR seq t false r.1
def allR (l : List RowT) : List Int := l.flatMap rowL
def kvS : List RowT → Nat
  | [] => 0
  | r :: t => r.1.size + r.2.1.size + kvS t
def ldR (seq : Int) : List RowT → Bool → ByteArray → Nat → List Int → Int × List Int
  | [], _, _, size, L => if 268435456 < size ∨ 268435456 < L.length + 8 then (90, []) else (0, hwi ++ L)
  | r :: t, first, ahead, size, L => if mayB r ahead first seq = false then (91, []) else
      ldR seq t false r.1 (size + r.1.size + r.2.1.size) (if size + r.1.size + r.2.1.size ≤ 268435456 then L ++ rowL r else L)
/-- an image but for its sum -/
def laidA (seq : Int) (l : List RowT) : Int × List Int :=
  if 1048576 < l.length then (90, []) else if seq < 0 ∨ 1152921504606846976 < seq then (91, []) else ldR seq l true ⟨#[]⟩ 0 (lebB seq.toNat ++ lebB l.length)
def hdI (seq : Int) (l : List RowT) : List Int := hwi ++ (lebB seq.toNat ++ lebB l.length)
/-- may a state be? -/
def chkA (seq : Int) (l : List RowT) : Int :=
  if 1048576 < l.length then 90 else if seq < 0 ∨ 1152921504606846976 < seq then 91 else if risesR seq l true ⟨#[]⟩ = false then 91
  else if 268435456 < (hdI seq l).length + 4 + (allR l).length then 90 else 0
theorem tabC_zero {r : RowT} (h : tabC r = 0) : 1 ≤ r.1.size ∧ r.1.size ≤ 1024 ∧ r.2.1.size ≤ 65536 ∧ 1 ≤ r.2.2 ∧ r.2.2 ≤ 1152921504606846976 := by
  unfold tabC at h
  split at h
  · exact absurd h (by decide)
  split at h
  · exact absurd h (by decide)
  split at h
  · exact absurd h (by decide)
  · omega
theorem mayB_parts {r : RowT} {ahead : ByteArray} {first : Bool} {seq : Int} (h : mayB r ahead first seq = true) : tabC r = 0 ∧ (first || !lqI r.1 ahead) = true ∧ r.2.2 ≤ seq := by
  unfold mayB at h
  rw [Bool.and_eq_true, Bool.and_eq_true, decide_eq_true_eq, decide_eq_true_eq] at h
  exact ⟨h.1.1, h.1.2, h.2⟩
theorem rowL_length (r : RowT) : (rowL r).length = (lebB r.1.size).length + r.1.size + ((lebB r.2.1.size).length + r.2.1.size) + (lebB r.2.2.toNat).length := by
  unfold rowL
  simp only [List.length_append, byL_length]
theorem kv_le : ∀ l : List RowT, kvS l ≤ (allR l).length
  | [] => Nat.le_refl _
  | r :: t => by
    have := kv_le t
    have e : allR (r :: t) = rowL r ++ allR t := rfl
    rw [e, List.length_append, rowL_length]
    have ek : kvS (r :: t) = r.1.size + r.2.1.size + kvS t := rfl
    omega
theorem ldR_eq (seq : Int) : ∀ (l : List RowT) (first : Bool) (ahead : ByteArray) (size : Nat) (L : List Int), size ≤ L.length →
    ldR seq l first ahead size L = if risesR seq l first ahead = false then (91, []) else if 268435456 < size + kvS l ∨ 268435456 < (L ++ allR l).length + 8 then (90, []) else (0, hwi ++ (L ++ allR l))
  | [], first, ahead, size, L, _ => by
    have e : allR [] = [] := rfl
    simp only [ldR, risesR, kvS, e, List.append_nil, Nat.add_zero]
    rfl
  | r :: t, first, ahead, size, L, hs => by
    have ea : allR (r :: t) = rowL r ++ allR t := rfl
    have hr := rowL_length r
    unfold ldR risesR
    cases hm : mayB r ahead first seq
    · simp
    · rw [if_neg (by simp), Bool.true_and]
      by_cases hq : size + r.1.size + r.2.1.size ≤ 268435456
      · rw [if_pos hq, ldR_eq seq t false r.1 _ _ (by rw [List.length_append]; omega), ea, List.append_assoc]
        have ek : kvS (r :: t) = r.1.size + r.2.1.size + kvS t := rfl
        have e2 : size + r.1.size + r.2.1.size + kvS t = size + kvS (r :: t) := by omega
        rw [e2]
      · rw [if_neg hq]
        have h1 : ∀ (first2 : Bool) (t : List RowT) (a : ByteArray) (size : Nat), 268435456 < size → ldR seq t first2 a size L = if risesR seq t first2 a = false then (91, []) else (90, []) := by
          intro first2 t
          induction t generalizing first2 with
          | nil => intro a size hsz; simp only [ldR, risesR]; rw [if_pos (.inl hsz)]; rfl
          | cons r2 t2 ih =>
            intro a size hsz
            unfold ldR risesR
            cases hm2 : mayB r2 a first2 seq
            · simp
            · rw [if_neg (by simp), Bool.true_and, if_neg (by omega), ih false r2.1 _ (by omega)]
        rw [h1 false t r.1 _ (by omega)]
        have ek : kvS (r :: t) = r.1.size + r.2.1.size + kvS t := rfl
        have h2 : 268435456 < size + kvS (r :: t) := by omega
        cases risesR seq t false r.1
        · rfl
        · rw [if_neg (by simp), if_neg (by simp), if_pos (.inl h2)]
theorem laid_chk (seq : Int) (l : List RowT) : laidA seq l = if chkA seq l ≠ 0 then (chkA seq l, []) else (0, hdI seq l ++ allR l) := by
  unfold laidA chkA
  by_cases h1 : 1048576 < l.length
  · rw [if_pos h1, if_pos h1]; rfl
  rw [if_neg h1, if_neg h1]
  by_cases h2 : seq < 0 ∨ 1152921504606846976 < seq
  · rw [if_pos h2, if_pos h2]; rfl
  rw [if_neg h2, if_neg h2, ldR_eq seq l true ⟨#[]⟩ 0 _ (Nat.zero_le _)]
  cases h3 : risesR seq l true ⟨#[]⟩
  · rfl
  · have hk := kv_le l
    have e : hdI seq l ++ allR l = hwi ++ (lebB seq.toNat ++ lebB l.length ++ allR l) := by unfold hdI; rw [List.append_assoc]
    have el : (hdI seq l).length = 4 + (lebB seq.toNat ++ lebB l.length).length := by unfold hdI; rw [List.length_append]; rfl
    rw [e]
    have eL : (lebB seq.toNat ++ lebB l.length ++ allR l).length = (lebB seq.toNat ++ lebB l.length).length + (allR l).length := List.length_append
    generalize hM : lebB seq.toNat ++ lebB l.length ++ allR l = M at *
    by_cases h4 : 268435456 < (hdI seq l).length + 4 + (allR l).length
    · have hc : (if true = false then (91 : Int) else if 268435456 < (hdI seq l).length + 4 + (allR l).length then 90 else 0) = 90 := by rw [if_neg (by simp), if_pos h4]
      rw [hc, if_neg (by simp), if_pos (show 268435456 < 0 + kvS l ∨ 268435456 < M.length + 8 from .inr (by omega)), if_pos (by decide)]
    · have hc : (if true = false then (91 : Int) else if 268435456 < (hdI seq l).length + 4 + (allR l).length then 90 else 0) = 0 := by rw [if_neg (by simp), if_neg h4]
      rw [hc, if_neg (by simp), if_neg (show ¬ (268435456 < 0 + kvS l ∨ 268435456 < M.length + 8) by omega), if_neg (by decide)]
end Go.Proofs.Ytdmogbkfmeihfaa
