/- The program's Open: texts taken up. -/
import Derived.Test.YtlaeiipiboabaaaTyA
namespace Go.Proofs.Ytlaeiipiboabaaa
open Go.RowKit
set_option maxRecDepth 100000
set_option linter.unusedVariables false
theorem shL_ge : ∀ (a b : List Int) (n : Nat), n ≤ a.length → n ≤ b.length → a.take n = b.take n → n ≤ shL a b
  | _, _, 0, _, _, _ => Nat.zero_le _
  | [], _, n + 1, h, _, _ => by simp at h
  | _ :: _, [], n + 1, _, h, _ => by simp at h
  | x :: a, y :: b, n + 1, h1, h2, h => by
    simp only [List.take_succ_cons, List.cons.injEq] at h
    have := shL_ge a b n (by simpa using h1) (by simpa using h2) h.2
    unfold shL
    rw [if_pos h.1]; omega
theorem byL_app (a b : ByteArray) : byL (a ++ b) = byL a ++ byL b := by
  unfold byL
  rw [ByteArray.data_append, Array.toList_append, List.map_append]
theorem byL_take (s : ByteArray) (n : Nat) (h : n ≤ s.size) : byL (s.extract 0 n) = (byL s).take n := by
  unfold byL
  rw [ByteArray.data_extract, ← List.map_take]
  simp
theorem take_size (s : ByteArray) (n : Nat) (h : n ≤ s.size) : (s.extract 0 n).size = n := by
  rw [← byL_length, byL_take s n h, List.length_take, byL_length]; omega
theorem app_size (a b : ByteArray) : (a ++ b).size = a.size + b.size := by
  rw [← byL_length, byL_app, List.length_append, byL_length, byL_length]
theorem sh_pre (last t : ByteArray) (n : Nat) (h : n ≤ last.size) : n ≤ shL (byL last) (byL (last.extract 0 n ++ t)) := by
  have h1 := byL_length last
  have h2 : byL (last.extract 0 n ++ t) = (byL last).take n ++ byL t := by rw [byL_app, byL_take last n h]
  rw [h2]
  refine shL_ge _ _ n (by omega) (by rw [List.length_append, List.length_take]; omega) ?_
  rw [List.take_append_of_le_length (by rw [List.length_take]; omega), List.take_take, Nat.min_self]
theorem mE_zero {err e : Int} {ok : Bool} (he : e ≠ 0) : mE err ok e = 0 ↔ err = 0 ∧ ok = true := by
  unfold mE
  by_cases h : err = 0
  · subst h; cases ok <;> simp [he]
  · simp [h]
theorem mE_ne {err e : Int} {ok : Bool} (h : err ≠ 0) : mE err ok e = err := by unfold mE; rw [if_pos h]
theorem mE_t {e : Int} : mE 0 true e = 0 := rfl
theorem mE_f {e : Int} : mE 0 false e = e := rfl
section
variable {B : List Int} {first : Bool} {last : ByteArray} {all a : Nat} {x : Int} {a1 : Nat} {e1 : Int}
theorem opS_brk (hi : rInt B a 0 65536 = (x, a1, e1)) (h : mE e1 (decide (x ≤ (last.size : Int))) 32 ≠ 0) : (opS B first last all a).1 = mE e1 (decide (x ≤ (last.size : Int))) 32 := by
  unfold opS
  rw [hi]
  simp only
  by_cases h1 : e1 = 0
  · subst h1
    by_cases h2 : x ≤ (last.size : Int)
    · rw [decide_eq_true h2] at h; exact absurd rfl h
    · rw [if_neg (by simp), if_pos (by omega), decide_eq_false h2]; rfl
  · rw [if_pos h1, mE_ne h1]
theorem opS_go {n : Nat} {r : List Int} {a2 : Nat} {e2 : Int} {s : ByteArray} {E : Int} (hi : rInt B a 0 65536 = ((n : Int), a1, 0)) (hn : n ≤ last.size) (ht : rText B a1 0 65536 = (r, a2, e2)) (hs : s = last.extract 0 n ++ strOfNums r)
    (hE : E = mE (mE (mE e2 (decide (s.size ≤ 65536) && decide (all + s.size ≤ 268435456)) 31) (decide (shL (byL last) (byL s) = n)) 32) (first || !(lq s last)) 33) : (opS B first last all a).1 = E ∧ (E = 0 → opS B first last all a = (0, a2, s) ∧ s.size ≤ 65536 ∧ all + s.size ≤ 268435456) := by
  have hge := sh_pre last (strOfNums r) n hn
  unfold opS
  rw [hi]
  simp only
  rw [ht, Int.toNat_natCast, ← hs, if_neg (by simp), if_neg (by omega)]
  simp only
  rw [← hs] at hge
  by_cases h2 : e2 = 0
  · subst h2
    rw [if_neg (by simp)]
    by_cases h3 : s.size ≤ 65536 ∧ all + s.size ≤ 268435456
    · rw [if_neg (by omega)]
      have b1 : (decide (s.size ≤ 65536) && decide (all + s.size ≤ 268435456)) = true := by simp [h3]
      rw [b1, mE_t] at hE
      by_cases h4 : shL (byL last) (byL s) = n
      · rw [if_neg (by omega)]
        rw [decide_eq_true h4, mE_t] at hE
        by_cases h5 : first = false ∧ lq s last = true
        · rw [if_pos h5]
          have : (first || !(lq s last)) = false := by rw [h5.1, h5.2]; rfl
          rw [this, mE_f] at hE
          subst hE
          exact ⟨rfl, fun h => absurd h (by decide)⟩
        · rw [if_neg h5]
          have : (first || !(lq s last)) = true := by
            cases hf : first
            · cases hq : lq s last
              · rfl
              · exact absurd ⟨hf, hq⟩ h5
            · rfl
          rw [this, mE_t] at hE
          subst hE
          exact ⟨rfl, fun _ => ⟨rfl, h3⟩⟩
      · rw [if_pos (by omega)]
        rw [decide_eq_false h4, mE_f, mE_ne (by decide)] at hE
        subst hE
        exact ⟨rfl, fun h => absurd h (by decide)⟩
    · rw [if_pos (by omega)]
      have b1 : (decide (s.size ≤ 65536) && decide (all + s.size ≤ 268435456)) = false := by
        rw [Bool.and_eq_false_iff, decide_eq_false_iff_not, decide_eq_false_iff_not]; omega
      rw [b1, mE_f, mE_ne (err := 31) (by decide), mE_ne (err := 31) (by decide)] at hE
      subst hE
      exact ⟨rfl, fun h => absurd h (by decide)⟩
  · rw [if_pos h2]
    rw [mE_ne h2, mE_ne h2, mE_ne h2] at hE
    subst hE
    exact ⟨rfl, fun h => absurd h h2⟩
theorem opR_succ {m : Nat} {l : List ByteArray} : opR B (m + 1) first last all l a = if (opS B first last all a).1 ≠ 0 then ((opS B first last all a).1, a, l)
    else opR B m false (opS B first last all a).2.2 (all + (opS B first last all a).2.2.size) (l ++ [(opS B first last all a).2.2]) (opS B first last all a).2.1 := rfl
end
end Go.Proofs.Ytlaeiipiboabaaa
