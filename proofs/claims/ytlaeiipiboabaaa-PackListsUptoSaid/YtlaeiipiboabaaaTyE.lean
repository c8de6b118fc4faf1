/- Rising texts there and back (pure). -/
import Derived.Test.YtlaeiipiboabaaaTyC
import Derived.Test.YtlaeiipiboabaaaPbA
import Derived.Sort.Walk0
namespace Go.Proofs.Ytlaeiipiboabaaa
open Go.RowKit
set_option maxRecDepth 100000
set_option linter.unusedVariables false
theorem str_backT (S : ByteArray) : strOfNums (byL S) = S := by
  obtain ⟨d⟩ := S
  unfold strOfNums byL
  simp only [List.map_map]
  congr 1
  apply Array.ext'
  rw [List.toList_toArray]
  conv => rhs; rw [← List.map_id d.toList]
  apply List.map_congr_left
  intro b hb
  simp
theorem byL_strT {l : List Int} (h : IsBytes l) : byL (strOfNums l) = l := by
  unfold byL strOfNums
  simp only [List.map_map]
  conv => rhs; rw [← List.map_id l]
  apply List.map_congr_left
  intro b hb
  have := h b hb
  simp
  omega
theorem byL_inj {s t : ByteArray} (h : byL s = byL t) : s = t := by rw [← str_backT s, ← str_backT t, h]
theorem lq_less (a s : ByteArray) : Op.bytesLess a.toList s.toList = !lq s a := by
  unfold lq
  generalize a.toList = x
  generalize s.toList = y
  rw [bytesLess_eq, bytesLess_eq]
  by_cases h1 : x < y
  · rw [decide_eq_true h1, decide_eq_false (fun h2 => List.lt_irrefl x (List.lt_trans h1 h2))]
    have : (y == x) = false := by rw [beq_eq_false_iff_ne]; intro h; subst h; exact List.lt_irrefl _ h1
    rw [this]; rfl
  · rw [decide_eq_false h1]
    by_cases h2 : y < x
    · rw [decide_eq_true h2]; rfl
    · rw [decide_eq_false h2]
      have : y = x := List.le_antisymm h1 h2
      rw [this, beq_self_eq_true]; rfl
/-- do texts rise? -/
def risesS : List ByteArray → Bool → ByteArray → Bool
  | [], _, _ => true
  | s :: r, first, ahead => (decide (s.size ≤ 65536) && (first || !lq s ahead)) && risesS r false s
def sumS : List ByteArray → Nat
  | [] => 0
  | s :: r => s.size + sumS r
theorem txR_ok : ∀ (l : List ByteArray) (first : Bool) (ahead : ByteArray) (all : Nat) (L : List Int), all ≤ 268435456 → ((txR l first ahead all L).1 = 0 ↔ risesS l first ahead = true ∧ all + sumS l ≤ 268435456)
  | [], first, ahead, all, L, h => by simp [txR, risesS, sumS, h]
  | s :: r, first, ahead, all, L, h => by
    unfold txR risesS sumS
    by_cases h1 : 65536 < s.size
    · rw [if_pos h1, decide_eq_false (by omega)]; simp
    rw [if_neg h1, decide_eq_true (by omega)]
    by_cases h2 : first = false ∧ lq s ahead = true
    · rw [if_pos h2, h2.1, h2.2]; simp
    rw [if_neg h2]
    have hb : (first || !lq s ahead) = true := by
      cases hf : first
      · cases hq : lq s ahead
        · rfl
        · exact absurd ⟨hf, hq⟩ h2
      · rfl
    rw [hb]
    by_cases h3 : 268435456 < all + s.size
    · rw [if_pos h3]
      constructor
      · intro h4; exact absurd h4 (by decide)
      · rintro ⟨_, h4⟩; omega
    · rw [if_neg h3, txR_ok r false s _ _ (by omega), Bool.true_and, Bool.true_and, Nat.add_assoc]
theorem txA_ok (l : List ByteArray) : (txA l).1 = 0 ↔ (l.length ≤ 1048576 ∧ risesS l true ⟨#[]⟩ = true) ∧ sumS l ≤ 268435456 := by
  unfold txA
  by_cases h : 1048576 < l.length
  · rw [if_pos h]
    constructor
    · intro h2; exact absurd h2 (by decide)
    · rintro ⟨⟨h2, _⟩, _⟩; omega
  · rw [if_neg h, txR_ok l true ⟨#[]⟩ 0 _ (by omega), Nat.zero_add]
    exact ⟨fun h2 => ⟨⟨by omega, h2.1⟩, h2.2⟩, fun h2 => ⟨h2.1.2, h2.2⟩⟩
theorem join_back (ahead s : ByteArray) : ahead.extract 0 (shL (byL ahead) (byL s)) ++ strOfNums ((byL s).drop (shL (byL ahead) (byL s))) = s := by
  have hle := shL_le (byL ahead) (byL s)
  apply byL_inj
  rw [byL_app, byL_take _ _ (by have := hle.1; rw [byL_length] at this; exact this), byL_strT (bytes_drop (byL_bytes s) _)]
  conv => rhs; rw [← List.take_append_drop (shL (byL ahead) (byL s)) (byL s)]
  congr 1
  have hE := shL_eq (byL ahead) (byL s)
  apply List.ext_getElem?
  intro i
  by_cases hi : i < shL (byL ahead) (byL s)
  · have := hE i hi
    rw [List.getElem?_take_of_lt hi, List.getElem?_take_of_lt hi]
    rw [List.getD_eq_getElem?_getD, List.getD_eq_getElem?_getD, List.getElem?_eq_getElem (by omega), List.getElem?_eq_getElem (by omega)] at this
    rw [List.getElem?_eq_getElem (by omega), List.getElem?_eq_getElem (by omega)]
    exact congrArg some this
  · rw [List.getElem?_eq_none (by rw [List.length_take]; omega), List.getElem?_eq_none (by rw [List.length_take]; omega)]
/-- what was written is read -/
theorem txR_back : ∀ (l : List ByteArray) (first : Bool) (ahead : ByteArray) (all : Nat) (L M : List Int), txR l first ahead all L = (0, M) → ahead.size ≤ 65536 →
    ∃ E : List Int, M = L ++ E ∧ 2 * l.length ≤ E.length ∧ ∀ (R : List Int) (acc : List ByteArray), opR (L ++ (E ++ R)) l.length first ahead all acc L.length = (0, L.length + E.length, acc ++ l)
  | [], first, ahead, all, L, M, h, _ => by
    simp only [txR] at h
    injection h with _ h
    refine ⟨[], by rw [List.append_nil, h], by simp, fun R acc => ?_⟩
    show (0, L.length, acc) = _
    simp
  | s :: r, first, ahead, all, L, M, h, ha => by
    unfold txR at h
    by_cases h1 : 65536 < s.size
    · rw [if_pos h1] at h; injection h with h _; exact absurd h (by decide)
    rw [if_neg h1] at h
    by_cases h2 : first = false ∧ lq s ahead = true
    · rw [if_pos h2] at h; injection h with h _; exact absurd h (by decide)
    rw [if_neg h2] at h
    by_cases h3 : 268435456 < all + s.size
    · rw [if_pos h3] at h; injection h with h _; exact absurd h (by decide)
    rw [if_neg h3] at h
    obtain ⟨n, hn⟩ : ∃ n, n = shL (byL ahead) (byL s) := ⟨_, rfl⟩
    have hj := join_back ahead s
    have hle := shL_le (byL ahead) (byL s)
    rw [byL_length, byL_length, ← hn] at hle
    rw [← hn] at h hj
    obtain ⟨b, hb⟩ : ∃ b, b = (byL s).drop n := ⟨_, rfl⟩
    have hbl : b.length = s.size - n := by rw [hb, List.length_drop, byL_length]
    rw [← hb, ← hbl] at h
    rw [← hb] at hj
    obtain ⟨E, hE, hE2, hE3⟩ := txR_back r false s _ _ _ h (by omega)
    have hl1 := lebB_pos n
    have hl2 := lebB_pos b.length
    refine ⟨lebB n ++ (lebB b.length ++ b ++ E), by rw [hE]; simp only [List.append_assoc], by simp only [List.length_append, List.length_cons]; omega, fun R acc => ?_⟩
    have hi : rInt (L ++ (lebB n ++ (lebB b.length ++ b ++ E) ++ R)) L.length 0 65536 = ((n : Int), (L ++ lebB n).length, 0) := by
      rw [List.append_assoc (lebB n), rInt_at L _ n (by omega) 65536 (by omega), List.length_append]
    have ht : rText (L ++ (lebB n ++ (lebB b.length ++ b ++ E) ++ R)) (L ++ lebB n).length 0 65536 = (b, (L ++ lebB n ++ (lebB b.length ++ b)).length, 0) := by
      have e : L ++ (lebB n ++ (lebB b.length ++ b ++ E) ++ R) = (L ++ lebB n) ++ (lebB b.length ++ (b ++ (E ++ R))) := by simp only [List.append_assoc]
      rw [e, rText_at (L ++ lebB n) b (E ++ R) (by omega) 65536 (by omega)]
      simp only [List.length_append, Nat.add_assoc]
    have hz : opS (L ++ (lebB n ++ (lebB b.length ++ b ++ E) ++ R)) first ahead all L.length = (0, (L ++ lebB n ++ (lebB b.length ++ b)).length, s) := by
      unfold opS
      rw [hi]
      simp only
      rw [ht, Int.toNat_natCast, if_neg (by simp), if_neg (by omega)]
      simp only
      rw [hj, if_neg (by simp), if_neg (by omega), if_neg (by omega), if_neg h2]
    show opR _ (r.length + 1) first ahead all acc L.length = _
    rw [opR_succ, hz]
    simp only
    rw [if_neg (by simp)]
    have e : L ++ (lebB n ++ (lebB b.length ++ b ++ E) ++ R) = (L ++ lebB n ++ (lebB b.length ++ b)) ++ (E ++ R) := by simp only [List.append_assoc]
    rw [e, hE3 R (acc ++ [s])]
    simp only [List.length_append, List.append_assoc, List.cons_append, List.nil_append, Nat.add_assoc]
theorem opA_txA {l : List ByteArray} {M : List Int} (h : txA l = (0, M)) : opA M = (0, l) := by
  unfold txA at h
  by_cases h0 : 1048576 < l.length
  · rw [if_pos h0] at h; injection h with h _; exact absurd h (by decide)
  rw [if_neg h0] at h
  obtain ⟨E, hE, h2, h3⟩ := txR_back l true ⟨#[]⟩ 0 _ _ h (by decide)
  have h4 := h3 [] []
  rw [List.append_nil, ← hE, List.nil_append] at h4
  have hu := uptoA_at [] E l.length (by omega) 1048576 (by omega)
  rw [List.nil_append, ← hE] at hu
  have hu : uptoA M 0 1048576 = ((l.length : Int), (lebB l.length).length, 0) := by rw [show (0 : Nat) = ([] : List Int).length from rfl, hu]; simp
  have hc : rCount M 0 0 1048576 2 = ((l.length : Int), (lebB l.length).length, 0) := by
    unfold rCount
    rw [if_neg (by simp), if_neg (by decide), hu, if_neg (by simp), if_neg]
    simp only
    have : M.length = (lebB l.length).length + E.length := by rw [hE, List.length_append]
    omega
  have hop : opC0 M = (0, M.length, l) := by
    unfold opC0
    rw [hc]
    simp only
    rw [if_neg (by simp), Int.toNat_natCast, h4, hE, List.length_append]
  unfold opA
  rw [hop]
  simp only
  have : rEnd M M.length 0 = 0 := by unfold rEnd; rw [if_neg (by omega)]
  rw [this, if_neg (by simp)]
theorem take_onT (B : List Int) (a k : Nat) (x : List Int) (h : (B.drop a).take k = x) : B.take a ++ x = B.take (a + k) := by rw [← h, List.take_add]
/-- what is read is written -/
theorem opR_back (B : List Int) (hB : IsBytes B) : ∀ (m : Nat) (first : Bool) (last : ByteArray) (all : Nat) (acc : List ByteArray) (a a' : Nat) (q : List ByteArray), opR B m first last all acc a = (0, a', q) → a ≤ B.length →
    ∃ r : List ByteArray, q = acc ++ r ∧ r.length = m ∧ a' ≤ B.length ∧ txR r first last all (B.take a) = (0, B.take a')
  | 0, first, last, all, acc, a, a', q, h, ha => by
    simp only [opR] at h
    injection h with _ h
    injection h with h1 h2
    exact ⟨[], by rw [List.append_nil, h2], rfl, by omega, by rw [← h1]; rfl⟩
  | m + 1, first, last, all, acc, a, a', q, h, ha => by
    rw [opR_succ] at h
    by_cases hS : (opS B first last all a).1 = 0
    · rw [if_neg (fun h2 => h2 hS)] at h
      obtain ⟨E, a2, s, hz⟩ : ∃ E a2 s, opS B first last all a = (E, a2, s) := ⟨_, _, _, rfl⟩
      rw [hz] at hS h
      simp only at hS h
      subst hS
      have hi : ∃ (n k : Nat), rInt B a 0 65536 = ((n : Int), a + k, 0) ∧ a + k ≤ B.length ∧ (B.drop a).take k = lebB n ∧ n ≤ 65536 := by
        unfold opS at hz
        have hri : rInt B a 0 65536 = if (uptoA B a 65536).2.2 ≠ 0 then (0, a, (uptoA B a 65536).2.2) else uptoA B a 65536 := by unfold rInt; rw [if_neg (by simp)]
        rcases uptoA_cases B hB a ha 65536 (by decide) with ⟨E, hE, e⟩ | ⟨u, k, e, h1, h2, h3, h4, h5, h6⟩
        · have e1 : rInt B a 0 65536 = (0, a, E) := by rw [hri, e, if_pos (by simp only; omega)]
          have hE0 : E ≠ 0 := by omega
          rw [e1] at hz
          simp only at hz
          rw [if_pos hE0] at hz
          injection hz with hz _
          exact absurd hz hE0
        · exact ⟨u, k, by rw [hri, e, if_neg (by simp)], h1, h3, by omega⟩
      obtain ⟨n, k, hi, hak, hn, hn2⟩ := hi
      unfold opS at hz
      rw [hi] at hz
      simp only at hz
      rw [if_neg (by simp)] at hz
      by_cases hlt : (last.size : Int) < (n : Int)
      · rw [if_pos hlt] at hz; injection hz with hz _; exact absurd hz (by decide)
      rw [if_neg hlt, Int.toNat_natCast] at hz
      have ht : (rText B (a + k) 0 65536).2.2 = 0 := by
        by_cases h0 : (rText B (a + k) 0 65536).2.2 = 0
        · exact h0
        · rw [if_pos h0] at hz; injection hz with hz _
      rw [if_neg (fun h2 => h2 ht)] at hz
      obtain ⟨b, n2, k2, hb, hb1, hb2, hb3, hbb⟩ : ∃ (b : List Int) (n2 k2 : Nat), rText B (a + k) 0 65536 = (b, a + k + k2 + n2, 0) ∧ b.length = n2 ∧ a + k + k2 + n2 ≤ B.length ∧ (B.drop (a + k)).take k2 = lebB n2 ∧ (B.drop (a + k + k2)).take n2 = b := by
        have hrt : rText B (a + k) 0 65536 = if (textA B (a + k) 65536).2.2 ≠ 0 then ([], a + k, (textA B (a + k) 65536).2.2) else textA B (a + k) 65536 := by unfold rText; rw [if_neg (by simp)]
        rw [hrt] at ht ⊢
        unfold textA at ht ⊢
        rcases uptoA_cases B hB (a + k) hak 65536 (by decide) with ⟨E, hE, e⟩ | ⟨u, k2, e, h1, h2, h3, h4, h5, h6⟩
        · exfalso
          have hE0 : E ≠ 0 := by omega
          rw [e] at ht
          simp only at ht
          rw [if_pos hE0] at ht
          simp only at ht
          rw [if_pos hE0] at ht
          exact hE0 ht
        · rw [e] at ht ⊢
          simp only at ht ⊢
          have hz0 : ¬ ((0 : Int) ≠ 0) := by decide
          rw [if_neg hz0] at ht ⊢
          by_cases h7 : (B.length : Int) - ((a + k + k2 : Nat) : Int) < (u : Int)
          · rw [if_pos h7] at ht; simp at ht
          · rw [if_neg h7, if_neg (by simp)]
            exact ⟨_, u, k2, by rw [Int.toNat_natCast], by rw [List.length_take, List.length_drop]; omega, by omega, h3, rfl⟩
      have hbB : IsBytes b := by rw [← hbb]; exact bytes_take (bytes_drop hB _) _
      rw [hb] at hz
      simp only at hz
      obtain ⟨s2, hs2⟩ : ∃ s2, s2 = last.extract 0 n ++ strOfNums b := ⟨_, rfl⟩
      rw [← hs2] at hz
      by_cases hc1 : 65536 < s2.size ∨ 268435456 < all + s2.size
      · rw [if_pos hc1] at hz; injection hz with hz _; exact absurd hz (by decide)
      rw [if_neg hc1] at hz
      by_cases hc2 : (n : Int) < (shL (byL last) (byL s2) : Int)
      · rw [if_pos hc2] at hz; injection hz with hz _; exact absurd hz (by decide)
      rw [if_neg hc2] at hz
      by_cases hc3 : first = false ∧ lq s2 last = true
      · rw [if_pos hc3] at hz; injection hz with hz _; exact absurd hz (by decide)
      rw [if_neg hc3] at hz
      injection hz with _ hz
      injection hz with hz1 hz2
      subst hz1; subst hz2
      have hsh : shL (byL last) (byL s2) = n := by
        have := sh_pre last (strOfNums b) n (by omega)
        rw [← hs2] at this
        omega
      have hsz : s2.size = n + n2 := by rw [hs2, app_size, take_size _ _ (by omega), strOfNums_size, hb1]
      have hdr : (byL s2).drop n = b := by
        rw [hs2, byL_app, byL_take _ _ (by omega), byL_strT hbB]
        have : ((byL last).take n).length = n := by rw [List.length_take, byL_length]; omega
        rw [List.drop_append_of_le_length (by omega), List.drop_of_length_le (by omega), List.nil_append]
      obtain ⟨r, hr1, hr2, hr3, hr4⟩ := opR_back B hB m false s2 _ _ _ _ _ h hb2
      refine ⟨s2 :: r, by rw [hr1, List.append_assoc]; rfl, by rw [List.length_cons, hr2], hr3, ?_⟩
      unfold txR
      rw [if_neg (by omega), if_neg hc3, if_neg (by omega), hsh, hdr, hsz, show n + n2 - n = n2 by omega, ← hsz]
      have e1 : B.take a ++ lebB n ++ (lebB n2 ++ b) = B.take (a + k + k2 + n2) := by
        rw [take_onT B a k _ hn, ← List.append_assoc, take_onT B (a + k) k2 _ hb3, take_onT B (a + k + k2) n2 _ hbb]
      rw [e1]
      exact hr4
    · rw [if_pos hS] at h
      injection h with h _
      exact absurd h hS
theorem txA_opA {B : List Int} (hB : IsBytes B) {l : List ByteArray} (h : opA B = (0, l)) : txA l = (0, B) := by
  unfold opA at h
  by_cases hE : rEnd B (opC0 B).2.1 (opC0 B).1 = 0
  · rw [if_neg (fun h2 => h2 hE)] at h
    injection h with _ h
    have he := rEnd_z hE
    unfold rEnd at hE
    rw [he] at hE
    have hat : ¬ (opC0 B).2.1 < B.length := fun h2 => by rw [if_pos ⟨rfl, h2⟩] at hE; exact absurd hE (by decide)
    have hC : ∃ (n k : Nat), rCount B 0 0 1048576 2 = ((n : Int), k, 0) ∧ k ≤ B.length ∧ B.take k = lebB n ∧ n ≤ 1048576 := by
      have hc0 : (rCount B 0 0 1048576 2).2.2 = 0 := by
        by_cases h0 : (rCount B 0 0 1048576 2).2.2 = 0
        · exact h0
        · unfold opC0 at he; rw [if_pos h0] at he; exact absurd he h0
      have hrc : rCount B 0 0 1048576 2 = if (uptoA B 0 1048576).2.2 ≠ 0 then (0, 0, (uptoA B 0 1048576).2.2) else if 0 < (2 : Int) ∧ ((B.length : Int) - (uptoA B 0 1048576).2.1) / 2 < (uptoA B 0 1048576).1 then (0, 0, 30) else uptoA B 0 1048576 := by
        unfold rCount
        rw [if_neg (by simp), if_neg (by decide)]
      rcases uptoA_cases B hB 0 (Nat.zero_le _) 1048576 (by decide) with ⟨E, hE, e⟩ | ⟨u, k, e, h1, h2, h3, h4, h5, h6⟩
      · exfalso
        have hE0 : E ≠ 0 := by omega
        rw [e] at hrc
        simp only at hrc
        rw [if_pos hE0] at hrc
        rw [hrc] at hc0
        exact hE0 hc0
      · rw [e] at hrc
        simp only at hrc
        rw [if_neg (show ¬ ((0 : Int) ≠ 0) by decide)] at hrc
        by_cases h8 : 0 < (2 : Int) ∧ ((B.length : Int) - ((0 + k : Nat) : Int)) / 2 < (u : Int)
        · rw [if_pos h8] at hrc
          rw [hrc] at hc0
          exact absurd hc0 (by decide)
        · rw [if_neg h8] at hrc
          exact ⟨u, k, by rw [hrc, Nat.zero_add], by omega, by rw [← h3, List.drop_zero], by omega⟩
    obtain ⟨n, k, hC, hk, hkn, hn⟩ := hC
    have hop : opC0 B = opR B n true ⟨#[]⟩ 0 [] k := by
      unfold opC0
      rw [hC]
      simp only
      rw [if_neg (by simp), Int.toNat_natCast]
    obtain ⟨E, a', q, hR⟩ : ∃ E a' q, opR B n true ⟨#[]⟩ 0 [] k = (E, a', q) := ⟨_, _, _, rfl⟩
    rw [hop, hR] at he hat h
    simp only at he hat h
    subst he; subst h
    obtain ⟨r, hr1, hr2, hr3, hr4⟩ := opR_back B hB n true ⟨#[]⟩ 0 [] k a' q hR hk
    rw [List.nil_append] at hr1
    subst hr1
    unfold txA
    rw [if_neg (by omega), hr2, ← hkn, hr4, List.take_of_length_le (by omega)]
  · rw [if_pos hE] at h
    injection h with h _
    exact absurd h hE
end Go.Proofs.Ytlaeiipiboabaaa
