/- What is written is read again, what is turned is refused: the laws ImageBack, ImageFlips. -/
import Derived.Test.YtdmogbkfmeihfaaPwA
import Derived.Test.YtdmogbkfmeihfaaIdM
import Derived.Test.YtdmogbkfmeihfaaOpen2
import Derived.Test.YtdmogbkfmeihfaaCrcG
namespace Go.Proofs.Ytdmogbkfmeihfaa
open Go.RowKit
set_option maxRecDepth 100000
set_option linter.unusedVariables false
theorem drop_at (L E : List Int) : (L ++ E).drop L.length = E := by rw [List.drop_append_of_le_length (Nat.le_refl _), List.drop_length, List.nil_append]
theorem numA_at (L R : List Int) (V : Nat) (hV : V < 18446744073709551616) : numA (L ++ (lebB V ++ R)) L.length = ((V : Int), L.length + (lebB V).length, 0) := by
  unfold numA
  rw [drop_at, lebD_lebB V hV R]
  rw [if_pos rfl, Int.toNat_natCast]
theorem uptoA_at (L R : List Int) (V : Nat) (hV : V < 18446744073709551616) (most : Int) (h : (V : Int) ≤ most) : uptoA (L ++ (lebB V ++ R)) L.length most = ((V : Int), L.length + (lebB V).length, 0) := by
  unfold uptoA
  rw [numA_at L R V hV, if_neg (by omega), if_neg (by simp), if_neg (by simp only; omega)]
theorem textA_at (L b R : List Int) (hb : b.length < 18446744073709551616) (most : Int) (h : (b.length : Int) ≤ most) : textA (L ++ (lebB b.length ++ (b ++ R))) L.length most = (b, L.length + (lebB b.length).length + b.length, 0) := by
  unfold textA
  rw [uptoA_at L (b ++ R) b.length hb most h, if_neg (by simp)]
  have hl : (L ++ (lebB b.length ++ (b ++ R))).length = L.length + ((lebB b.length).length + (b.length + R.length)) := by simp
  rw [if_neg (by rw [hl]; simp only; omega)]
  have e : (L ++ (lebB b.length ++ (b ++ R))).drop (L.length + (lebB b.length).length) = b ++ R := by
    rw [← List.append_assoc, ← List.length_append, drop_at]
  simp only [Int.toNat_natCast]
  rw [e, List.take_append_of_le_length (Nat.le_refl _), List.take_length]
theorem rUint_at (L R : List Int) (V : Nat) (hV : V < 18446744073709551616) : rUint (L ++ (lebB V ++ R)) L.length 0 = ((V : Int), L.length + (lebB V).length, 0) := by
  unfold rUint
  rw [numA_at L R V hV, if_neg (by simp), if_neg (by simp)]
theorem rInt_at (L R : List Int) (V : Nat) (hV : V < 18446744073709551616) (most : Int) (h : (V : Int) ≤ most) : rInt (L ++ (lebB V ++ R)) L.length 0 most = ((V : Int), L.length + (lebB V).length, 0) := by
  unfold rInt
  rw [uptoA_at L R V hV most h, if_neg (by simp), if_neg (by simp)]
theorem rText_at (L b R : List Int) (hb : b.length < 18446744073709551616) (most : Int) (h : (b.length : Int) ≤ most) : rText (L ++ (lebB b.length ++ (b ++ R))) L.length 0 most = (b, L.length + (lebB b.length).length + b.length, 0) := by
  unfold rText
  rw [textA_at L b R hb most h, if_neg (by simp), if_neg (by simp)]
theorem rFlag_at (L R : List Int) (F : Bool) : rFlag (L ++ ((if F then 1 else 0) :: R)) L.length 0 = (F, L.length + 1, 0) := by
  unfold rFlag
  have e : (L ++ ((if F then (1 : Int) else 0) :: R)).getD L.length 0 = if F then 1 else 0 := by
    rw [List.getD_eq_getElem?_getD, List.getElem?_append_right (Nat.le_refl _), Nat.sub_self]; rfl
  rw [e, if_neg (by simp), if_neg (by simp), if_neg (by cases F <;> decide)]
  cases F <;> rfl
theorem rDigest_at (L d R : List Int) (hd : d.length = 32) : rDigest (L ++ (d ++ R)) L.length 0 = (d, L.length + 32, 0) := by
  unfold rDigest
  rw [if_neg (by simp), if_neg (by simp only [List.length_append]; omega), drop_at]
  rw [List.take_append_of_le_length (by omega), List.take_of_length_le (by omega)]
theorem rRow_at (L k u R : List Int) (m : Nat) (hk : k ≠ []) (hk1 : k.length ≤ 1024) (hu : u.length ≤ 65536) (hm0 : 1 ≤ m) (hm : m ≤ 1152921504606846976) :
    rRow (L ++ (lebB k.length ++ (k ++ (lebB u.length ++ (u ++ (lebB m ++ R)))))) L.length 0 = ((k, u, (m : Int)), L.length + (lebB k.length).length + k.length + (lebB u.length).length + u.length + (lebB m).length, 0) := by
  have e1 := textA_at L k (lebB u.length ++ (u ++ (lebB m ++ R))) (by omega) 1024 (by omega)
  have e2 := textA_at (L ++ (lebB k.length ++ k)) u (lebB m ++ R) (by omega) 65536 (by omega)
  have e3 := uptoA_at (L ++ (lebB k.length ++ k) ++ (lebB u.length ++ u)) R m (by omega) 1152921504606846976 (by omega)
  obtain ⟨B, hB⟩ : ∃ B, B = L ++ (lebB k.length ++ (k ++ (lebB u.length ++ (u ++ (lebB m ++ R))))) := ⟨_, rfl⟩
  have hB2 : L ++ (lebB k.length ++ k) ++ (lebB u.length ++ (u ++ (lebB m ++ R))) = B := by rw [hB]; simp [List.append_assoc]
  have hB3 : L ++ (lebB k.length ++ k) ++ (lebB u.length ++ u) ++ (lebB m ++ R) = B := by rw [hB]; simp [List.append_assoc]
  rw [hB2] at e2
  rw [hB3] at e3
  rw [← hB] at e1 ⊢
  have l1 : (L ++ (lebB k.length ++ k)).length = L.length + (lebB k.length).length + k.length := by simp; omega
  have l2 : (L ++ (lebB k.length ++ k) ++ (lebB u.length ++ u)).length = L.length + (lebB k.length).length + k.length + (lebB u.length).length + u.length := by simp; omega
  rw [l1] at e2
  rw [l2] at e3
  unfold rRow rowA
  rw [if_neg (by simp)]
  simp only [e1, e2, e3]
  rw [if_neg (by simp), if_neg (by simp), if_neg (by simp), if_neg (by rintro (h | h); exact hk h; omega)]
theorem str_backI (S : ByteArray) : strOfNums (byL S) = S := by
  obtain ⟨d⟩ := S
  unfold strOfNums byL
  simp only [List.map_map]
  congr 1
  apply Array.ext'
  rw [List.toList_toArray]
  conv => rhs; rw [← List.map_id d.toList]
  apply List.map_congr_left
  intro b hb
  simp
theorem allR_cons (q : RowT) (r : List RowT) : allR (q :: r) = rowL q ++ allR r := rfl
theorem rdD_at : ∀ (r : List RowT) (L E : List Int) (l0 : List RowT), (∀ q ∈ r, tabC q = 0) → rdD (L ++ (allR r ++ E)) r.length L.length l0 = some (L.length + (allR r).length, l0 ++ r)
  | [], L, E, l0, _ => by
    show some (L.length, l0) = some (L.length + 0, l0 ++ [])
    rw [List.append_nil, Nat.add_zero]
  | q :: r, L, E, l0, ht => by
    obtain ⟨c1, c2, c3, c4, c5⟩ := tabC_zero (ht q List.mem_cons_self)
    have hq := rRow_at L (byL q.1) (byL q.2.1) (allR r ++ E) q.2.2.toNat (fun h => by have := byL_length q.1; rw [h] at this; simp at this; omega) (by rw [byL_length]; omega) (by rw [byL_length]; omega) (by omega) (by omega)
    have hC : L ++ (lebB (byL q.1).length ++ (byL q.1 ++ (lebB (byL q.2.1).length ++ (byL q.2.1 ++ (lebB q.2.2.toNat ++ (allR r ++ E)))))) = L ++ (allR (q :: r) ++ E) := by
      rw [allR_cons]
      unfold rowL
      rw [byL_length, byL_length]
      simp only [List.append_assoc]
    have hC2 : L ++ (allR (q :: r) ++ E) = (L ++ rowL q) ++ (allR r ++ E) := by rw [allR_cons]; simp only [List.append_assoc]
    have hp : L.length + (lebB (byL q.1).length).length + (byL q.1).length + (lebB (byL q.2.1).length).length + (byL q.2.1).length + (lebB q.2.2.toNat).length = (L ++ rowL q).length := by
      rw [List.length_append, rowL_length, byL_length, byL_length]; omega
    rw [hC, hp] at hq
    have ho : rowOf (L ++ (allR (q :: r) ++ E)) L.length = q := by
      unfold rowOf
      rw [hq]
      simp only
      rw [str_backI, str_backI]
      obtain ⟨k, u, m⟩ := q
      simp only at c4 ⊢
      rw [Int.toNat_of_nonneg (by omega)]
    show rdD (L ++ (allR (q :: r) ++ E)) (r.length + 1) L.length l0 = _
    unfold rdD
    rw [hq, ho, if_neg (show ¬ ((0 : Int) ≠ 0) from fun h => h rfl)]
    show rdD (L ++ (allR (q :: r) ++ E)) r.length (L ++ rowL q).length (l0 ++ [q]) = _
    rw [hC2, rdD_at r (L ++ rowL q) E (l0 ++ [q]) (fun p hp => ht p (List.mem_cons_of_mem _ hp)), List.length_append, allR_cons, List.length_append, Nat.add_assoc, List.append_assoc]
    rfl
theorem rises_tab (seq : Int) : ∀ (l : List RowT) (f : Bool) (a : ByteArray), risesR seq l f a = true → ∀ q ∈ l, tabC q = 0
  | [], _, _, _, q, hq => by cases hq
  | r :: t, f, a, h, q, hq => by
    unfold risesR at h
    rw [Bool.and_eq_true] at h
    rcases List.mem_cons.1 hq with e | e
    · subst e
      have h1 := h.1
      unfold mayB at h1
      rw [Bool.and_eq_true, Bool.and_eq_true] at h1
      exact of_decide_eq_true h1.1.1
    · exact rises_tab seq t false r.1 h.2 q e
theorem chk_parts {seq : Int} {l : List RowT} (h : chkA seq l = 0) : l.length ≤ 1048576 ∧ 0 ≤ seq ∧ seq ≤ 1152921504606846976 ∧ (∀ q ∈ l, tabC q = 0) ∧ (hdI seq l).length + 4 + (allR l).length ≤ 268435456 := by
  unfold chkA at h
  by_cases h1 : 1048576 < l.length
  · rw [if_pos h1] at h; cases h
  rw [if_neg h1] at h
  by_cases h2 : seq < 0 ∨ 1152921504606846976 < seq
  · rw [if_pos h2] at h; cases h
  rw [if_neg h2] at h
  cases h3 : risesR seq l true ⟨#[]⟩ with
  | false => rw [h3, if_pos rfl] at h; cases h
  | true =>
    rw [h3, if_neg (by simp)] at h
    by_cases h4 : 268435456 < (hdI seq l).length + 4 + (allR l).length
    · rw [if_pos h4] at h; cases h
    · exact ⟨by omega, by omega, by omega, rises_tab seq l true _ h3, by omega⟩
/-- the two numbers ahead, whatever follows -/
theorem two_at (seq : Int) (n : Nat) (E : List Int) (h0 : 0 ≤ seq) (h1 : seq ≤ 1152921504606846976) (hn : n ≤ 1048576) :
    rInt (lebB seq.toNat ++ (lebB n ++ E)) 0 0 1152921504606846976 = (seq, (lebB seq.toNat).length, 0) ∧ rInt (lebB seq.toNat ++ (lebB n ++ E)) (lebB seq.toNat).length 0 1048576 = ((n : Int), (lebB seq.toNat).length + (lebB n).length, 0) := by
  have e1 := rInt_at [] (lebB n ++ E) seq.toNat (by omega) 1152921504606846976 (by omega)
  have e2 := rInt_at (lebB seq.toNat) E n (by omega) 1048576 (by omega)
  rw [List.nil_append, List.length_nil, Nat.zero_add, Int.toNat_of_nonneg h0] at e1
  exact ⟨e1, e2⟩
theorem doc_at {seq : Int} {l : List RowT} (h : chkA seq l = 0) : docA (lebB seq.toNat ++ (lebB l.length ++ allR l)) = some (seq, l) := by
  obtain ⟨h1, h2, h3, h4, h5⟩ := chk_parts h
  obtain ⟨e1, e2⟩ := two_at seq l.length (allR l) h2 h3 h1
  have e3 := rdD_at l (lebB seq.toNat ++ lebB l.length) [] [] h4
  rw [List.append_nil, List.append_assoc, List.length_append, List.nil_append] at e3
  have hlen : (lebB seq.toNat ++ (lebB l.length ++ allR l)).length = (lebB seq.toNat).length + (lebB l.length).length + (allR l).length := by simp only [List.length_append]; omega
  unfold docA
  rw [e1]
  simp only
  rw [e2]
  simp only [Int.toNat_natCast]
  rw [if_neg (show ¬ ((0 : Int) ≠ 0) from fun h => h rfl), e3]
  simp only
  rw [if_neg (show ¬ ((lebB seq.toNat).length + (lebB l.length).length + (allR l).length < (lebB seq.toNat ++ (lebB l.length ++ allR l)).length ∨ chkA seq l ≠ 0) from fun h6 => h6.elim (fun h7 => by omega) (fun h7 => h7 h))]
theorem rowL_bytesO (q : RowT) : IsBytes (rowL q) := bytes_append (bytes_append (bytes_append (lebB_bytes _) (byL_bytes _)) (bytes_append (lebB_bytes _) (byL_bytes _))) (lebB_bytes _)
theorem allR_bytesO : ∀ l : List RowT, IsBytes (allR l)
  | [] => fun b hb => by cases hb
  | q :: r => by rw [allR_cons]; exact bytes_append (rowL_bytesO q) (allR_bytesO r)
theorem dec_enc {seq : Int} {l : List RowT} (h : chkA seq l = 0) : ∃ M, encA seq l = (0, M) ∧ sizA seq l = ((M.length : Int), 0) ∧ 10 ≤ M.length ∧ M.length ≤ 268435456 ∧ IsBytes M ∧ decA M = (0, seq, l) ∧
    (hdA M).1 = seq ∧ (hdA M).2.1 = (l.length : Int) ∧ (hdA M).2.2.2 = 0 ∧ rmA M = (l.length : Int) := by
  obtain ⟨h1, h2, h3, h4, h5⟩ := chk_parts h
  have hl4 := all_four l h4
  have p1 := lebB_pos seq.toNat
  have p2 := lebB_pos l.length
  have hC : IsBytes (lebB seq.toNat ++ (lebB l.length ++ allR l)) := bytes_append (lebB_bytes _) (bytes_append (lebB_bytes _) (allR_bytesO l))
  obtain ⟨C, hCe⟩ : ∃ C, C = lebB seq.toNat ++ (lebB l.length ++ allR l) := ⟨_, rfl⟩
  have hlen : C.length = (lebB seq.toNat).length + (lebB l.length).length + (allR l).length := by rw [hCe]; simp only [List.length_append]; omega
  have hla : laidA seq l = (0, hwi ++ C) := by
    rw [laid_chk, if_neg (show ¬ chkA seq l ≠ 0 from fun h9 => h9 h), hCe]
    unfold hdI
    simp only [List.append_assoc]
  have hh : (hdI seq l).length = 4 + (lebB seq.toNat).length + (lebB l.length).length := by
    unfold hdI
    simp only [List.length_append]
    show 4 + _ = _
    omega
  have hw4 : hwi.length = 4 := rfl
  have hML : (sealB (hwi ++ C)).length = 8 + C.length := by rw [seal_lenI, List.length_append, hw4]; omega
  have ht4 : (sealB (hwi ++ C)).take 4 = hwi := by
    unfold sealB
    rw [List.append_assoc, List.take_left' hw4]
  have hd4 : (sealB (hwi ++ C)).drop 4 = lebB seq.toNat ++ (lebB l.length ++ (allR l ++ B4 (sumW (hwi ++ C)))) := by
    unfold sealB
    rw [List.append_assoc, List.drop_left' hw4]
    rw [show C ++ B4 (sumW (hwi ++ C)) = lebB seq.toNat ++ (lebB l.length ++ (allR l ++ B4 (sumW (hwi ++ C)))) from by rw [hCe]; simp only [List.append_assoc]]
  have htn : (sealB (hwi ++ C)).take ((sealB (hwi ++ C)).length - 4) = hwi ++ C := by
    rw [hML]
    unfold sealB
    exact List.take_left' (by rw [List.length_append, hw4]; omega)
  have hdn : (sealB (hwi ++ C)).drop ((sealB (hwi ++ C)).length - 4) = B4 (sumW (hwi ++ C)) := by
    rw [hML]
    unfold sealB
    exact List.drop_left' (by rw [List.length_append, hw4]; omega)
  have hho : holdsB (sealB (hwi ++ C)) = true := by
    unfold holdsB
    rw [htn, hdn, decide_eq_true (by rw [hML]; omega), decide_eq_true rfl]
    rfl
  have hB : IsBytes (sealB (hwi ++ C)) := bytes_append (bytes_append hwi_b (by rw [hCe]; exact hC)) (B4_bytes _)
  obtain ⟨e1, e2⟩ := two_at seq l.length (allR l ++ B4 (sumW (hwi ++ C))) h2 h3 h1
  have hpk : pkC ((sealB (hwi ++ C)).drop 4) = (seq, (l.length : Int), (lebB seq.toNat).length + (lebB l.length).length, 0) := by
    rw [hd4]
    unfold pkC
    rw [e1]
    simp only
    rw [e2]
    simp
  have hhd : hdA (sealB (hwi ++ C)) = (seq, (l.length : Int), ((sealB (hwi ++ C)).length : Int) - 4 - (((lebB seq.toNat).length + (lebB l.length).length : Nat) : Int), 0) := by
    unfold hdA
    rw [if_neg (show ¬ ((sealB (hwi ++ C)).length < 4 ∨ (sealB (hwi ++ C)).take 4 ≠ hwi) from fun h9 => h9.elim (fun h9 => by omega) (fun h9 => h9 ht4)), hpk]
    simp
  refine ⟨sealB (hwi ++ C), ?_, ?_, by omega, by omega, hB, ?_, by rw [hhd], by rw [hhd], by rw [hhd], ?_⟩
  · unfold encA
    rw [hla]
    simp
  · unfold sizA
    rw [hla]
    simp only [ne_eq, not_true_eq_false, if_false]
    rw [hML, List.length_append, hw4]
    congr 1
    omega
  · have hrd : readA C = some (seq, l) := by
      rw [← read_doc C (by rw [hCe]; exact hC) (by omega), hCe]
      exact doc_at h
    unfold decA
    rw [if_neg (show ¬ 268435456 < (sealB (hwi ++ C)).length from by omega), if_neg (show ¬ ((sealB (hwi ++ C)).length < 10 ∨ (sealB (hwi ++ C)).take 4 ≠ hwi) from fun h9 => h9.elim (fun h9 => by omega) (fun h9 => h9 ht4)), if_neg (show ¬ holdsB (sealB (hwi ++ C)) = false from by rw [hho]; simp), htn, List.drop_left' hw4, hrd]
  · unfold rmA
    rw [hhd]
    simp only [ne_eq, not_true_eq_false, if_false]
    rw [hML]
    omega
/-- a state qs it comes in -/
abbrev StT := Int × List (ByteArray × ByteArray × Int × Unit) × Unit
abbrev RRow := RAnd 0 1 RStr (RAnd 1 1 RStr (RAnd 2 1 (RInt .i64) RNil))
abbrev RSt := RAnd 0 1 (RInt .i64) (RAnd 1 1 (RSl 3 40 RRow) RNil)
def rowT (a : ByteArray × ByteArray × Int × Unit) : RowT := (a.1, a.2.1, a.2.2.1)
theorem blocks3 : ∀ (qs : List (ByteArray × ByteArray × Int × Unit)) (vs : List Value), vs.length = qs.length * 3 → (∀ j (h : j < qs.length), (vs.drop (j * 3)).take 3 = rowV (rowT (qs[j]'h))) → vs = rowsV (qs.map rowT)
  | [], vs, h, _ => List.eq_nil_of_length_eq_zero (by simpa using h)
  | a :: qs, vs, h, hb => by
    have h0 := hb 0 (by simp)
    rw [Nat.zero_mul, List.drop_zero] at h0
    have e : rowsV ((a :: qs).map rowT) = rowV (rowT a) ++ rowsV (qs.map rowT) := rfl
    rw [e, ← blocks3 qs (vs.drop 3) (by rw [List.length_drop, h, List.length_cons]; omega) (fun j hj => by
      have := hb (j + 1) (by simpa using hj)
      rw [List.drop_drop]
      have e2 : 3 + j * 3 = (j + 1) * 3 := by omega
      rw [e2]
      simpa using this)]
    simp only [List.getElem_cons_zero] at h0
    rw [← h0, List.take_append_drop]
theorem row_in {w : World} {cs : List Value} {a : ByteArray × ByteArray × Int × Unit} (h : RRow w cs a) (hl : cs.length = 3) : cs = rowV (rowT a) ∧ (Lit.int .i64 a.2.2.1).wf = true := by
  obtain ⟨⟨h1, _⟩, ⟨h2, _⟩, ⟨h3, h4⟩, _⟩ := h
  match cs, hl with
  | [x, y, z], _ =>
    simp at h1 h2 h3
    refine ⟨?_, h4⟩
    rw [h1, h2, h3]; rfl
theorem state_in {w : World} {cs : Array Value} {x : StT} (hs : cs.size = 2) (r : RSt w cs.toList x) : ∃ v, cs = stC x.1 v ∧ RdR w v (x.2.1.map rowT) ∧ (x.2.1.map rowT).length * 40 ≤ 140737488351232 ∧ (Lit.int .i64 x.1).wf = true ∧ ∀ q ∈ x.2.1.map rowT, (Lit.int .i64 q.2.2).wf = true := by
  obtain ⟨⟨h1, h2⟩, ⟨v, vs, h3, hR, hl, hx⟩, _⟩ := r
  obtain ⟨l⟩ := cs
  match l, hs with
  | [c0, c1], _ =>
    simp at h1 h3
    have hvs : vs = rowsV (x.2.1.map rowT) := blocks3 x.2.1 vs hR.1 (fun j hj => by
      obtain ⟨a, ha, hl3, hr⟩ := hx j hj
      rw [List.getElem?_eq_getElem hj] at ha
      injection ha with ha
      rw [ha]
      exact (row_in hr hl3).1)
    refine ⟨v, by rw [h1, h3]; rfl, ?_, by rw [List.length_map]; exact hl, h2, fun q hq => ?_⟩
    · rw [hvs] at hR
      unfold RdR
      rw [List.length_map]
      exact hR
    · obtain ⟨a, ha, rfl⟩ := List.mem_map.1 hq
      obtain ⟨j, hj, rfl⟩ := List.getElem_of_mem ha
      obtain ⟨a2, ha2, hl3, hr⟩ := hx j hj
      rw [List.getElem?_eq_getElem hj] at ha2
      injection ha2 with ha2
      rw [ha2]
      exact (row_in hr hl3).2
set_option maxHeartbeats 8000000 in
theorem law_ImageBack (w : World) (cs : Array Value) (hs : cs.size = 2) (x : StT) (r : RSt w cs.toList x) :
    Calls Try.prog 10 #[.agg cs] w fun e w' => e = .returned (.bool true) ∧ Below w.heap.size w w' := by
  obtain ⟨v, rfl, HR, hl, _, _⟩ := state_in hs r
  obtain ⟨seq, qs, u9⟩ := x
  simp only at HR hl
  generalize qs.map rowT = l at *
  clear hs r
  have hRH := hd_ HR
  have hB0 := al1 (Below.refl w.heap.size w) (.cells (stC seq v) 36)
  have hb1 := Box.new w (stC seq v) 36
  obtain ⟨W0, hW0⟩ : ∃ W0, W0 = w.alloc (.cells (stC seq v) 36) := ⟨_, rfl⟩
  rw [← hW0] at hB0 hb1
  have hCk := hd_ (ICheck_any seq v l W0 (HR.keep hB0))
  have hB0 := hd_ hB0
  have hb1 := hd_ hb1
  by_cases hc : chkA seq l = 0
  · obtain ⟨M, m1, m2, m3, m4, m5, m6, m7, m8, m9, m10⟩ := dec_enc hc
    have hEn := hd_ (fun W (h : RdR W v l) => show Calls Try.prog 22 #[.agg (stC seq v)] W (ImRet W (0, M)) from by have := Encode_any seq v l W h; rw [m1] at this; exact this)
    have hSz := hd_ (fun W (h : RdR W v l) => show Calls Try.prog 23 #[.agg (stC seq v)] W (TwoInt W ((M.length : Int), 0)) from by have := Size_any seq v l W h; rw [m2] at this; exact this)
    have hDe := hd_ (fun W q (h : Rd W q M) => show Calls Try.prog 30 #[q] W (fun e w' => ∃ u, e = .returned (.tuple #[.agg (stC seq u), .int .i64 0]) ∧ w'.ownsRow W.heap.size 61 3 u l.length (rowsV l) ∧ Below W.heap.size W w' ∧ l.length ≤ 1048576) from by have := Decode_any q M W h (by omega); rw [m6] at this; exact this)
    have hPk := hd_ (fun W q (h : Rd W q M) => show Calls Try.prog 14 #[q] W (fun e w' => e = .returned (.tuple #[.int .i64 seq, .int .i64 (l.length : Int), .int .i64 0]) ∧ Below W.heap.size W w') from by have := P_Peek_any q M W h (by omega); unfold PeekRet at this; rw [m7, m8, m9] at this; exact this)
    have hRo := hd_ (fun W q (h : Rd W q M) => show Calls Try.prog 16 #[q] W (fun e w' => e = .returned (.int .i64 (l.length : Int)) ∧ Below W.heap.size W w') from by have := P_Room_any q M W h (by omega); rw [m10] at this; exact this)
    have hSa := hd_ (fun W u (h : Below W0.heap.size W0 W) (hu : RdR W u l) => same_any seq v u l W ((hRH.out.keep hB0.out).keep h) hu (by have := (chk_parts hc).1; omega))
    rw [hc] at hCk
    have hlv := HR.len
    have m3I : ¬ (M.length : Int) < 10 := by omega
    clear HR hl hc m1 m2 m3 m4 m5 m6 m7 m8 m9 m10
    go_enter Try.func10, Try.ntmps10
    go_upto_region 1 with fail
    rw [← hW0]
    clear hW0
    go_upto_region 3 with (first
      | (refine load_boxI ?hw 36 _ rfl w.heap.size 36 (stC seq v) _ rfl hb1.out Try.underlying36 rfl infoSt ?_; (case hw => first | rfl | simp [Region.wanted, yielded]))
      | (go_at_call 24; (with_reducible refine hCk.out.mono ?_); rintro e w1 ⟨rfl, HB1⟩))
    have hb1a := hd_ (hb1.out.keep HB1)
    have hEc := hd_ (hEn.out w1 ((hRH.out.keep hB0.out).keep HB1))
    go_upto_region 4 with (first
      | (refine load_boxI ?hw 36 _ rfl w.heap.size 36 (stC seq v) _ rfl hb1a.out Try.underlying36 rfl infoSt ?_; (case hw => first | rfl | simp [Region.wanted, yielded]))
      | (go_at_call 22; (with_reducible refine hEc.out.mono ?_); rintro e w2 ⟨q, rfl, ⟨HN, _⟩, HB2⟩))
    have HB02 := hd_ (bel_trans HB1 HB2)
    have hb1b := hd_ (hb1a.out.keep HB2)
    have hSc := hd_ (hSz.out w2 ((hRH.out.keep hB0.out).keep HB02.out))
    have hlq := HN.rd.2.len (P := Try.prog) 22 5 3 Try.underlying22
    have hN2 := hd_ (fun W (h : Below w2.heap.size w2 W) => (HN.keep h).rd)
    clear HB1 HB2 hEc hCk hEn hSz hb1a HN
    go_upto_region 7 with (first
      | (refine load_boxI ?hw 36 _ rfl w.heap.size 36 (stC seq v) _ rfl hb1b.out Try.underlying36 rfl infoSt ?_; (case hw => first | rfl | simp [Region.wanted, yielded]))
      | (go_at_call 23; (with_reducible refine hSc.out.mono ?_); rintro e w3 ⟨rfl, HB3⟩))
    have hb1c := hd_ (hb1b.out.keep HB3)
    have HB03 := hd_ (bel_trans HB02.out HB3)
    have hDc := hd_ (hDe.out w3 q (hN2.out w3 HB3))
    have HB23 := hd_ HB3
    clear HB3 hSc hb1b HB02 hDe
    go_upto_region 8 with (first
      | (go_at_call 30; (with_reducible refine hDc.out.mono ?_); rintro e w4 ⟨u, rfl, HO, HB4, hll⟩; obtain ⟨Au, cu, hu, _⟩ := (rdr_of (l := l) HO rfl).form; subst hu)
      | (refine store_box rfl 36 _ _ rfl _ _ _ (stC seq (.slice Au l.length cu)) rfl rfl (Box.new _ _ _) infoSt rfl (stC_one _ _ _ _) ?_; intro w5 hb7 hg5))
    have HB5 := below_row (al1 (Below.refl w4.heap.size w4) _) hg5 (Nat.le_refl _) (size_al _ _)
    have hO := hd_ (row_keep HO HB5)
    have HB35 := bel_trans HB4 HB5
    have HB05 := hd_ (bel_trans HB03.out HB35)
    have hb1d := hd_ (hb1c.out.keep HB35)
    have HB25 := hd_ (bel_trans HB23.out HB35)
    have hb7 := hd_ hb7
    have hPc := hd_ (hPk.out w5 q (hN2.out w5 HB25.out))
    try simp only [Act.put]
    clear HB4 HB5 HO HB35 hg5 hDc hPk HB23 HB03 hb1c
    generalize Value.slice Au l.length cu = u at *
    generalize w4.heap.size = g7 at *
    go_upto_region 9 with (go_at_call 14; (with_reducible refine hPc.out.mono ?_); rintro e w6 ⟨rfl, HB6⟩)
    have HB06 := hd_ (bel_trans HB05.out HB6)
    have hb1e := hd_ (hb1d.out.keep HB6)
    have hb7e := hd_ (hb7.out.keep HB6)
    have HB26 := hd_ (bel_trans HB25.out HB6)
    have hSc := hd_ (hSa.out w6 u HB06.out ((rdr_of hO.out rfl).keep HB6))
    clear HB6 HB05 hb1d hb7 HB25 hSa hPc
    go_wp2_with (first
      | (refine load_boxI ?hw 36 _ rfl w.heap.size 36 (stC seq v) _ rfl hb1e.out Try.underlying36 rfl infoSt ?_; (case hw => first | rfl | simp [Region.wanted, yielded]))
      | (refine load_boxI ?hw 36 _ rfl g7 36 (stC seq u) _ rfl hb7e.out Try.underlying36 rfl infoSt ?_; (case hw => first | rfl | simp [Region.wanted, yielded]))
      | (go_at_call 32; (with_reducible refine hSc.out.mono ?_); rintro e w7 ⟨rfl, HB7⟩; have q0 := cell_keep HB7 (hb1e.out.cell 0 (v := .int .i64 seq) rfl); have q1 := cell_keep HB7 (hb1e.out.cell 1 (v := v) rfl); have hRc := hd_ (hRo.out w7 q (hN2.out w7 (bel_trans HB26.out HB7))))
      | (go_at_call 16; (with_reducible refine hRc.out.mono ?_); rintro e w8 ⟨rfl, HB8⟩))
    go_ret
    exact ⟨rfl, hB0.out.trans ((bel_trans (bel_trans HB06.out HB7) HB8).mono hB0.out.size)⟩
  · have hXk := hd_ (fun W (h : RdR W v l) => rCheck_any seq v l W h)
    generalize chkA seq l = c at *
    clear HR hl
    go_enter Try.func10, Try.ntmps10
    go_upto_region 1 with fail
    rw [← hW0]
    clear hW0
    go_upto_region 2 with (first
      | (refine load_boxI ?hw 36 _ rfl w.heap.size 36 (stC seq v) _ rfl hb1.out Try.underlying36 rfl infoSt ?_; (case hw => first | rfl | simp [Region.wanted, yielded]))
      | (go_at_call 24; (with_reducible refine hCk.out.mono ?_); rintro e w1 ⟨rfl, HB1⟩))
    have hb1a := hd_ (hb1.out.keep HB1)
    have hXc := hd_ (hXk.out w1 ((hRH.out.keep hB0.out).keep HB1))
    go_wp2_with (first
      | (refine load_boxI ?hw 36 _ rfl w.heap.size 36 (stC seq v) _ rfl hb1a.out Try.underlying36 rfl infoSt ?_; (case hw => first | rfl | simp [Region.wanted, yielded]))
      | (go_at_call 33; (with_reducible refine hXc.out.mono ?_); rintro e w2 ⟨rfl, HB2⟩))
    go_ret
    exact ⟨rfl, hB0.out.trans ((bel_trans HB1 HB2).mono hB0.out.size)⟩
def bitAt (l : List Int) (a : Nat) : Bool := (byteW (l.getD (a / 8) 0)).getLsbD (a % 8)
theorem getD_set {l : List Int} {i j : Nat} {x : Int} (hi : i < l.length) : (l.set i x).getD j 0 = if i = j then x else l.getD j 0 := by
  rw [List.getD_eq_getElem?_getD, List.getD_eq_getElem?_getD, List.getElem?_set]
  split
  · simp [*]
  · rfl
theorem bytes_at {l : List Int} (h : IsBytes l) (j : Nat) : 0 ≤ l.getD j 0 ∧ l.getD j 0 < 256 := by
  by_cases hj : j < l.length
  · rw [List.getD_eq_getElem?_getD, List.getElem?_eq_getElem hj, Option.getD_some]
    exact h _ (List.getElem_mem hj)
  · rw [List.getD_eq_getElem?_getD, List.getElem?_eq_none (by omega)]
    exact ⟨by decide, by decide⟩
theorem bitAt_turn {l : List Int} (h : IsBytes l) {a : Nat} (ha : a < 8 * l.length) (b : Nat) : bitAt (turn l a) b = (bitAt l b ^^ decide (a = b)) := by
  have hi : a / 8 < l.length := by omega
  unfold bitAt turn
  rw [getD_set hi]
  obtain ⟨h0, h1⟩ := bytes_at h (a / 8)
  by_cases e : a / 8 = b / 8
  · rw [if_pos e, byteW_turn h0 h1 (Nat.mod_lt _ (by decide)), BitVec.getLsbD_xor, BitVec.getLsbD_twoPow, ← e]
    congr 1
    have : (a = b) ↔ a % 8 = b % 8 := by omega
    simp only [this]
    by_cases h : a % 8 = b % 8 <;> simp [h]
    omega
  · rw [if_neg e, show decide (a = b) = false from decide_eq_false (by omega), Bool.xor_false]
/-- the text with these bits turned -/
def turns (l : List Int) : List Nat → List Int
  | [] => l
  | a :: s => turn (turns l s) a
theorem turns_length (l : List Int) : ∀ s, (turns l s).length = l.length
  | [] => rfl
  | a :: s => by rw [turns, turn_length, turns_length l s]
theorem turns_bytes {l : List Int} (h : IsBytes l) : ∀ {s : List Nat}, (∀ a ∈ s, a < 8 * l.length) → IsBytes (turns l s)
  | [], _ => h
  | a :: s, hs => turn_bytes (turns_bytes h fun b hb => hs b (List.mem_cons_of_mem _ hb)) (by rw [turns_length]; exact hs a (List.mem_cons_self ..))
theorem bitAt_turns {l : List Int} (h : IsBytes l) : ∀ {s : List Nat}, (∀ a ∈ s, a < 8 * l.length) → s.Nodup → ∀ b, bitAt (turns l s) b = (bitAt l b ^^ decide (b ∈ s))
  | [], _, _, b => by simp [turns]
  | a :: s, hs, hn, b => by
    have hs' : ∀ b ∈ s, b < 8 * l.length := fun b hb => hs b (List.mem_cons_of_mem _ hb)
    obtain ⟨hn1, hn2⟩ := List.nodup_cons.1 hn
    rw [turns, bitAt_turn (turns_bytes h hs') (by rw [turns_length]; exact hs a (List.mem_cons_self ..)), bitAt_turns h hs' hn2 b, Bool.xor_assoc]
    congr 1
    by_cases e : a = b
    · subst e; simp [hn1]
    · have e' : ¬ b = a := fun h => e h.symm
      simp [e, e']
def diffW (n : Nat) : List Nat → W32
  | [] => 0#32
  | a :: s => diffW n s ^^^ upn (8 * n - a) one1
theorem run_turns (r : W32) {l : List Int} (h : IsBytes l) : ∀ {s : List Nat}, (∀ a ∈ s, a < 8 * l.length) → run r (turns l s) = run r l ^^^ diffW l.length s
  | [], _ => by rw [turns, diffW, BitVec.xor_zero]
  | a :: s, hs => by
    have hs' : ∀ b ∈ s, b < 8 * l.length := fun b hb => hs b (List.mem_cons_of_mem _ hb)
    rw [turns, run_turn r (turns_bytes h hs') (by rw [turns_length]; exact hs a (List.mem_cons_self ..)), run_turns r h hs', turns_length, diffW, BitVec.xor_assoc]
/-- one, two or three places: the sums differ -/
theorem diffW_ne {n : Nat} (hn : n ≤ 134217728) {s : List Nat} (hs : ∀ a ∈ s, a < 8 * n) (hd : s.Nodup) (h0 : s ≠ []) (h3 : s.length ≤ 3) : diffW n s ≠ 0#32 := by
  have e : ord = 2147483647 := rfl
  match s, hs, hd, h0, h3 with
  | [a], hs, _, _, _ =>
    simp only [diffW, BitVec.zero_xor]
    exact upn_one_ne _
  | [a, b], hs, hd, _, _ =>
    have ha := hs a (by simp)
    have hb := hs b (by simp)
    have hab : a ≠ b := by simpa using hd
    simp only [diffW, BitVec.zero_xor]
    exact upn_two_ne' (by omega) (by omega) (by omega)
  | [a, b, c], hs, hd, _, _ =>
    simp only [diffW, BitVec.zero_xor]
    exact upn_three_ne _ _ _
/-! ### the bits of a list of places, each modulo how many there are; a place that stands twice is turned once -/
def places (n : Nat) : List Nat → List Nat → List Nat
  | s, [] => s
  | s, b :: bs => places n (if b % (8 * n) ∈ s then s else b % (8 * n) :: s) bs
theorem places_ok {n : Nat} (hn : 0 < n) : ∀ (bs : List Nat) {s : List Nat}, (∀ a ∈ s, a < 8 * n) → s.Nodup → (∀ a ∈ places n s bs, a < 8 * n) ∧ (places n s bs).Nodup ∧ (places n s bs).length ≤ s.length + bs.length ∧ s.length ≤ (places n s bs).length
  | [], s, h1, h2 => ⟨h1, h2, by simp [places], by simp [places]⟩
  | b :: bs, s, h1, h2 => by
    have hb : b % (8 * n) < 8 * n := Nat.mod_lt _ (by omega)
    rw [places]
    by_cases e : b % (8 * n) ∈ s
    · rw [if_pos e]
      obtain ⟨k1, k2, k3, k4⟩ := places_ok hn bs h1 h2
      exact ⟨k1, k2, by rw [List.length_cons]; omega, k4⟩
    · rw [if_neg e]
      obtain ⟨k1, k2, k3, k4⟩ := places_ok hn bs (s := b % (8 * n) :: s) (fun a ha => by rcases List.mem_cons.1 ha with h | h; (subst h; exact hb); exact h1 a h) (List.nodup_cons.2 ⟨e, h2⟩)
      exact ⟨k1, k2, by rw [List.length_cons] at k3 ⊢; omega, by rw [List.length_cons] at k4; omega⟩
/-! ### a run of bits -/
theorem upn_two (k : Nat) : ∀ i, i < 32 → i = k → upn k (BitVec.twoPow 32 i) = one1 := by
  induction k with
  | zero => intro i _ h; subst h; decide
  | succ k ih =>
    intro i hi h
    subst h
    rw [show k + 1 = k + 1 from rfl, upn_add k 1]
    show upn k (up (BitVec.twoPow 32 (k + 1))) = one1
    rw [up_twoPow (k + 1) hi (by omega)]
    exact ih k (by omega) (by omega)
/-- the low k bits of a word -/
def lowW (x : W32) : Nat → W32
  | 0 => 0#32
  | k + 1 => lowW x k ^^^ (if x.getLsbD k then BitVec.twoPow 32 k else 0#32)
theorem lowW_bit (x : W32) (k : Nat) : ∀ i, i < 32 → (lowW x k).getLsbD i = (decide (i < k) && x.getLsbD i) := by
  induction k with
  | zero => intro i hi; simp [lowW]
  | succ k ih =>
    intro i hi
    rw [lowW, BitVec.getLsbD_xor, ih i hi]
    by_cases e : i = k
    · subst e
      cases h : x.getLsbD i <;> simp [hi]
    · have e2 : decide (i < k + 1) = decide (i < k) := by rw [decide_eq_decide]; omega
      have e3 : ¬ k = i := fun h => e h.symm
      rw [e2]
      cases h : x.getLsbD k <;> simp [BitVec.getLsbD_twoPow, e3]
def anyW (x : W32) : Nat → Bool
  | 0 => false
  | k + 1 => anyW x k || x.getLsbD k
theorem anyW_mem (x : W32) : ∀ k, anyW x k = true → ∃ i, i < k ∧ x.getLsbD i = true
  | 0, h => by simp [anyW] at h
  | k + 1, h => by
    rw [anyW, Bool.or_eq_true] at h
    rcases h with h | h
    · obtain ⟨i, hi, h2⟩ := anyW_mem x k h
      exact ⟨i, by omega, h2⟩
    · exact ⟨k, by omega, h⟩
theorem lowW_ne {x : W32} {k : Nat} (hk : k ≤ 32) (h : anyW x k = true) : lowW x k ≠ 0#32 := by
  intro h0
  obtain ⟨i, hi, h2⟩ := anyW_mem x k h
  have := lowW_bit x k i (by omega)
  rw [h0, h2] at this
  simp [hi] at this
/-- the places of a run: from 'f' on, as the word says, k of them looked at -/
def runPlaces (f : Nat) (x : W32) : Nat → List Nat
  | 0 => []
  | k + 1 => if x.getLsbD k then (f + k) :: runPlaces f x k else runPlaces f x k
theorem runPlaces_lt (f : Nat) (x : W32) : ∀ k, ∀ a ∈ runPlaces f x k, f ≤ a ∧ a < f + k
  | 0, a, h => by simp [runPlaces] at h
  | k + 1, a, h => by
    rw [runPlaces] at h
    split at h
    · rcases List.mem_cons.1 h with rfl | h
      · omega
      · have := runPlaces_lt f x k a h; omega
    · have := runPlaces_lt f x k a h; omega
theorem runPlaces_nodup (f : Nat) (x : W32) : ∀ k, (runPlaces f x k).Nodup
  | 0 => by simp [runPlaces]
  | k + 1 => by
    rw [runPlaces]
    split
    · exact List.nodup_cons.2 ⟨fun h => by have := runPlaces_lt f x k _ h; omega, runPlaces_nodup f x k⟩
    · exact runPlaces_nodup f x k
theorem runPlaces_any (f : Nat) (x : W32) : ∀ k, (runPlaces f x k).isEmpty = !anyW x k
  | 0 => rfl
  | k + 1 => by
    rw [runPlaces, anyW]
    cases h : x.getLsbD k
    · simp [runPlaces_any f x k]
    · simp
theorem diffW_run {n f : Nat} (x : W32) : ∀ k, k ≤ 32 → f + k ≤ 8 * n → diffW n (runPlaces f x k) = upn (8 * n - f) (lowW x k)
  | 0, _, _ => by rw [runPlaces, diffW, lowW, upn_zero_right]
  | k + 1, hk, hf => by
    have ih := diffW_run (n := n) (f := f) x k (by omega) (by omega)
    rw [runPlaces, lowW, upn_xor, ← ih]
    split
    · rw [diffW]
      congr 1
      rw [← upn_two k k (by omega) rfl, ← upn_add]
      congr 1
      omega
    · rw [upn_zero_right, BitVec.xor_zero]
theorem diffW_run_ne {n f : Nat} {x : W32} {k : Nat} (hk : k ≤ 32) (hf : f + k ≤ 8 * n) (h : anyW x k = true) : diffW n (runPlaces f x k) ≠ 0#32 := by
  rw [diffW_run x k hk hf]
  intro h0
  exact lowW_ne hk h (upn_eq_zero h0)
theorem frame_holds_run {l : List Int} (h : holdsB l = true) : run ones l = upn 32 ones := by
  unfold holdsB at h
  rw [Bool.and_eq_true, decide_eq_true_iff, decide_eq_true_iff] at h
  obtain ⟨h1, h2⟩ := h
  conv => lhs; rw [← List.take_append_drop (l.length - 4) l]
  rw [run_append, ← h2, run_B4]
  unfold sumW
  rw [← BitVec.xor_assoc, BitVec.xor_self, BitVec.zero_xor]
theorem frame_holds_turns {l : List Int} (h : IsBytes l) (hh : holdsB l = true) {s : List Nat} (hs : ∀ a ∈ s, a < 8 * l.length) (hd : diffW l.length s ≠ 0#32) : holdsB (turns l s) = false := by
  cases h2 : holdsB (turns l s)
  · rfl
  · exfalso
    have e1 := frame_holds_run hh
    have e2 := frame_holds_run h2
    rw [run_turns ones h hs, e1] at e2
    have e3 := congrArg (upn 32 ones ^^^ ·) e2
    simp only [← BitVec.xor_assoc, BitVec.xor_self, BitVec.zero_xor] at e3
    exact hd e3
theorem turnB_comm {x : Int} (i j : Nat) : turnB (turnB x i) j = turnB (turnB x j) i := by
  unfold turnB
  rw [Int.toNat_natCast, Int.toNat_natCast, Nat.xor_assoc, Nat.xor_assoc, Nat.xor_comm (2 ^ i)]
theorem turn_comm {l : List Int} {a b : Nat} (ha : a < 8 * l.length) (hb : b < 8 * l.length) : turn (turn l a) b = turn (turn l b) a := by
  unfold turn
  by_cases h : a / 8 = b / 8
  · rw [h, List.set_set, List.set_set, getD_set (by omega), getD_set (by omega), if_pos rfl, if_pos rfl, turnB_comm]
  · rw [getD_set (by omega), getD_set (by omega), if_neg h, if_neg (fun e => h e.symm), List.set_comm _ _ h]
theorem turns_erase {l : List Int} (hl : IsBytes l) {a : Nat} : ∀ {s : List Nat}, (∀ b ∈ s, b < 8 * l.length) → a ∈ s → turn (turns l s) a = turns l (s.erase a)
  | [], _, h => absurd h (by simp)
  | x :: s, hs, h => by
    have hs' : ∀ b ∈ s, b < 8 * l.length := fun b hb => hs b (List.mem_cons_of_mem _ hb)
    have hx := hs x (List.mem_cons_self ..)
    by_cases e : x = a
    · subst e
      rw [List.erase_cons_head, turns, turn_turn_same _ (turns_bytes hl hs') _ (by rw [turns_length]; exact hx)]
    · have ha : a ∈ s := by
        rcases List.mem_cons.1 h with h | h
        · exact absurd h.symm e
        · exact h
      rw [List.erase_cons_tail (by simpa using e), turns, turns, turn_comm (by rw [turns_length]; exact hx) (by rw [turns_length]; exact hs' a ha), turns_erase hl hs' ha]
/-- a place more: turned, or turned back -/
def tog (s : List Nat) (a : Nat) : List Nat := if a ∈ s then s.erase a else a :: s
theorem tog_turns {l : List Int} (hl : IsBytes l) {s : List Nat} (hs : ∀ b ∈ s, b < 8 * l.length) (a : Nat) : turns l (tog s a) = turn (turns l s) a := by
  unfold tog
  by_cases h : a ∈ s
  · rw [if_pos h, turns_erase hl hs h]
  · rw [if_neg h]; rfl
theorem tog_ok {n : Nat} {s : List Nat} {a : Nat} (hs : ∀ b ∈ s, b < n) (hn : s.Nodup) (ha : a < n) : (∀ b ∈ tog s a, b < n) ∧ (tog s a).Nodup ∧ (tog s a).length ≤ s.length + 1 := by
  unfold tog
  by_cases h : a ∈ s
  · rw [if_pos h]
    exact ⟨fun b hb => hs b (List.mem_of_mem_erase hb), hn.erase a, by rw [List.length_erase_of_mem h]; omega⟩
  · rw [if_neg h]
    exact ⟨fun b hb => (List.mem_cons.1 hb).elim (fun e => e ▸ ha) (hs b), List.nodup_cons.2 ⟨h, hn⟩, by simp⟩
theorem anyW_of (f : Nat) (x : W32) (k : Nat) (h : runPlaces f x k ≠ []) : anyW x k = true := by
  have := runPlaces_any f x k
  cases h2 : anyW x k
  · rw [h2] at this
    exact absurd (by simpa using this) h
  · rfl
theorem frame_xor_turn {x : Int} (h0 : 0 ≤ x) (h1 : x < 256) {j : Nat} (hj : j < 8) : bits .xor .u8 x ((2 : Int) ^ j % 256) = turnB x j := by
  obtain ⟨n, rfl⟩ := Int.eq_ofNat_of_zero_le h0
  have hp : 2 ^ j < 2 ^ 8 := Nat.pow_lt_pow_right (by decide) hj
  have e : ((2 : Int) ^ j % 256) = ((2 ^ j : Nat) : Int) := (by decide : ∀ j : Nat, j < 8 → ((2 : Int) ^ j % 256) = ((2 ^ j : Nat) : Int)) j hj
  have hn : n < 2 ^ 8 := by omega
  have hx : n ^^^ 2 ^ j < 2 ^ 8 := Nat.xor_lt_two_pow hn hp
  rw [e]
  unfold turnB
  show IntKind.u8.wrap ((((BitVec.ofInt 8 (n : Int)) ^^^ (BitVec.ofInt 8 ((2 ^ j : Nat) : Int))).toNat : Nat) : Int) = _
  rw [BitVec.ofInt_natCast, BitVec.ofInt_natCast, BitVec.toNat_xor, BitVec.toNat_ofNat, BitVec.toNat_ofNat, Nat.mod_eq_of_lt hn, Nat.mod_eq_of_lt hp, Int.toNat_natCast, IntKind.wrap_u8']
  omega
theorem turned_bad {M : List Int} (hB : IsBytes M) (hh : holdsB M = true) (hl : M.length ≤ 268435456) {s : List Nat} (hs : ∀ a ∈ s, a < 8 * M.length) (hd : diffW M.length s ≠ 0#32) : (decA (turns M s)).1 ≠ 0 := by
  have h1 := frame_holds_turns hB hh hs hd
  unfold decA
  rw [if_neg (show ¬ 268435456 < (turns M s).length from by rw [turns_length]; omega)]
  split
  · decide
  · first | decide | (rw [h1, if_pos rfl]; decide)
theorem flipsI {M : List Int} (hB : IsBytes M) (hh : holdsB M = true) (hl : M.length ≤ 134217728) {s : List Nat} (hs : ∀ a ∈ s, a < 8 * M.length) (hn : s.Nodup) (h3 : s.length ≤ 3) (hne : turns M s ≠ M) : (decA (turns M s)).1 ≠ 0 :=
  turned_bad hB hh (by omega) hs (diffW_ne hl hs hn (fun h => hne (by rw [h]; rfl)) h3)
theorem runsI {M : List Int} (hB : IsBytes M) (hh : holdsB M = true) (hl : M.length ≤ 134217728) {f : Nat} {x : W32} {m : Nat} (hm : m ≤ 32) (hf : f + m ≤ 8 * M.length) (hne : turns M (runPlaces f x m) ≠ M) : (decA (turns M (runPlaces f x m))).1 ≠ 0 := by
  have hne' : runPlaces f x m ≠ [] := fun h => hne (by rw [h]; rfl)
  exact turned_bad hB hh (by omega) (fun a ha => by have := runPlaces_lt f x m a ha; omega) (diffW_run_ne hm hf (anyW_of f x m hne'))
/-- a number brought below n -/
def plcN (k : Int) (n : Nat) : Nat := (if k.tmod n < 0 then k.tmod n + n else k.tmod n).toNat
theorem plc_lt (k : Int) {n : Nat} (hn : 0 < n) : plcN k n < n ∧ (plcN k n : Int) = if k.tmod n < 0 then k.tmod n + n else k.tmod n := by
  have h1 := Int.tmod_lt_of_pos k (show (0 : Int) < n by omega)
  have h2 := Int.lt_tmod_of_pos k (show (0 : Int) < n by omega)
  unfold plcN
  split <;> omega
set_option maxHeartbeats 1000000 in
theorem place_any (k : Int) (n : Nat) (h0 : -9223372036854775808 ≤ k) (h1 : k ≤ 9223372036854775807) (hn : 0 < n) (hn2 : n ≤ 9000000000000) (w : World) :
    Calls Try.prog 35 #[.int .i64 k, .int .i64 (n : Int)] w fun e w' => e = .returned (.int .i64 (plcN k n : Int)) ∧ w = w' := by
  obtain ⟨p1, p2⟩ := plc_lt k hn
  have b1 := Int.tmod_lt_of_pos k (show (0 : Int) < n by omega)
  have b2 := Int.lt_tmod_of_pos k (show (0 : Int) < n by omega)
  have hn0 : ¬ (n : Int) = 0 := by omega
  have hw : IntKind.i64.wrap (k.tmod n) = k.tmod n := by rw [IntKind.wrap_i64]; omega
  by_cases hlt : k.tmod n < 0
  · rw [if_pos hlt] at p2
    rw [p2]
    have hw2 := hd_ (show wrap64 (k.tmod n + n) = k.tmod n + n from by unfold wrap64; omega)
    clear p2 p1 b1 b2
    go_enter Try.func35, Try.ntmps35
    go_wp2
    go_ret
    refine ⟨?_, rfl⟩
    show Ending.returned (.int .i64 (wrap64 (k.tmod n + n))) = _
    rw [hw2.out]
  · rw [if_neg hlt] at p2
    rw [p2]
    clear p2 p1 b1 b2
    go_enter Try.func35, Try.ntmps35
    go_wp2
    go_ret
    exact ⟨rfl, rfl⟩
theorem OwnF.cellI {W : World} {base g n cap : Nat} {xs : List Int} (h : OwnF W base (.slice (some ⟨g, 0, none⟩) n cap) xs) (j : Nat) (hj : j < xs.length) : W.cell? ⟨g, j, none⟩ = some (.int .u8 (xs.getD j 0)) ∧ W.frozen? ⟨g, j, none⟩ = false := by
  obtain ⟨hb, g', cap', hv, k1, k2, k3, k4, k5, k6, k7⟩ := h
  injection hv with e1 e2 e3
  injection e1 with e1
  injection e1 with e1
  subst e1
  exact ⟨k5 j hj, k7 j (by omega)⟩
theorem put_I {W w5 : World} {g cap : Nat} {M : List Int} {s : List Nat} (h : OwnF W w5.heap.size (.slice (some ⟨g, 0, none⟩) M.length cap) (turns M s)) (hb : Below w5.heap.size w5 W) (j : Nat) (hj : j < M.length) (b : Int) (h0 : 0 ≤ b) (h1 : b < 256) :
    OwnF (W.setCell ⟨g, j, none⟩ (.int .u8 b)) w5.heap.size (.slice (some ⟨g, 0, none⟩) M.length cap) ((turns M s).set j b) ∧ Below w5.heap.size w5 (W.setCell ⟨g, j, none⟩ (.int .u8 b)) :=
  ⟨h.put j (by rw [turns_length]; exact hj) b h0 h1, (chg_put W g j (.int .u8 b)).then hb (fun k hk => by rw [hk]; exact (h.lt g rfl).1) hb.size⟩
theorem place_anyI (k : Int) (n : Nat) (N : Int) (hN : N = (n : Int)) (hk : (Lit.int .i64 k).wf = true) (hn : 0 < n) (hn2 : n ≤ 9000000000000) (w : World) :
    Calls Try.prog 35 #[.int .i64 k, .int .i64 N] w fun e w' => ∃ K : Nat, e = .returned (.int .i64 (K : Int)) ∧ K < n ∧ w = w' := by
  subst hN
  obtain ⟨h0, h1⟩ := wf_i64 hk
  exact (place_any k n h0 h1 hn hn2 w).mono (fun e w' h => ⟨_, h.1, (plc_lt k hn).1, h.2⟩)
theorem holds_of_dec {M : List Int} {s : Int} {l : List RowT} (h : decA M = (0, s, l)) : holdsB M = true := by
  unfold decA at h
  split at h
  · injection h with h; cases h
  split at h
  · injection h with h; cases h
  cases h3 : holdsB M with
  | false => rw [h3, if_pos rfl] at h; injection h with h; cases h
  | true => rfl
abbrev TuT := Int × Int × List Int × Unit
abbrev RTu := RAnd 0 1 (RInt .i64) (RAnd 1 1 (RInt .u32) (RAnd 2 1 (RSl 1 8 (RInt .i64)) RNil))
theorem ints_in : ∀ (qs : List Int) (vs : List Value), vs.length = qs.length → (∀ j (h : j < qs.length), (vs.drop j).take 1 = [.int .i64 (qs[j]'h)]) → vs = qs.map (Value.int .i64)
  | [], vs, h, _ => List.eq_nil_of_length_eq_zero (by simpa using h)
  | a :: qs, v :: vs, h, hb => by
    have h0 := hb 0 (by simp)
    simp at h0
    rw [List.map_cons, ← ints_in qs vs (by simpa using h) (fun j hj => by have := hb (j + 1) (by simpa using hj); simpa using this), h0]
theorem turn_in {w : World} {cs : Array Value} {x : TuT} (hs : cs.size = 3) (r : RTu w cs.toList x) : ∃ v, cs = #[.int .i64 x.1, .int .u32 x.2.1, v] ∧ RdC 1 w v x.2.2.1.length (x.2.2.1.map (Value.int .i64)) ∧ (Lit.int .i64 x.1).wf = true ∧ (Lit.int .u32 x.2.1).wf = true ∧ ∀ q ∈ x.2.2.1, (Lit.int .i64 q).wf = true := by
  obtain ⟨⟨h1, h2⟩, ⟨h5, h6⟩, ⟨v, vs, h3, hR, hl, hx⟩, _⟩ := r
  obtain ⟨l⟩ := cs
  match l, hs with
  | [c0, c1, c2], _ =>
    simp at h1 h3 h5
    have hxx : ∀ j (h : j < x.2.2.1.length), (vs.drop j).take 1 = [.int .i64 (x.2.2.1[j]'h)] ∧ (Lit.int .i64 (x.2.2.1[j]'h)).wf = true := fun j hj => by
      obtain ⟨a, ha, hl3, hr, hw⟩ := hx j hj
      rw [List.getElem?_eq_getElem hj] at ha
      injection ha with ha
      rw [Nat.mul_one] at hr
      rw [ha]
      exact ⟨hr, hw⟩
    have hvs := ints_in x.2.2.1 vs (by have := hR.1; omega) (fun j hj => (hxx j hj).1)
    refine ⟨v, by rw [h1, h3, h5], by rw [← hvs]; exact hR, h2, h6, fun q hq => ?_⟩
    obtain ⟨j, hj, rfl⟩ := List.getElem_of_mem hq
    exact (hxx j hj).2
set_option maxHeartbeats 16000000 in
theorem law_ImageFlips (w : World) (cs : Array Value) (hs : cs.size = 2) (x : StT) (r : RSt w cs.toList x) (cs2 : Array Value) (hs2 : cs2.size = 3) (x2 : TuT) (r2 : RTu w cs2.toList x2) :
    Calls Try.prog 8 #[.agg cs, .agg cs2] w fun e w' => e = .returned (.bool true) ∧ Below w.heap.size w w' := by
  obtain ⟨v, rfl, HR, hl, _, _⟩ := state_in hs r
  obtain ⟨mv, rfl, HM, hat, hmask, hms⟩ := turn_in hs2 r2
  obtain ⟨seq, qs, u9⟩ := x
  obtain ⟨at_, mask, ms, u8⟩ := x2
  simp only at HR hl HM hat hmask hms
  generalize qs.map rowT = l at *
  clear hs r hs2 r2
  have hHM := HM
  obtain ⟨m0, m1⟩ := wf_u32 hmask
  obtain ⟨xw, rfl⟩ := word_of m0 m1
  clear m0 m1 hmask
  obtain ⟨_, Am, cm, rfl, hm1, hm2, _, hm4⟩ := HM
  unfold maxLen at hm2
  have HM4 := hd_ hm4
  clear hm4 hHM
  have hRH := hd_ HR
  have hB0 := al1 (al1 (Below.refl w.heap.size w) (.cells (stC seq v) 36)) (.cells #[.int .i64 at_, .int .u32 (I xw), .slice Am ms.length cm] 64)
  have hb1 := (Box.new w (stC seq v) 36).keep (al1 (Below.refl _ _) (.cells #[.int .i64 at_, .int .u32 (I xw), .slice Am ms.length cm] 64))
  have hb2 := Box.new (w.alloc (.cells (stC seq v) 36)) #[.int .i64 at_, .int .u32 (I xw), .slice Am ms.length cm] 64
  obtain ⟨W0, hW0⟩ : ∃ W0, W0 = (w.alloc (.cells (stC seq v) 36)).alloc (.cells #[.int .i64 at_, .int .u32 (I xw), .slice Am ms.length cm] 64) := ⟨_, rfl⟩
  have hz : (w.alloc (.cells (stC seq v) 36)).heap.size = w.heap.size + 1 := by simp
  rw [hz] at hb2
  rw [← hW0] at hB0 hb1 hb2
  have c0 := hb2.cell 0 (v := .int .i64 at_) rfl
  have c1 := hb2.cell 1 (v := .int .u32 (I xw)) rfl
  have c2 := hb2.cell 2 (v := .slice Am ms.length cm) rfl
  have hB0 := hd_ hB0
  have hb1 := hd_ hb1
  have hXk := hd_ (fun W (h : RdR W v l) => rCheck_any seq v l W h)
  clear hb2 hz
  go_enter Try.func8, Try.ntmps8
  go_upto_region 1 with fail
  rw [← hW0]
  clear hW0
  go_quiet (fail)
  have HBq := below_drewN (Below.refl W0.heap.size W0) nq
  have hb1 := hd_ (hb1.out.keep HBq)
  have HB01 := hd_ (bel_trans hB0.out HBq)
  have hR1 := hd_ (hRH.out.keep HB01.out)
  clear c0 c1 c2 HBq hB0
  generalize W0.drewN nq = W1 at *
  have hXc := hd_ (hXk.out W1 hR1.out)
  by_cases hc : chkA seq l = 0
  · obtain ⟨M, m1, m2, m3, m4, m5, m6, _⟩ := dec_enc hc
    rw [hc] at hXc
    have hEn := hd_ (fun W (h : RdR W v l) => show Calls Try.prog 22 #[.agg (stC seq v)] W (ImRet W (0, M)) from by have := Encode_any seq v l W h; rw [m1] at this; exact this)
    have hBb := hd_ m5
    have hho := hd_ (holds_of_dec m6)
    have hDe := hd_ (fun W q C (h : Rd W q C) (hl : C.length = M.length) => Decode_any q C W h (by omega))
    have h10 : ¬ (M.length : Int) < 10 := by omega
    clear m1 m2 m5 m6 hc HR hl hXk
    go_upto_region 4 with (first
      | (refine load_boxI ?hw 36 _ rfl w.heap.size 36 (stC seq v) _ rfl hb1.out Try.underlying36 rfl infoSt ?_; (case hw => first | rfl | simp [Region.wanted, yielded]))
      | (go_at_call 33; (with_reducible refine hXc.out.mono ?_); rintro e w2 ⟨rfl, HB2⟩))
    have hb1b := hd_ (hb1.out.keep HB2)
    have hEc := hd_ (hEn.out w2 (hR1.out.keep HB2))
    go_upto_region 5 with (first
      | (refine load_boxI ?hw 36 _ rfl w.heap.size 36 (stC seq v) _ rfl hb1b.out Try.underlying36 rfl infoSt ?_; (case hw => first | rfl | simp [Region.wanted, yielded]))
      | (go_at_call 22; (with_reducible refine hEc.out.mono ?_); rintro e w5 ⟨q, rfl, ⟨HN, _⟩, HB5⟩))
    have hB05 := hd_ (bel_trans HB01.out (bel_trans HB2 HB5))
    have hlq := HN.rd.2.len (P := Try.prog) 22 5 3 Try.underlying22
    have hCo := hd_ (Copy_any q M w5 HN.rd)
    have hN := hd_ HN
    clear HN HB2 HB5 hEc hEn hXc hb1 hb1b hR1 HB01
    by_cases hbig : 134217728 < M.length
    · have hbI : (134217728 : Int) < (M.length : Int) := by omega
      go_wp2
      go_ret
      exact ⟨rfl, hB05.out⟩
    · have hbI : ¬ (134217728 : Int) < (M.length : Int) := by omega
      have hM27 : M.length ≤ 134217728 := by omega
      go_upto_region 9 with (go_at_call 34; (with_reducible refine hCo.out.mono ?_); rintro e w6 ⟨_, rfl, HF1, HB1⟩; obtain ⟨_, g, cap, rfl, _⟩ := id HF1)
      clear hCo
      by_cases h0 : 0 < ms.length
      · by_cases h3 : ms.length ≤ 3
        · have h0I : (0 : Int) < (ms.length : Int) := by omega
          have h3I : (ms.length : Int) ≤ 3 := by omega
          go_upto_region 11 with fail
          go_loopw [67] (fun vi wr => ∃ (k : Nat) (s : List Nat), k ≤ ms.length ∧ vi = .int .i64 k ∧ OwnF wr w5.heap.size (.slice (some ⟨g, 0, none⟩) M.length cap) (turns M s) ∧ Below w5.heap.size w5 wr ∧ s.length ≤ k ∧ Hid ((∀ a ∈ s, a < 8 * M.length) ∧ s.Nodup)) (fun i _ => ms.length - (intOf i).toNat)
          case atStart => exact ⟨0, [], by omega, rfl, HF1, HB1, Nat.le_refl _, hd_ ⟨fun a h => absurd h (by simp), List.nodup_nil⟩⟩
          case round =>
            clear HF1 HB1
            obtain ⟨k, s, hk, rfl, HF, HB, hsk, HS⟩ := hrel
            by_cases hlt : k < ms.length
            · obtain ⟨bm, om, rfl, hcm⟩ := HM4.out k (by rw [List.length_map]; exact hlt)
              have hcellm := cell_keep (bel_trans hB05.out HB) (hcm.trans (by rw [List.getElem?_map, List.getElem?_eq_getElem hlt]; rfl : _ = some (.int .i64 ms[k])))
              have hwf := hms ms[k] (List.getElem_mem hlt)
              clear hcm
              generalize ms[k] = mk at *
              have hlI : (k : Int) < (ms.length : Int) := by omega
              go_upto_region 14 with (go_at_call 35; refine (place_anyI mk (8 * M.length) _ (by omega) hwf (by omega) (by omega) _).mono ?_; rintro e w' ⟨K, rfl, hK, rfl⟩)
              obtain ⟨hs1, hs2⟩ := HS.out
              obtain ⟨t1, t2, t3⟩ := tog_ok hs1 hs2 hK
              have hT : turns M (tog s K) = (turns M s).set (K / 8) (turnB ((turns M s).getD (K / 8) 0) (K % 8)) := tog_turns hBb.out hs1 K
              have hq : K / 8 < M.length := by omega
              obtain ⟨hcell, hfz⟩ := HF.cellI (K / 8) (by rw [turns_length]; exact hq)
              obtain ⟨x0, x1⟩ := bytes_at (turns_bytes hBb.out hs1) (K / 8)
              have hj : K % 8 < 8 := Nat.mod_lt _ (by decide)
              have htb := turnB_range x0 x1 hj
              have hres := frame_xor_turn x0 x1 hj
              have e1 : IntKind.i64.wrap ((K : Int).tdiv 8) = ((K / 8 : Nat) : Int) := by rw [Int.tdiv_eq_ediv_of_nonneg (by omega), IntKind.wrap_i64]; omega
              have e2 : (K : Int).tmod 8 = ((K % 8 : Nat) : Int) := by rw [Int.tmod_eq_emod_of_nonneg (by omega)]; omega
              have hqI : ((K / 8 : Nat) : Int) < (M.length : Int) := by omega
              have hjI : ((K % 8 : Nat) : Int) < 8 := by omega
              obtain ⟨HP, HBP⟩ := put_I HF HB (K / 8) hq _ htb.1 htb.2
              rw [← hT] at HP
              have HT := hd_ (And.intro t1 (And.intro t2 t3))
              clear hT t1 t2 t3 hs1 hs2 HS hK HF
              generalize turnB ((turns M s).getD (K / 8) 0) (K % 8) = z at *
              generalize (turns M s).getD (K / 8) 0 = x at *
              go_region
              go_wp2
              go_roundw
              case rel => exact ⟨k + 1, tog s K, by omega, by go_num, HP.keep (Below.refl _ _).drew, HBP.drew, by have := HT.out.2.2; omega, hd_ ⟨HT.out.1, HT.out.2.1⟩⟩
              case measure => (simp [intOf]; try omega)
            · have hlI : ¬ (k : Int) < (ms.length : Int) := by omega
              obtain ⟨hs1, hs2⟩ := HS.out
              have hC := hd_ (fun h => flipsI hBb.out hho.out hM27 hs1 hs2 (by omega) (show turns M s ≠ M from h))
              clear hs1 hs2 HS
              have HFr := hd_ HF
              have hCd := hd_ (hDe.out wr _ _ HF.rd (by rw [turns_length]))
              have hRq := hd_ ((hN.out.keep HB).rd)
              have hBw := hd_ (bel_trans hB05.out HB)
              clear HF HB
              generalize turns M s = C at *
              obtain ⟨R, hR⟩ : ∃ R, R = decA C := ⟨_, rfl⟩
              rw [← hR] at hCd hC
              obtain ⟨E, s9, l9⟩ := R
              have hC : Hid (C ≠ M → E ≠ 0) := hC
              have hCd : Hid (Calls Try.prog 30 #[.slice (some ⟨g, 0, none⟩) M.length cap] wr (fun e w' => ∃ u, e = .returned (.tuple #[.agg (stC s9 u), .int .i64 E]) ∧ w'.ownsRow wr.heap.size 61 3 u l9.length (rowsV l9) ∧ Below wr.heap.size wr w' ∧ l9.length ≤ 1048576)) := hCd
              clear hR
              by_cases hE : E = 0
              · have hCM : C = M := Classical.byContradiction fun h => hC.out h hE
                subst hE
                go_wp2_with (first
                  | (go_at_call 30; (with_reducible refine hCd.out.mono ?_); rintro e w9 ⟨u, rfl, HO, HB9, _⟩; obtain ⟨Au, cu, hu, _⟩ := (rdr_of (l := l9) HO rfl).form; subst hu)
                  | (refine store_box rfl 36 _ _ rfl _ _ _ (stC s9 (.slice Au l9.length cu)) rfl rfl (Box.new _ _ _) infoSt rfl (stC_one _ _ _ _) ?_; intro w10 hb10 hg10; have HB10 := below_row (al1 (Below.refl w9.heap.size w9) _) hg10 (Nat.le_refl _) (size_al _ _); have hSc := Same_any q (.slice (some ⟨g, 0, none⟩) M.length cap) M C w10 (hRq.out.keep (bel_trans HB9 HB10)) ((HFr.out.keep (bel_trans HB9 HB10)).rd))
                  | (go_at_call 25; (with_reducible refine hSc.mono ?_); rintro e wz ⟨rfl, rfl⟩; rw [hCM, decide_eq_true rfl]))
                go_ret
                exact ⟨rfl, bel_trans hBw.out (bel_trans HB9 HB10)⟩
              · go_wp2_with (first
                  | (go_at_call 30; (with_reducible refine hCd.out.mono ?_); rintro e w9 ⟨u, rfl, HO, HB9, _⟩; obtain ⟨Au, cu, hu, _⟩ := (rdr_of (l := l9) HO rfl).form; subst hu)
                  | (refine store_box rfl 36 _ _ rfl _ _ _ (stC s9 (.slice Au l9.length cu)) rfl rfl (Box.new _ _ _) infoSt rfl (stC_one _ _ _ _) ?_; intro w10 hb10 hg10; have HB10 := below_row (al1 (Below.refl w9.heap.size w9) _) hg10 (Nat.le_refl _) (size_al _ _)))
                go_ret
                exact ⟨rfl, bel_trans hBw.out (bel_trans HB9 HB10)⟩
        · have h0I : (0 : Int) < (ms.length : Int) := by omega
          have h3I : ¬ (ms.length : Int) ≤ 3 := by omega
          go_upto_region 18 with (go_at_call 35; refine (place_anyI at_ (8 * M.length) _ (by omega) hat (by omega) (by omega) _).mono ?_; rintro e w' ⟨K, rfl, hK, rfl⟩)
          go_loopw [16] (fun vi wr => ∃ i : Nat, i ≤ 32 ∧ vi = .int .i64 i ∧ OwnF wr w5.heap.size (.slice (some ⟨g, 0, none⟩) M.length cap) (turns M (runPlaces K xw (min i (8 * M.length - K)))) ∧ Below w5.heap.size w5 wr) (fun i _ => 32 - (intOf i).toNat)
          case atStart => exact ⟨0, by omega, rfl, by rw [Nat.zero_min]; exact HF1, HB1⟩
          case round =>
            clear HF1 HB1
            obtain ⟨i, hi, rfl, HF, HB⟩ := hrel
            have hpl : ∀ b' ∈ runPlaces K xw (min i (8 * M.length - K)), b' < 8 * M.length := fun b' hb' => by have := runPlaces_lt K xw _ b' hb'; omega
            by_cases hlt : i < 32
            · have hiI : (i : Int) < 32 := by omega
              by_cases hin : K + i < 8 * M.length
              · have eM : min i (8 * M.length - K) = i := by omega
                have eM1 : min (i + 1) (8 * M.length - K) = i + 1 := by omega
                rw [eM] at HF hpl
                have hEM1 := hd_ eM1
                clear eM eM1
                have hbit := bitk_i (I_lo xw) (I_hi xw) i
                rw [b32_I] at hbit
                have d2 : (K : Int) + (i : Int) < 8 * (M.length : Int) := by omega
                cases hb : xw.getLsbD i
                · rw [hb] at hbit
                  go_wp2
                  go_roundw
                  case rel => exact ⟨i + 1, by omega, by go_num, by rw [hEM1.out, runPlaces, hb]; exact HF, HB⟩
                  case measure => (simp [intOf]; try omega)
                · rw [hb] at hbit
                  go_upto_region 21 with fail
                  have hT : (turns M (runPlaces K xw i)).set ((K + i) / 8) (turnB ((turns M (runPlaces K xw i)).getD ((K + i) / 8) 0) ((K + i) % 8)) = turns M ((K + i) :: runPlaces K xw i) := rfl
                  have hq : (K + i) / 8 < M.length := by omega
                  obtain ⟨hcell, hfz⟩ := HF.cellI ((K + i) / 8) (by rw [turns_length]; exact hq)
                  obtain ⟨x0, x1⟩ := bytes_at (turns_bytes hBb.out hpl) ((K + i) / 8)
                  have hj : (K + i) % 8 < 8 := Nat.mod_lt _ (by decide)
                  have htb := turnB_range x0 x1 hj
                  have hres := frame_xor_turn x0 x1 hj
                  obtain ⟨HP, HBP⟩ := put_I HF HB ((K + i) / 8) hq _ htb.1 htb.2
                  rw [hT] at HP
                  clear hT HF
                  have hqI : (((K + i) / 8 : Nat) : Int) < (M.length : Int) := by omega
                  generalize turnB ((turns M (runPlaces K xw i)).getD ((K + i) / 8) 0) ((K + i) % 8) = z at *
                  generalize (turns M (runPlaces K xw i)).getD ((K + i) / 8) 0 = x at *
                  obtain ⟨n, hn⟩ : ∃ n, K + i = n := ⟨_, rfl⟩
                  have e0 : IntKind.i64.wrap ((K : Int) + (i : Int)) = (n : Int) := by rw [IntKind.wrap_i64]; omega
                  have hn0 : (n : Int) < 8 * (M.length : Int) := by omega
                  have HN := hd_ hn
                  rw [hn] at hcell hfz hres HP HBP hq hj hqI
                  clear hn
                  go_region
                  go_wp2
                  go_roundw
                  case rel => exact ⟨i + 1, by omega, by go_num, by rw [hEM1.out, runPlaces, hb, if_pos rfl, HN.out]; exact HP.keep (Below.refl _ _).drew, HBP.drew⟩
                  case measure => (simp [intOf]; try omega)
              · have d2 : ¬ (K : Int) + (i : Int) < 8 * (M.length : Int) := by omega
                have hM1 : min i (8 * M.length - K) ≤ 32 := by omega
                have hM2 : K + min i (8 * M.length - K) ≤ 8 * M.length := by omega
                generalize min i (8 * M.length - K) = m at *
                have hC := hd_ (fun h => runsI hBb.out hho.out hM27 hM1 hM2 (show turns M (runPlaces K xw m) ≠ M from h))
                have HFr := hd_ HF
                have hCd := hd_ (hDe.out wr _ _ HF.rd (by rw [turns_length]))
                have hRq := hd_ ((hN.out.keep HB).rd)
                have hBw := hd_ (bel_trans hB05.out HB)
                clear HF HB
                generalize turns M (runPlaces K xw m) = C at *
                obtain ⟨R, hR⟩ : ∃ R, R = decA C := ⟨_, rfl⟩
                rw [← hR] at hCd hC
                obtain ⟨E, s9, l9⟩ := R
                have hC : Hid (C ≠ M → E ≠ 0) := hC
                have hCd : Hid (Calls Try.prog 30 #[.slice (some ⟨g, 0, none⟩) M.length cap] wr (fun e w' => ∃ u, e = .returned (.tuple #[.agg (stC s9 u), .int .i64 E]) ∧ w'.ownsRow wr.heap.size 61 3 u l9.length (rowsV l9) ∧ Below wr.heap.size wr w' ∧ l9.length ≤ 1048576)) := hCd
                clear hR
                by_cases hE : E = 0
                · have hCM : C = M := Classical.byContradiction fun h => hC.out h hE
                  subst hE
                  go_wp2_with (first
                    | (go_at_call 30; (with_reducible refine hCd.out.mono ?_); rintro e w9 ⟨u, rfl, HO, HB9, _⟩; obtain ⟨Au, cu, hu, _⟩ := (rdr_of (l := l9) HO rfl).form; subst hu)
                    | (refine store_box rfl 36 _ _ rfl _ _ _ (stC s9 (.slice Au l9.length cu)) rfl rfl (Box.new _ _ _) infoSt rfl (stC_one _ _ _ _) ?_; intro w10 hb10 hg10; have HB10 := below_row (al1 (Below.refl w9.heap.size w9) _) hg10 (Nat.le_refl _) (size_al _ _); have hSc := Same_any q (.slice (some ⟨g, 0, none⟩) M.length cap) M C w10 (hRq.out.keep (bel_trans HB9 HB10)) ((HFr.out.keep (bel_trans HB9 HB10)).rd))
                    | (go_at_call 25; (with_reducible refine hSc.mono ?_); rintro e wz ⟨rfl, rfl⟩; rw [hCM, decide_eq_true rfl]))
                  go_ret
                  exact ⟨rfl, bel_trans hBw.out (bel_trans HB9 HB10)⟩
                · go_wp2_with (first
                    | (go_at_call 30; (with_reducible refine hCd.out.mono ?_); rintro e w9 ⟨u, rfl, HO, HB9, _⟩; obtain ⟨Au, cu, hu, _⟩ := (rdr_of (l := l9) HO rfl).form; subst hu)
                    | (refine store_box rfl 36 _ _ rfl _ _ _ (stC s9 (.slice Au l9.length cu)) rfl rfl (Box.new _ _ _) infoSt rfl (stC_one _ _ _ _) ?_; intro w10 hb10 hg10; have HB10 := below_row (al1 (Below.refl w9.heap.size w9) _) hg10 (Nat.le_refl _) (size_al _ _)))
                  go_ret
                  exact ⟨rfl, bel_trans hBw.out (bel_trans HB9 HB10)⟩
            · obtain rfl : i = 32 := by omega
              have hM1 : min 32 (8 * M.length - K) ≤ 32 := by omega
              have hM2 : K + min 32 (8 * M.length - K) ≤ 8 * M.length := by omega
              generalize min 32 (8 * M.length - K) = m at *
              have hC := hd_ (fun h => runsI hBb.out hho.out hM27 hM1 hM2 (show turns M (runPlaces K xw m) ≠ M from h))
              have HFr := hd_ HF
              have hCd := hd_ (hDe.out wr _ _ HF.rd (by rw [turns_length]))
              have hRq := hd_ ((hN.out.keep HB).rd)
              have hBw := hd_ (bel_trans hB05.out HB)
              clear HF HB
              generalize turns M (runPlaces K xw m) = C at *
              obtain ⟨R, hR⟩ : ∃ R, R = decA C := ⟨_, rfl⟩
              rw [← hR] at hCd hC
              obtain ⟨E, s9, l9⟩ := R
              have hC : Hid (C ≠ M → E ≠ 0) := hC
              have hCd : Hid (Calls Try.prog 30 #[.slice (some ⟨g, 0, none⟩) M.length cap] wr (fun e w' => ∃ u, e = .returned (.tuple #[.agg (stC s9 u), .int .i64 E]) ∧ w'.ownsRow wr.heap.size 61 3 u l9.length (rowsV l9) ∧ Below wr.heap.size wr w' ∧ l9.length ≤ 1048576)) := hCd
              clear hR
              by_cases hE : E = 0
              · have hCM : C = M := Classical.byContradiction fun h => hC.out h hE
                subst hE
                go_wp2_with (first
                  | (go_at_call 30; (with_reducible refine hCd.out.mono ?_); rintro e w9 ⟨u, rfl, HO, HB9, _⟩; obtain ⟨Au, cu, hu, _⟩ := (rdr_of (l := l9) HO rfl).form; subst hu)
                  | (refine store_box rfl 36 _ _ rfl _ _ _ (stC s9 (.slice Au l9.length cu)) rfl rfl (Box.new _ _ _) infoSt rfl (stC_one _ _ _ _) ?_; intro w10 hb10 hg10; have HB10 := below_row (al1 (Below.refl w9.heap.size w9) _) hg10 (Nat.le_refl _) (size_al _ _); have hSc := Same_any q (.slice (some ⟨g, 0, none⟩) M.length cap) M C w10 (hRq.out.keep (bel_trans HB9 HB10)) ((HFr.out.keep (bel_trans HB9 HB10)).rd))
                  | (go_at_call 25; (with_reducible refine hSc.mono ?_); rintro e wz ⟨rfl, rfl⟩; rw [hCM, decide_eq_true rfl]))
                go_ret
                exact ⟨rfl, bel_trans hBw.out (bel_trans HB9 HB10)⟩
              · go_wp2_with (first
                  | (go_at_call 30; (with_reducible refine hCd.out.mono ?_); rintro e w9 ⟨u, rfl, HO, HB9, _⟩; obtain ⟨Au, cu, hu, _⟩ := (rdr_of (l := l9) HO rfl).form; subst hu)
                  | (refine store_box rfl 36 _ _ rfl _ _ _ (stC s9 (.slice Au l9.length cu)) rfl rfl (Box.new _ _ _) infoSt rfl (stC_one _ _ _ _) ?_; intro w10 hb10 hg10; have HB10 := below_row (al1 (Below.refl w9.heap.size w9) _) hg10 (Nat.le_refl _) (size_al _ _)))
                go_ret
                exact ⟨rfl, bel_trans hBw.out (bel_trans HB9 HB10)⟩
      · have h0I : ¬ (0 : Int) < (ms.length : Int) := by omega
        go_upto_region 18 with (go_at_call 35; refine (place_anyI at_ (8 * M.length) _ (by omega) hat (by omega) (by omega) _).mono ?_; rintro e w' ⟨K, rfl, hK, rfl⟩)
        go_loopw [16] (fun vi wr => ∃ i : Nat, i ≤ 32 ∧ vi = .int .i64 i ∧ OwnF wr w5.heap.size (.slice (some ⟨g, 0, none⟩) M.length cap) (turns M (runPlaces K xw (min i (8 * M.length - K)))) ∧ Below w5.heap.size w5 wr) (fun i _ => 32 - (intOf i).toNat)
        case atStart => exact ⟨0, by omega, rfl, by rw [Nat.zero_min]; exact HF1, HB1⟩
        case round =>
          clear HF1 HB1
          obtain ⟨i, hi, rfl, HF, HB⟩ := hrel
          have hpl : ∀ b' ∈ runPlaces K xw (min i (8 * M.length - K)), b' < 8 * M.length := fun b' hb' => by have := runPlaces_lt K xw _ b' hb'; omega
          by_cases hlt : i < 32
          · have hiI : (i : Int) < 32 := by omega
            by_cases hin : K + i < 8 * M.length
            · have eM : min i (8 * M.length - K) = i := by omega
              have eM1 : min (i + 1) (8 * M.length - K) = i + 1 := by omega
              rw [eM] at HF hpl
              have hEM1 := hd_ eM1
              clear eM eM1
              have hbit := bitk_i (I_lo xw) (I_hi xw) i
              rw [b32_I] at hbit
              have d2 : (K : Int) + (i : Int) < 8 * (M.length : Int) := by omega
              cases hb : xw.getLsbD i
              · rw [hb] at hbit
                go_wp2
                go_roundw
                case rel => exact ⟨i + 1, by omega, by go_num, by rw [hEM1.out, runPlaces, hb]; exact HF, HB⟩
                case measure => (simp [intOf]; try omega)
              · rw [hb] at hbit
                go_upto_region 21 with fail
                have hT : (turns M (runPlaces K xw i)).set ((K + i) / 8) (turnB ((turns M (runPlaces K xw i)).getD ((K + i) / 8) 0) ((K + i) % 8)) = turns M ((K + i) :: runPlaces K xw i) := rfl
                have hq : (K + i) / 8 < M.length := by omega
                obtain ⟨hcell, hfz⟩ := HF.cellI ((K + i) / 8) (by rw [turns_length]; exact hq)
                obtain ⟨x0, x1⟩ := bytes_at (turns_bytes hBb.out hpl) ((K + i) / 8)
                have hj : (K + i) % 8 < 8 := Nat.mod_lt _ (by decide)
                have htb := turnB_range x0 x1 hj
                have hres := frame_xor_turn x0 x1 hj
                obtain ⟨HP, HBP⟩ := put_I HF HB ((K + i) / 8) hq _ htb.1 htb.2
                rw [hT] at HP
                clear hT HF
                have hqI : (((K + i) / 8 : Nat) : Int) < (M.length : Int) := by omega
                generalize turnB ((turns M (runPlaces K xw i)).getD ((K + i) / 8) 0) ((K + i) % 8) = z at *
                generalize (turns M (runPlaces K xw i)).getD ((K + i) / 8) 0 = x at *
                obtain ⟨n, hn⟩ : ∃ n, K + i = n := ⟨_, rfl⟩
                have e0 : IntKind.i64.wrap ((K : Int) + (i : Int)) = (n : Int) := by rw [IntKind.wrap_i64]; omega
                have hn0 : (n : Int) < 8 * (M.length : Int) := by omega
                have HN := hd_ hn
                rw [hn] at hcell hfz hres HP HBP hq hj hqI
                clear hn
                go_region
                go_wp2
                go_roundw
                case rel => exact ⟨i + 1, by omega, by go_num, by rw [hEM1.out, runPlaces, hb, if_pos rfl, HN.out]; exact HP.keep (Below.refl _ _).drew, HBP.drew⟩
                case measure => (simp [intOf]; try omega)
            · have d2 : ¬ (K : Int) + (i : Int) < 8 * (M.length : Int) := by omega
              have hM1 : min i (8 * M.length - K) ≤ 32 := by omega
              have hM2 : K + min i (8 * M.length - K) ≤ 8 * M.length := by omega
              generalize min i (8 * M.length - K) = m at *
              have hC := hd_ (fun h => runsI hBb.out hho.out hM27 hM1 hM2 (show turns M (runPlaces K xw m) ≠ M from h))
              have HFr := hd_ HF
              have hCd := hd_ (hDe.out wr _ _ HF.rd (by rw [turns_length]))
              have hRq := hd_ ((hN.out.keep HB).rd)
              have hBw := hd_ (bel_trans hB05.out HB)
              clear HF HB
              generalize turns M (runPlaces K xw m) = C at *
              obtain ⟨R, hR⟩ : ∃ R, R = decA C := ⟨_, rfl⟩
              rw [← hR] at hCd hC
              obtain ⟨E, s9, l9⟩ := R
              have hC : Hid (C ≠ M → E ≠ 0) := hC
              have hCd : Hid (Calls Try.prog 30 #[.slice (some ⟨g, 0, none⟩) M.length cap] wr (fun e w' => ∃ u, e = .returned (.tuple #[.agg (stC s9 u), .int .i64 E]) ∧ w'.ownsRow wr.heap.size 61 3 u l9.length (rowsV l9) ∧ Below wr.heap.size wr w' ∧ l9.length ≤ 1048576)) := hCd
              clear hR
              by_cases hE : E = 0
              · have hCM : C = M := Classical.byContradiction fun h => hC.out h hE
                subst hE
                go_wp2_with (first
                  | (go_at_call 30; (with_reducible refine hCd.out.mono ?_); rintro e w9 ⟨u, rfl, HO, HB9, _⟩; obtain ⟨Au, cu, hu, _⟩ := (rdr_of (l := l9) HO rfl).form; subst hu)
                  | (refine store_box rfl 36 _ _ rfl _ _ _ (stC s9 (.slice Au l9.length cu)) rfl rfl (Box.new _ _ _) infoSt rfl (stC_one _ _ _ _) ?_; intro w10 hb10 hg10; have HB10 := below_row (al1 (Below.refl w9.heap.size w9) _) hg10 (Nat.le_refl _) (size_al _ _); have hSc := Same_any q (.slice (some ⟨g, 0, none⟩) M.length cap) M C w10 (hRq.out.keep (bel_trans HB9 HB10)) ((HFr.out.keep (bel_trans HB9 HB10)).rd))
                  | (go_at_call 25; (with_reducible refine hSc.mono ?_); rintro e wz ⟨rfl, rfl⟩; rw [hCM, decide_eq_true rfl]))
                go_ret
                exact ⟨rfl, bel_trans hBw.out (bel_trans HB9 HB10)⟩
              · go_wp2_with (first
                  | (go_at_call 30; (with_reducible refine hCd.out.mono ?_); rintro e w9 ⟨u, rfl, HO, HB9, _⟩; obtain ⟨Au, cu, hu, _⟩ := (rdr_of (l := l9) HO rfl).form; subst hu)
                  | (refine store_box rfl 36 _ _ rfl _ _ _ (stC s9 (.slice Au l9.length cu)) rfl rfl (Box.new _ _ _) infoSt rfl (stC_one _ _ _ _) ?_; intro w10 hb10 hg10; have HB10 := below_row (al1 (Below.refl w9.heap.size w9) _) hg10 (Nat.le_refl _) (size_al _ _)))
                go_ret
                exact ⟨rfl, bel_trans hBw.out (bel_trans HB9 HB10)⟩
          · obtain rfl : i = 32 := by omega
            have hM1 : min 32 (8 * M.length - K) ≤ 32 := by omega
            have hM2 : K + min 32 (8 * M.length - K) ≤ 8 * M.length := by omega
            generalize min 32 (8 * M.length - K) = m at *
            have hC := hd_ (fun h => runsI hBb.out hho.out hM27 hM1 hM2 (show turns M (runPlaces K xw m) ≠ M from h))
            have HFr := hd_ HF
            have hCd := hd_ (hDe.out wr _ _ HF.rd (by rw [turns_length]))
            have hRq := hd_ ((hN.out.keep HB).rd)
            have hBw := hd_ (bel_trans hB05.out HB)
            clear HF HB
            generalize turns M (runPlaces K xw m) = C at *
            obtain ⟨R, hR⟩ : ∃ R, R = decA C := ⟨_, rfl⟩
            rw [← hR] at hCd hC
            obtain ⟨E, s9, l9⟩ := R
            have hC : Hid (C ≠ M → E ≠ 0) := hC
            have hCd : Hid (Calls Try.prog 30 #[.slice (some ⟨g, 0, none⟩) M.length cap] wr (fun e w' => ∃ u, e = .returned (.tuple #[.agg (stC s9 u), .int .i64 E]) ∧ w'.ownsRow wr.heap.size 61 3 u l9.length (rowsV l9) ∧ Below wr.heap.size wr w' ∧ l9.length ≤ 1048576)) := hCd
            clear hR
            by_cases hE : E = 0
            · have hCM : C = M := Classical.byContradiction fun h => hC.out h hE
              subst hE
              go_wp2_with (first
                | (go_at_call 30; (with_reducible refine hCd.out.mono ?_); rintro e w9 ⟨u, rfl, HO, HB9, _⟩; obtain ⟨Au, cu, hu, _⟩ := (rdr_of (l := l9) HO rfl).form; subst hu)
                | (refine store_box rfl 36 _ _ rfl _ _ _ (stC s9 (.slice Au l9.length cu)) rfl rfl (Box.new _ _ _) infoSt rfl (stC_one _ _ _ _) ?_; intro w10 hb10 hg10; have HB10 := below_row (al1 (Below.refl w9.heap.size w9) _) hg10 (Nat.le_refl _) (size_al _ _); have hSc := Same_any q (.slice (some ⟨g, 0, none⟩) M.length cap) M C w10 (hRq.out.keep (bel_trans HB9 HB10)) ((HFr.out.keep (bel_trans HB9 HB10)).rd))
                | (go_at_call 25; (with_reducible refine hSc.mono ?_); rintro e wz ⟨rfl, rfl⟩; rw [hCM, decide_eq_true rfl]))
              go_ret
              exact ⟨rfl, bel_trans hBw.out (bel_trans HB9 HB10)⟩
            · go_wp2_with (first
                | (go_at_call 30; (with_reducible refine hCd.out.mono ?_); rintro e w9 ⟨u, rfl, HO, HB9, _⟩; obtain ⟨Au, cu, hu, _⟩ := (rdr_of (l := l9) HO rfl).form; subst hu)
                | (refine store_box rfl 36 _ _ rfl _ _ _ (stC s9 (.slice Au l9.length cu)) rfl rfl (Box.new _ _ _) infoSt rfl (stC_one _ _ _ _) ?_; intro w10 hb10 hg10; have HB10 := below_row (al1 (Below.refl w9.heap.size w9) _) hg10 (Nat.le_refl _) (size_al _ _)))
              go_ret
              exact ⟨rfl, bel_trans hBw.out (bel_trans HB9 HB10)⟩
  · generalize chkA seq l = c at *
    go_wp2_with (first
      | (refine load_boxI ?hw 36 _ rfl w.heap.size 36 (stC seq v) _ rfl hb1.out Try.underlying36 rfl infoSt ?_; (case hw => first | rfl | simp [Region.wanted, yielded]))
      | (go_at_call 33; (with_reducible refine hXc.out.mono ?_); rintro e w2 ⟨rfl, HB2⟩))
    go_ret
    exact ⟨rfl, bel_trans HB01.out HB2⟩
end Go.Proofs.Ytdmogbkfmeihfaa
