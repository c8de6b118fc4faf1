/- What is written as an image is read again; the law ImageBack. -/
import Derived.Test.YtdmogbkfmeihfaaPwA
import Derived.Test.YtdmogbkfmeihfaaIdM
import Derived.Test.YtdmogbkfmeihfaaOpen2
namespace Go.Proofs.Ytdmogbkfmeihfaa
open Go.RowKit
set_option maxRecDepth 100000
set_option linter.unusedVariables false
theorem drop_at (L E : List Int) : (L ++ E).drop L.length = E := by rw [List.drop_append_of_le_length (Nat.le_refl _), List.drop_length, List.nil_append]
theorem numA_at (L R : List Int) (V : Nat) (hV : V < 18446744073709551616) : numA (L ++ (lebB V ++ R)) L.length = ((V : Int), L.length + (lebB V).length, 0) := by
  unfold numA
  rw [drop_at, lebD_lebB V hV R]
  rw [if_pos rfl, Int.toNat_natCast]
theorem uptoA_at (L R : List Int) (V : Nat) (hV : V < 18446744073709551616) (most : Int) (h : (V : Int) ≤ most) : uptoA (L ++ (lebB V ++ R)) L.length most = ((V : Int), L.length + (lebB V).length, 0) := by
  unfold uptoA
  rw [numA_at L R V hV, if_neg (by omega), if_neg (by simp), if_neg (by simp only; omega)]
theorem textA_at (L b R : List Int) (hb : b.length < 18446744073709551616) (most : Int) (h : (b.length : Int) ≤ most) : textA (L ++ (lebB b.length ++ (b ++ R))) L.length most = (b, L.length + (lebB b.length).length + b.length, 0) := by
  unfold textA
  rw [uptoA_at L (b ++ R) b.length hb most h, if_neg (by simp)]
  have hl : (L ++ (lebB b.length ++ (b ++ R))).length = L.length + ((lebB b.length).length + (b.length + R.length)) := by simp
  rw [if_neg (by rw [hl]; simp only; omega)]
  have e : (L ++ (lebB b.length ++ (b ++ R))).drop (L.length + (lebB b.length).length) = b ++ R := by
    rw [← List.append_assoc, ← List.length_append, drop_at]
  simp only [Int.toNat_natCast]
  rw [e, List.take_append_of_le_length (Nat.le_refl _), List.take_length]
theorem rUint_at (L R : List Int) (V : Nat) (hV : V < 18446744073709551616) : rUint (L ++ (lebB V ++ R)) L.length 0 = ((V : Int), L.length + (lebB V).length, 0) := by
  unfold rUint
  rw [numA_at L R V hV, if_neg (by simp), if_neg (by simp)]
theorem rInt_at (L R : List Int) (V : Nat) (hV : V < 18446744073709551616) (most : Int) (h : (V : Int) ≤ most) : rInt (L ++ (lebB V ++ R)) L.length 0 most = ((V : Int), L.length + (lebB V).length, 0) := by
  unfold rInt
  rw [uptoA_at L R V hV most h, if_neg (by simp), if_neg (by simp)]
theorem rText_at (L b R : List Int) (hb : b.length < 18446744073709551616) (most : Int) (h : (b.length : Int) ≤ most) : rText (L ++ (lebB b.length ++ (b ++ R))) L.length 0 most = (b, L.length + (lebB b.length).length + b.length, 0) := by
  unfold rText
  rw [textA_at L b R hb most h, if_neg (by simp), if_neg (by simp)]
theorem rFlag_at (L R : List Int) (F : Bool) : rFlag (L ++ ((if F then 1 else 0) :: R)) L.length 0 = (F, L.length + 1, 0) := by
  unfold rFlag
  have e : (L ++ ((if F then (1 : Int) else 0) :: R)).getD L.length 0 = if F then 1 else 0 := by
    rw [List.getD_eq_getElem?_getD, List.getElem?_append_right (Nat.le_refl _), Nat.sub_self]; rfl
  rw [e, if_neg (by simp), if_neg (by simp), if_neg (by cases F <;> decide)]
  cases F <;> rfl
theorem rDigest_at (L d R : List Int) (hd : d.length = 32) : rDigest (L ++ (d ++ R)) L.length 0 = (d, L.length + 32, 0) := by
  unfold rDigest
  rw [if_neg (by simp), if_neg (by simp only [List.length_append]; omega), drop_at]
  rw [List.take_append_of_le_length (by omega), List.take_of_length_le (by omega)]
theorem rRow_at (L k u R : List Int) (m : Nat) (hk : k ≠ []) (hk1 : k.length ≤ 1024) (hu : u.length ≤ 65536) (hm0 : 1 ≤ m) (hm : m ≤ 1152921504606846976) :
    rRow (L ++ (lebB k.length ++ (k ++ (lebB u.length ++ (u ++ (lebB m ++ R)))))) L.length 0 = ((k, u, (m : Int)), L.length + (lebB k.length).length + k.length + (lebB u.length).length + u.length + (lebB m).length, 0) := by
  have e1 := textA_at L k (lebB u.length ++ (u ++ (lebB m ++ R))) (by omega) 1024 (by omega)
  have e2 := textA_at (L ++ (lebB k.length ++ k)) u (lebB m ++ R) (by omega) 65536 (by omega)
  have e3 := uptoA_at (L ++ (lebB k.length ++ k) ++ (lebB u.length ++ u)) R m (by omega) 1152921504606846976 (by omega)
  obtain ⟨B, hB⟩ : ∃ B, B = L ++ (lebB k.length ++ (k ++ (lebB u.length ++ (u ++ (lebB m ++ R))))) := ⟨_, rfl⟩
  have hB2 : L ++ (lebB k.length ++ k) ++ (lebB u.length ++ (u ++ (lebB m ++ R))) = B := by rw [hB]; simp [List.append_assoc]
  have hB3 : L ++ (lebB k.length ++ k) ++ (lebB u.length ++ u) ++ (lebB m ++ R) = B := by rw [hB]; simp [List.append_assoc]
  rw [hB2] at e2
  rw [hB3] at e3
  rw [← hB] at e1 ⊢
  have l1 : (L ++ (lebB k.length ++ k)).length = L.length + (lebB k.length).length + k.length := by simp; omega
  have l2 : (L ++ (lebB k.length ++ k) ++ (lebB u.length ++ u)).length = L.length + (lebB k.length).length + k.length + (lebB u.length).length + u.length := by simp; omega
  rw [l1] at e2
  rw [l2] at e3
  unfold rRow rowA
  rw [if_neg (by simp)]
  simp only [e1, e2, e3]
  rw [if_neg (by simp), if_neg (by simp), if_neg (by simp), if_neg (by rintro (h | h); exact hk h; omega)]
theorem str_backI (S : ByteArray) : strOfNums (byL S) = S := by
  obtain ⟨d⟩ := S
  unfold strOfNums byL
  simp only [List.map_map]
  congr 1
  apply Array.ext'
  rw [List.toList_toArray]
  conv => rhs; rw [← List.map_id d.toList]
  apply List.map_congr_left
  intro b hb
  simp
theorem allR_cons (q : RowT) (r : List RowT) : allR (q :: r) = rowL q ++ allR r := rfl
theorem rdD_at : ∀ (r : List RowT) (L E : List Int) (l0 : List RowT), (∀ q ∈ r, tabC q = 0) → rdD (L ++ (allR r ++ E)) r.length L.length l0 = some (L.length + (allR r).length, l0 ++ r)
  | [], L, E, l0, _ => by
    show some (L.length, l0) = some (L.length + 0, l0 ++ [])
    rw [List.append_nil, Nat.add_zero]
  | q :: r, L, E, l0, ht => by
    obtain ⟨c1, c2, c3, c4, c5⟩ := tabC_zero (ht q List.mem_cons_self)
    have hq := rRow_at L (byL q.1) (byL q.2.1) (allR r ++ E) q.2.2.toNat (fun h => by have := byL_length q.1; rw [h] at this; simp at this; omega) (by rw [byL_length]; omega) (by rw [byL_length]; omega) (by omega) (by omega)
    have hC : L ++ (lebB (byL q.1).length ++ (byL q.1 ++ (lebB (byL q.2.1).length ++ (byL q.2.1 ++ (lebB q.2.2.toNat ++ (allR r ++ E)))))) = L ++ (allR (q :: r) ++ E) := by
      rw [allR_cons]
      unfold rowL
      rw [byL_length, byL_length]
      simp only [List.append_assoc]
    have hC2 : L ++ (allR (q :: r) ++ E) = (L ++ rowL q) ++ (allR r ++ E) := by rw [allR_cons]; simp only [List.append_assoc]
    have hp : L.length + (lebB (byL q.1).length).length + (byL q.1).length + (lebB (byL q.2.1).length).length + (byL q.2.1).length + (lebB q.2.2.toNat).length = (L ++ rowL q).length := by
      rw [List.length_append, rowL_length, byL_length, byL_length]; omega
    rw [hC, hp] at hq
    have ho : rowOf (L ++ (allR (q :: r) ++ E)) L.length = q := by
      unfold rowOf
      rw [hq]
      simp only
      rw [str_backI, str_backI]
      obtain ⟨k, u, m⟩ := q
      simp only at c4 ⊢
      rw [Int.toNat_of_nonneg (by omega)]
    show rdD (L ++ (allR (q :: r) ++ E)) (r.length + 1) L.length l0 = _
    unfold rdD
    rw [hq, ho, if_neg (show ¬ ((0 : Int) ≠ 0) from fun h => h rfl)]
    show rdD (L ++ (allR (q :: r) ++ E)) r.length (L ++ rowL q).length (l0 ++ [q]) = _
    rw [hC2, rdD_at r (L ++ rowL q) E (l0 ++ [q]) (fun p hp => ht p (List.mem_cons_of_mem _ hp)), List.length_append, allR_cons, List.length_append, Nat.add_assoc, List.append_assoc]
    rfl
theorem rises_tab (seq : Int) : ∀ (l : List RowT) (f : Bool) (a : ByteArray), risesR seq l f a = true → ∀ q ∈ l, tabC q = 0
  | [], _, _, _, q, hq => by cases hq
  | r :: t, f, a, h, q, hq => by
    unfold risesR at h
    rw [Bool.and_eq_true] at h
    rcases List.mem_cons.1 hq with e | e
    · subst e
      have h1 := h.1
      unfold mayB at h1
      rw [Bool.and_eq_true, Bool.and_eq_true] at h1
      exact of_decide_eq_true h1.1.1
    · exact rises_tab seq t false r.1 h.2 q e
theorem chk_parts {seq : Int} {l : List RowT} (h : chkA seq l = 0) : l.length ≤ 1048576 ∧ 0 ≤ seq ∧ seq ≤ 1152921504606846976 ∧ (∀ q ∈ l, tabC q = 0) ∧ (hdI seq l).length + 4 + (allR l).length ≤ 268435456 := by
  unfold chkA at h
  by_cases h1 : 1048576 < l.length
  · rw [if_pos h1] at h; cases h
  rw [if_neg h1] at h
  by_cases h2 : seq < 0 ∨ 1152921504606846976 < seq
  · rw [if_pos h2] at h; cases h
  rw [if_neg h2] at h
  cases h3 : risesR seq l true ⟨#[]⟩ with
  | false => rw [h3, if_pos rfl] at h; cases h
  | true =>
    rw [h3, if_neg (by simp)] at h
    by_cases h4 : 268435456 < (hdI seq l).length + 4 + (allR l).length
    · rw [if_pos h4] at h; cases h
    · exact ⟨by omega, by omega, by omega, rises_tab seq l true _ h3, by omega⟩
/-- the two numbers ahead, whatever follows -/
theorem two_at (seq : Int) (n : Nat) (E : List Int) (h0 : 0 ≤ seq) (h1 : seq ≤ 1152921504606846976) (hn : n ≤ 1048576) :
    rInt (lebB seq.toNat ++ (lebB n ++ E)) 0 0 1152921504606846976 = (seq, (lebB seq.toNat).length, 0) ∧ rInt (lebB seq.toNat ++ (lebB n ++ E)) (lebB seq.toNat).length 0 1048576 = ((n : Int), (lebB seq.toNat).length + (lebB n).length, 0) := by
  have e1 := rInt_at [] (lebB n ++ E) seq.toNat (by omega) 1152921504606846976 (by omega)
  have e2 := rInt_at (lebB seq.toNat) E n (by omega) 1048576 (by omega)
  rw [List.nil_append, List.length_nil, Nat.zero_add, Int.toNat_of_nonneg h0] at e1
  exact ⟨e1, e2⟩
theorem doc_at {seq : Int} {l : List RowT} (h : chkA seq l = 0) : docA (lebB seq.toNat ++ (lebB l.length ++ allR l)) = some (seq, l) := by
  obtain ⟨h1, h2, h3, h4, h5⟩ := chk_parts h
  obtain ⟨e1, e2⟩ := two_at seq l.length (allR l) h2 h3 h1
  have e3 := rdD_at l (lebB seq.toNat ++ lebB l.length) [] [] h4
  rw [List.append_nil, List.append_assoc, List.length_append, List.nil_append] at e3
  have hlen : (lebB seq.toNat ++ (lebB l.length ++ allR l)).length = (lebB seq.toNat).length + (lebB l.length).length + (allR l).length := by simp only [List.length_append]; omega
  unfold docA
  rw [e1]
  simp only
  rw [e2]
  simp only [Int.toNat_natCast]
  rw [if_neg (show ¬ ((0 : Int) ≠ 0) from fun h => h rfl), e3]
  simp only
  rw [if_neg (show ¬ ((lebB seq.toNat).length + (lebB l.length).length + (allR l).length < (lebB seq.toNat ++ (lebB l.length ++ allR l)).length ∨ chkA seq l ≠ 0) from fun h6 => h6.elim (fun h7 => by omega) (fun h7 => h7 h))]
theorem rowL_bytesO (q : RowT) : IsBytes (rowL q) := bytes_append (bytes_append (bytes_append (lebB_bytes _) (byL_bytes _)) (bytes_append (lebB_bytes _) (byL_bytes _))) (lebB_bytes _)
theorem allR_bytesO : ∀ l : List RowT, IsBytes (allR l)
  | [] => fun b hb => by cases hb
  | q :: r => by rw [allR_cons]; exact bytes_append (rowL_bytesO q) (allR_bytesO r)
theorem dec_enc {seq : Int} {l : List RowT} (h : chkA seq l = 0) : ∃ M, encA seq l = (0, M) ∧ sizA seq l = ((M.length : Int), 0) ∧ 10 ≤ M.length ∧ M.length ≤ 268435456 ∧ IsBytes M ∧ decA M = (0, seq, l) ∧
    (hdA M).1 = seq ∧ (hdA M).2.1 = (l.length : Int) ∧ (hdA M).2.2.2 = 0 ∧ rmA M = (l.length : Int) := by
  obtain ⟨h1, h2, h3, h4, h5⟩ := chk_parts h
  have hl4 := all_four l h4
  have p1 := lebB_pos seq.toNat
  have p2 := lebB_pos l.length
  have hC : IsBytes (lebB seq.toNat ++ (lebB l.length ++ allR l)) := bytes_append (lebB_bytes _) (bytes_append (lebB_bytes _) (allR_bytesO l))
  obtain ⟨C, hCe⟩ : ∃ C, C = lebB seq.toNat ++ (lebB l.length ++ allR l) := ⟨_, rfl⟩
  have hlen : C.length = (lebB seq.toNat).length + (lebB l.length).length + (allR l).length := by rw [hCe]; simp only [List.length_append]; omega
  have hla : laidA seq l = (0, hwi ++ C) := by
    rw [laid_chk, if_neg (show ¬ chkA seq l ≠ 0 from fun h9 => h9 h), hCe]
    unfold hdI
    simp only [List.append_assoc]
  have hh : (hdI seq l).length = 4 + (lebB seq.toNat).length + (lebB l.length).length := by
    unfold hdI
    simp only [List.length_append]
    show 4 + _ = _
    omega
  have hw4 : hwi.length = 4 := rfl
  have hML : (sealB (hwi ++ C)).length = 8 + C.length := by rw [seal_lenI, List.length_append, hw4]; omega
  have ht4 : (sealB (hwi ++ C)).take 4 = hwi := by
    unfold sealB
    rw [List.append_assoc, List.take_left' hw4]
  have hd4 : (sealB (hwi ++ C)).drop 4 = lebB seq.toNat ++ (lebB l.length ++ (allR l ++ B4 (sumW (hwi ++ C)))) := by
    unfold sealB
    rw [List.append_assoc, List.drop_left' hw4]
    rw [show C ++ B4 (sumW (hwi ++ C)) = lebB seq.toNat ++ (lebB l.length ++ (allR l ++ B4 (sumW (hwi ++ C)))) from by rw [hCe]; simp only [List.append_assoc]]
  have htn : (sealB (hwi ++ C)).take ((sealB (hwi ++ C)).length - 4) = hwi ++ C := by
    rw [hML]
    unfold sealB
    exact List.take_left' (by rw [List.length_append, hw4]; omega)
  have hdn : (sealB (hwi ++ C)).drop ((sealB (hwi ++ C)).length - 4) = B4 (sumW (hwi ++ C)) := by
    rw [hML]
    unfold sealB
    exact List.drop_left' (by rw [List.length_append, hw4]; omega)
  have hho : holdsB (sealB (hwi ++ C)) = true := by
    unfold holdsB
    rw [htn, hdn, decide_eq_true (by rw [hML]; omega), decide_eq_true rfl]
    rfl
  have hB : IsBytes (sealB (hwi ++ C)) := bytes_append (bytes_append hwi_b (by rw [hCe]; exact hC)) (B4_bytes _)
  obtain ⟨e1, e2⟩ := two_at seq l.length (allR l ++ B4 (sumW (hwi ++ C))) h2 h3 h1
  have hpk : pkC ((sealB (hwi ++ C)).drop 4) = (seq, (l.length : Int), (lebB seq.toNat).length + (lebB l.length).length, 0) := by
    rw [hd4]
    unfold pkC
    rw [e1]
    simp only
    rw [e2]
    simp
  have hhd : hdA (sealB (hwi ++ C)) = (seq, (l.length : Int), ((sealB (hwi ++ C)).length : Int) - 4 - (((lebB seq.toNat).length + (lebB l.length).length : Nat) : Int), 0) := by
    unfold hdA
    rw [if_neg (show ¬ ((sealB (hwi ++ C)).length < 4 ∨ (sealB (hwi ++ C)).take 4 ≠ hwi) from fun h9 => h9.elim (fun h9 => by omega) (fun h9 => h9 ht4)), hpk]
    simp
  refine ⟨sealB (hwi ++ C), ?_, ?_, by omega, by omega, hB, ?_, by rw [hhd], by rw [hhd], by rw [hhd], ?_⟩
  · unfold encA
    rw [hla]
    simp
  · unfold sizA
    rw [hla]
    simp only [ne_eq, not_true_eq_false, if_false]
    rw [hML, List.length_append, hw4]
    congr 1
    omega
  · have hrd : readA C = some (seq, l) := by
      rw [← read_doc C (by rw [hCe]; exact hC) (by omega), hCe]
      exact doc_at h
    unfold decA
    rw [if_neg (show ¬ 268435456 < (sealB (hwi ++ C)).length from by omega), if_neg (show ¬ ((sealB (hwi ++ C)).length < 10 ∨ (sealB (hwi ++ C)).take 4 ≠ hwi) from fun h9 => h9.elim (fun h9 => by omega) (fun h9 => h9 ht4)), if_neg (show ¬ holdsB (sealB (hwi ++ C)) = false from by rw [hho]; simp), htn, List.drop_left' hw4, hrd]
  · unfold rmA
    rw [hhd]
    simp only [ne_eq, not_true_eq_false, if_false]
    rw [hML]
    omega
/-- a state qs it comes in -/
abbrev StT := Int × List (ByteArray × ByteArray × Int × Unit) × Unit
abbrev RRow := RAnd 0 1 RStr (RAnd 1 1 RStr (RAnd 2 1 (RInt .i64) RNil))
abbrev RSt := RAnd 0 1 (RInt .i64) (RAnd 1 1 (RSl 3 40 RRow) RNil)
def rowT (a : ByteArray × ByteArray × Int × Unit) : RowT := (a.1, a.2.1, a.2.2.1)
theorem blocks3 : ∀ (qs : List (ByteArray × ByteArray × Int × Unit)) (vs : List Value), vs.length = qs.length * 3 → (∀ j (h : j < qs.length), (vs.drop (j * 3)).take 3 = rowV (rowT (qs[j]'h))) → vs = rowsV (qs.map rowT)
  | [], vs, h, _ => List.eq_nil_of_length_eq_zero (by simpa using h)
  | a :: qs, vs, h, hb => by
    have h0 := hb 0 (by simp)
    rw [Nat.zero_mul, List.drop_zero] at h0
    have e : rowsV ((a :: qs).map rowT) = rowV (rowT a) ++ rowsV (qs.map rowT) := rfl
    rw [e, ← blocks3 qs (vs.drop 3) (by rw [List.length_drop, h, List.length_cons]; omega) (fun j hj => by
      have := hb (j + 1) (by simpa using hj)
      rw [List.drop_drop]
      have e2 : 3 + j * 3 = (j + 1) * 3 := by omega
      rw [e2]
      simpa using this)]
    simp only [List.getElem_cons_zero] at h0
    rw [← h0, List.take_append_drop]
theorem row_in {w : World} {cs : List Value} {a : ByteArray × ByteArray × Int × Unit} (h : RRow w cs a) (hl : cs.length = 3) : cs = rowV (rowT a) ∧ (Lit.int .i64 a.2.2.1).wf = true := by
  obtain ⟨⟨h1, _⟩, ⟨h2, _⟩, ⟨h3, h4⟩, _⟩ := h
  match cs, hl with
  | [x, y, z], _ =>
    simp at h1 h2 h3
    refine ⟨?_, h4⟩
    rw [h1, h2, h3]; rfl
theorem state_in {w : World} {cs : Array Value} {x : StT} (hs : cs.size = 2) (r : RSt w cs.toList x) : ∃ v, cs = stC x.1 v ∧ RdR w v (x.2.1.map rowT) ∧ (x.2.1.map rowT).length * 40 ≤ 140737488351232 ∧ (Lit.int .i64 x.1).wf = true ∧ ∀ q ∈ x.2.1.map rowT, (Lit.int .i64 q.2.2).wf = true := by
  obtain ⟨⟨h1, h2⟩, ⟨v, vs, h3, hR, hl, hx⟩, _⟩ := r
  obtain ⟨l⟩ := cs
  match l, hs with
  | [c0, c1], _ =>
    simp at h1 h3
    have hvs : vs = rowsV (x.2.1.map rowT) := blocks3 x.2.1 vs hR.1 (fun j hj => by
      obtain ⟨a, ha, hl3, hr⟩ := hx j hj
      rw [List.getElem?_eq_getElem hj] at ha
      injection ha with ha
      rw [ha]
      exact (row_in hr hl3).1)
    refine ⟨v, by rw [h1, h3]; rfl, ?_, by rw [List.length_map]; exact hl, h2, fun q hq => ?_⟩
    · rw [hvs] at hR
      unfold RdR
      rw [List.length_map]
      exact hR
    · obtain ⟨a, ha, rfl⟩ := List.mem_map.1 hq
      obtain ⟨j, hj, rfl⟩ := List.getElem_of_mem ha
      obtain ⟨a2, ha2, hl3, hr⟩ := hx j hj
      rw [List.getElem?_eq_getElem hj] at ha2
      injection ha2 with ha2
      rw [ha2]
      exact (row_in hr hl3).2
set_option maxHeartbeats 8000000 in
theorem law_ImageBack (w : World) (cs : Array Value) (hs : cs.size = 2) (x : StT) (r : RSt w cs.toList x) :
    Calls Try.prog 10 #[.agg cs] w fun e w' => e = .returned (.bool true) ∧ Below w.heap.size w w' := by
  obtain ⟨v, rfl, HR, hl, _, _⟩ := state_in hs r
  obtain ⟨seq, qs, u9⟩ := x
  simp only at HR hl
  generalize qs.map rowT = l at *
  clear hs r
  have hRH := hd_ HR
  have hB0 := al1 (Below.refl w.heap.size w) (.cells (stC seq v) 36)
  have hb1 := Box.new w (stC seq v) 36
  obtain ⟨W0, hW0⟩ : ∃ W0, W0 = w.alloc (.cells (stC seq v) 36) := ⟨_, rfl⟩
  rw [← hW0] at hB0 hb1
  have hCk := hd_ (ICheck_any seq v l W0 (HR.keep hB0))
  have hB0 := hd_ hB0
  have hb1 := hd_ hb1
  by_cases hc : chkA seq l = 0
  · obtain ⟨M, m1, m2, m3, m4, m5, m6, m7, m8, m9, m10⟩ := dec_enc hc
    have hEn := hd_ (fun W (h : RdR W v l) => show Calls Try.prog 22 #[.agg (stC seq v)] W (ImRet W (0, M)) from by have := Encode_any seq v l W h; rw [m1] at this; exact this)
    have hSz := hd_ (fun W (h : RdR W v l) => show Calls Try.prog 23 #[.agg (stC seq v)] W (TwoInt W ((M.length : Int), 0)) from by have := Size_any seq v l W h; rw [m2] at this; exact this)
    have hDe := hd_ (fun W q (h : Rd W q M) => show Calls Try.prog 30 #[q] W (fun e w' => ∃ u, e = .returned (.tuple #[.agg (stC seq u), .int .i64 0]) ∧ w'.ownsRow W.heap.size 61 3 u l.length (rowsV l) ∧ Below W.heap.size W w' ∧ l.length ≤ 1048576) from by have := Decode_any q M W h (by omega); rw [m6] at this; exact this)
    have hPk := hd_ (fun W q (h : Rd W q M) => show Calls Try.prog 14 #[q] W (fun e w' => e = .returned (.tuple #[.int .i64 seq, .int .i64 (l.length : Int), .int .i64 0]) ∧ Below W.heap.size W w') from by have := P_Peek_any q M W h (by omega); unfold PeekRet at this; rw [m7, m8, m9] at this; exact this)
    have hRo := hd_ (fun W q (h : Rd W q M) => show Calls Try.prog 16 #[q] W (fun e w' => e = .returned (.int .i64 (l.length : Int)) ∧ Below W.heap.size W w') from by have := P_Room_any q M W h (by omega); rw [m10] at this; exact this)
    have hSa := hd_ (fun W u (h : Below W0.heap.size W0 W) (hu : RdR W u l) => same_any seq v u l W ((hRH.out.keep hB0.out).keep h) hu (by have := (chk_parts hc).1; omega))
    rw [hc] at hCk
    have hlv := HR.len
    have m3I : ¬ (M.length : Int) < 10 := by omega
    clear HR hl hc m1 m2 m3 m4 m5 m6 m7 m8 m9 m10
    go_enter Try.func10, Try.ntmps10
    go_upto_region 1 with fail
    rw [← hW0]
    clear hW0
    go_upto_region 3 with (first
      | (refine load_boxI ?hw 36 _ rfl w.heap.size 36 (stC seq v) _ rfl hb1.out Try.underlying36 rfl infoSt ?_; (case hw => first | rfl | simp [Region.wanted, yielded]))
      | (go_at_call 24; (with_reducible refine hCk.out.mono ?_); rintro e w1 ⟨rfl, HB1⟩))
    have hb1a := hd_ (hb1.out.keep HB1)
    have hEc := hd_ (hEn.out w1 ((hRH.out.keep hB0.out).keep HB1))
    go_upto_region 4 with (first
      | (refine load_boxI ?hw 36 _ rfl w.heap.size 36 (stC seq v) _ rfl hb1a.out Try.underlying36 rfl infoSt ?_; (case hw => first | rfl | simp [Region.wanted, yielded]))
      | (go_at_call 22; (with_reducible refine hEc.out.mono ?_); rintro e w2 ⟨q, rfl, ⟨HN, _⟩, HB2⟩))
    have HB02 := hd_ (bel_trans HB1 HB2)
    have hb1b := hd_ (hb1a.out.keep HB2)
    have hSc := hd_ (hSz.out w2 ((hRH.out.keep hB0.out).keep HB02.out))
    have hlq := HN.rd.2.len (P := Try.prog) 22 5 3 Try.underlying22
    have hN2 := hd_ (fun W (h : Below w2.heap.size w2 W) => (HN.keep h).rd)
    clear HB1 HB2 hEc hCk hEn hSz hb1a HN
    go_upto_region 7 with (first
      | (refine load_boxI ?hw 36 _ rfl w.heap.size 36 (stC seq v) _ rfl hb1b.out Try.underlying36 rfl infoSt ?_; (case hw => first | rfl | simp [Region.wanted, yielded]))
      | (go_at_call 23; (with_reducible refine hSc.out.mono ?_); rintro e w3 ⟨rfl, HB3⟩))
    have hb1c := hd_ (hb1b.out.keep HB3)
    have HB03 := hd_ (bel_trans HB02.out HB3)
    have hDc := hd_ (hDe.out w3 q (hN2.out w3 HB3))
    have HB23 := hd_ HB3
    clear HB3 hSc hb1b HB02 hDe
    go_upto_region 8 with (first
      | (go_at_call 30; (with_reducible refine hDc.out.mono ?_); rintro e w4 ⟨u, rfl, HO, HB4, hll⟩; obtain ⟨Au, cu, hu, _⟩ := (rdr_of (l := l) HO rfl).form; subst hu)
      | (refine store_box rfl 36 _ _ rfl _ _ _ (stC seq (.slice Au l.length cu)) rfl rfl (Box.new _ _ _) infoSt rfl (stC_one _ _ _ _) ?_; intro w5 hb7 hg5))
    have HB5 := below_row (al1 (Below.refl w4.heap.size w4) _) hg5 (Nat.le_refl _) (size_al _ _)
    have hO := hd_ (row_keep HO HB5)
    have HB35 := bel_trans HB4 HB5
    have HB05 := hd_ (bel_trans HB03.out HB35)
    have hb1d := hd_ (hb1c.out.keep HB35)
    have HB25 := hd_ (bel_trans HB23.out HB35)
    have hb7 := hd_ hb7
    have hPc := hd_ (hPk.out w5 q (hN2.out w5 HB25.out))
    try simp only [Act.put]
    clear HB4 HB5 HO HB35 hg5 hDc hPk HB23 HB03 hb1c
    generalize Value.slice Au l.length cu = u at *
    generalize w4.heap.size = g7 at *
    go_upto_region 9 with (go_at_call 14; (with_reducible refine hPc.out.mono ?_); rintro e w6 ⟨rfl, HB6⟩)
    have HB06 := hd_ (bel_trans HB05.out HB6)
    have hb1e := hd_ (hb1d.out.keep HB6)
    have hb7e := hd_ (hb7.out.keep HB6)
    have HB26 := hd_ (bel_trans HB25.out HB6)
    have hSc := hd_ (hSa.out w6 u HB06.out ((rdr_of hO.out rfl).keep HB6))
    clear HB6 HB05 hb1d hb7 HB25 hSa hPc
    go_wp2_with (first
      | (refine load_boxI ?hw 36 _ rfl w.heap.size 36 (stC seq v) _ rfl hb1e.out Try.underlying36 rfl infoSt ?_; (case hw => first | rfl | simp [Region.wanted, yielded]))
      | (refine load_boxI ?hw 36 _ rfl g7 36 (stC seq u) _ rfl hb7e.out Try.underlying36 rfl infoSt ?_; (case hw => first | rfl | simp [Region.wanted, yielded]))
      | (go_at_call 32; (with_reducible refine hSc.out.mono ?_); rintro e w7 ⟨rfl, HB7⟩; have q0 := cell_keep HB7 (hb1e.out.cell 0 (v := .int .i64 seq) rfl); have q1 := cell_keep HB7 (hb1e.out.cell 1 (v := v) rfl); have hRc := hd_ (hRo.out w7 q (hN2.out w7 (bel_trans HB26.out HB7))))
      | (go_at_call 16; (with_reducible refine hRc.out.mono ?_); rintro e w8 ⟨rfl, HB8⟩))
    go_ret
    exact ⟨rfl, hB0.out.trans ((bel_trans (bel_trans HB06.out HB7) HB8).mono hB0.out.size)⟩
  · have hXk := hd_ (fun W (h : RdR W v l) => rCheck_any seq v l W h)
    generalize chkA seq l = c at *
    clear HR hl
    go_enter Try.func10, Try.ntmps10
    go_upto_region 1 with fail
    rw [← hW0]
    clear hW0
    go_upto_region 2 with (first
      | (refine load_boxI ?hw 36 _ rfl w.heap.size 36 (stC seq v) _ rfl hb1.out Try.underlying36 rfl infoSt ?_; (case hw => first | rfl | simp [Region.wanted, yielded]))
      | (go_at_call 24; (with_reducible refine hCk.out.mono ?_); rintro e w1 ⟨rfl, HB1⟩))
    have hb1a := hd_ (hb1.out.keep HB1)
    have hXc := hd_ (hXk.out w1 ((hRH.out.keep hB0.out).keep HB1))
    go_wp2_with (first
      | (refine load_boxI ?hw 36 _ rfl w.heap.size 36 (stC seq v) _ rfl hb1a.out Try.underlying36 rfl infoSt ?_; (case hw => first | rfl | simp [Region.wanted, yielded]))
      | (go_at_call 33; (with_reducible refine hXc.out.mono ?_); rintro e w2 ⟨rfl, HB2⟩))
    go_ret
    exact ⟨rfl, hB0.out.trans ((bel_trans HB1 HB2).mono hB0.out.size)⟩
end Go.Proofs.Ytdmogbkfmeihfaa
