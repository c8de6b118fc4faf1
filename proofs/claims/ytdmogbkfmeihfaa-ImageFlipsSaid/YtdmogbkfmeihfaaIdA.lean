/- An image read (pure). -/
import Derived.Test.YtdmogbkfmeihfaaIeI
import Derived.Test.YtdmogbkfmeihfaaPrB
namespace Go.Proofs.Ytdmogbkfmeihfaa
open Go.RowKit
set_option maxRecDepth 100000
set_option linter.unusedVariables false
theorem byL_strI {l : List Int} (h : IsBytes l) : byL (strOfNums l) = l := by
  unfold byL strOfNums
  simp only [List.map_map]
  conv => rhs; rw [← List.map_id l]
  apply List.map_congr_left
  intro b hb
  have := h b hb
  simp
  omega
def AgOkI (B : List Int) (a : Nat) (err : Int) (R : Nat × Int) : Prop := a ≤ R.1 ∧ R.1 ≤ B.length ∧ (R.2 ≠ 0 → R.1 = a) ∧ (R.2 = 0 → err = 0)
theorem take_onI (B : List Int) (a k : Nat) (x : List Int) (h : (B.drop a).take k = x) : B.take a ++ x = B.take (a + k) := by rw [← h, List.take_add]
theorem ag_rowI (B : List Int) (hB : IsBytes B) (a : Nat) (ha : a ≤ B.length) (err : Int) : AgOkI B a err (rRow B a err).2 ∧ ((rRow B a err).2.2 = 0 → ∃ m : Nat, (rRow B a err).1.2.2 = (m : Int) ∧ 1 ≤ m ∧ m ≤ 1152921504606846976 ∧ (rRow B a err).1.1 ≠ [] ∧ (rRow B a err).1.1.length ≤ 1024 ∧ (rRow B a err).1.2.1.length ≤ 65536 ∧
    IsBytes (rRow B a err).1.1 ∧ IsBytes (rRow B a err).1.2.1 ∧ a + (rRow B a err).1.1.length + (rRow B a err).1.2.1.length ≤ B.length ∧
    B.take a ++ (lebB (rRow B a err).1.1.length ++ (rRow B a err).1.1) ++ (lebB (rRow B a err).1.2.1.length ++ (rRow B a err).1.2.1) ++ lebB m = B.take (rRow B a err).2.1) := by
  unfold rRow
  by_cases h0 : err = 0
  · rw [if_neg (by simpa using h0)]
    unfold rowA
    rcases textA_cases B hB a ha 1024 (by decide) with ⟨E, hE, e⟩ | ⟨n, k, _, e, h1, h2, h3, h4, h5, h6⟩
    · rw [if_pos (by rw [e]; simp only; omega), e]
      refine ⟨⟨Nat.le_refl _, ha, fun _ => rfl, fun h => h0⟩, fun h => ?_⟩
      simp only at h; omega
    rw [e, if_neg (by simp)]
    simp only
    rcases textA_cases B hB (a + k + n) h1 65536 (by decide) with ⟨E, hE, e2⟩ | ⟨n2, k2, _, e2, i1, i2, i3, i4, i5, i6⟩
    · rw [if_pos (by rw [e2]; simp only; omega), e2]
      refine ⟨⟨Nat.le_refl _, ha, fun _ => rfl, fun h => h0⟩, fun h => ?_⟩
      simp only at h; omega
    rw [e2, if_neg (by simp)]
    simp only
    rcases uptoA_cases B hB (a + k + n + k2 + n2) i1 1152921504606846976 (by decide) with ⟨E, hE, e3⟩ | ⟨m, k3, e3, j1, j2, j3, j4, j5, j6⟩
    · rw [if_pos (by rw [e3]; simp only; omega), e3]
      refine ⟨⟨Nat.le_refl _, ha, fun _ => rfl, fun h => h0⟩, fun h => ?_⟩
      simp only at h; omega
    rw [e3, if_neg (by simp)]
    simp only
    have hlen : ((B.drop (a + k)).take n).length = n := by rw [List.length_take, List.length_drop]; omega
    have hlen2 : ((B.drop (a + k + n + k2)).take n2).length = n2 := by rw [List.length_take, List.length_drop]; omega
    by_cases hz : (B.drop (a + k)).take n = [] ∨ (m : Int) = 0
    · rw [if_pos hz]
      exact ⟨⟨Nat.le_refl _, ha, fun _ => rfl, fun h => h0⟩, fun h => absurd h (by simp)⟩
    rw [if_neg hz]
    refine ⟨⟨by simp only; omega, j1, fun h => absurd rfl h, fun _ => h0⟩, fun _ => ⟨m, rfl, ?_, by omega, fun h => hz (.inl h), by rw [hlen]; omega, by rw [hlen2]; omega, bytes_take (bytes_drop hB _) _, bytes_take (bytes_drop hB _) _, by rw [hlen, hlen2]; omega, ?_⟩⟩
    · have : ¬ (m : Int) = 0 := fun h => hz (.inr h)
      omega
    · rw [hlen, hlen2]
      simp only [← List.append_assoc]
      rw [take_onI B a k _ h3, take_onI B (a + k) n _ rfl, take_onI B (a + k + n) k2 _ i3, take_onI B (a + k + n + k2) n2 _ rfl, take_onI B (a + k + n + k2 + n2) k3 _ j3]
  · rw [if_pos h0]
    exact ⟨⟨Nat.le_refl _, ha, fun _ => rfl, fun h => h⟩, fun h => absurd h h0⟩
/-- the row that is read there -/
def rowOf (C : List Int) (a : Nat) : RowT := (strOfNums (rRow C a 0).1.1, strOfNums (rRow C a 0).1.2.1, (rRow C a 0).1.2.2)
theorem rowOf_ok {C : List Int} (hC : IsBytes C) {a : Nat} (ha : a ≤ C.length) (h : (rRow C a 0).2.2 = 0) : tabC (rowOf C a) = 0 ∧ C.take a ++ rowL (rowOf C a) = C.take (rRow C a 0).2.1 ∧ (rRow C a 0).2.1 ≤ C.length := by
  obtain ⟨h1, h2⟩ := ag_rowI C hC a ha 0
  obtain ⟨m, k1, k2, k3, k4, k5, k6, k7, k8, _, k9⟩ := h2 h
  have s1 : (strOfNums (rRow C a 0).1.1).size = (rRow C a 0).1.1.length := strOfNums_size _
  have s2 : (strOfNums (rRow C a 0).1.2.1).size = (rRow C a 0).1.2.1.length := strOfNums_size _
  have hp : 0 < (rRow C a 0).1.1.length := List.length_pos_iff.2 k4
  refine ⟨?_, ?_, h1.2.1⟩
  · unfold tabC rowOf
    simp only
    rw [s1, s2, k1, if_neg (by omega), if_neg (by omega), if_neg (by omega)]
  · rw [← k9]
    unfold rowL rowOf
    simp only
    rw [s1, s2, byL_strI k7, byL_strI k8, k1, Int.toNat_natCast]
    simp only [List.append_assoc]
def rdP (C : List Int) (seq : Int) : Nat → Bool → ByteArray → Nat → List RowT → Option (Nat × List RowT)
  | 0, _, _, a, l => some (a, l)
  | m + 1, f, ahead, a, l => if (rRow C a 0).2.2 ≠ 0 then none else if mayB (rowOf C a) ahead f seq = false then none else rdP C seq m false (rowOf C a).1 (rRow C a 0).2.1 (l ++ [rowOf C a])
def rdD (C : List Int) : Nat → Nat → List RowT → Option (Nat × List RowT)
  | 0, a, l => some (a, l)
  | m + 1, a, l => if (rRow C a 0).2.2 ≠ 0 then none else rdD C m (rRow C a 0).2.1 (l ++ [rowOf C a])
theorem rdD_pre (C : List Int) : ∀ (m a : Nat) (l : List RowT) (a' : Nat) (q : List RowT), rdD C m a l = some (a', q) → ∃ r, q = l ++ r
  | 0, a, l, a', q, h => by
    unfold rdD at h
    injection h with h
    injection h with _ h
    exact ⟨[], by rw [List.append_nil, h]⟩
  | m + 1, a, l, a', q, h => by
    unfold rdD at h
    by_cases h0 : (rRow C a 0).2.2 = 0
    · rw [if_neg (fun h2 => h2 h0)] at h
      obtain ⟨r, hr⟩ := rdD_pre C m _ _ _ _ h
      exact ⟨rowOf C a :: r, by rw [hr, List.append_assoc]; rfl⟩
    · rw [if_pos h0] at h; cases h
theorem rdP_iff (C : List Int) (seq : Int) : ∀ (m : Nat) (f : Bool) (ahead : ByteArray) (a : Nat) (l : List RowT) (a' : Nat) (r : List RowT), rdP C seq m f ahead a l = some (a', l ++ r) ↔ rdD C m a l = some (a', l ++ r) ∧ risesR seq r f ahead = true
  | 0, f, ahead, a, l, a', r => by
    unfold rdP rdD
    constructor
    · intro h
      refine ⟨h, ?_⟩
      injection h with h
      injection h with _ h
      have : r = [] := by
        have h2 := congrArg List.length h
        rw [List.length_append] at h2
        exact List.eq_nil_of_length_eq_zero (by omega)
      rw [this]; rfl
    · exact fun h => h.1
  | m + 1, f, ahead, a, l, a', r => by
    unfold rdP rdD
    by_cases h0 : (rRow C a 0).2.2 = 0
    · rw [if_neg (show ¬ (rRow C a 0).2.2 ≠ 0 from fun h2 => h2 h0), if_neg (show ¬ (rRow C a 0).2.2 ≠ 0 from fun h2 => h2 h0)]
      cases hm : mayB (rowOf C a) ahead f seq
      · rw [if_pos rfl]
        constructor
        · intro h; cases h
        · rintro ⟨h, hr⟩
          obtain ⟨r2, hr2⟩ := rdD_pre C m _ _ _ _ h
          have : r = rowOf C a :: r2 := by
            rw [List.append_assoc] at hr2
            exact List.append_cancel_left hr2
          rw [this] at hr
          unfold risesR at hr
          rw [hm] at hr
          exact absurd hr (by simp)
      · rw [if_neg (by simp)]
        constructor
        · intro h
          have hd : ∃ r2, r = rowOf C a :: r2 := by
            have aux : ∀ (m : Nat) (f : Bool) (ahead : ByteArray) (a : Nat) (l : List RowT) (a' : Nat) (q : List RowT), rdP C seq m f ahead a l = some (a', q) → ∃ r, q = l ++ r := by
              intro m
              induction m with
              | zero => intro f ahead a l a' q h; unfold rdP at h; injection h with h; injection h with _ h; exact ⟨[], by rw [List.append_nil, h]⟩
              | succ m ih =>
                intro f ahead a l a' q h
                unfold rdP at h
                split at h
                · cases h
                split at h
                · cases h
                · obtain ⟨r, hr⟩ := ih _ _ _ _ _ _ h
                  exact ⟨rowOf C a :: r, by rw [hr, List.append_assoc]; rfl⟩
            obtain ⟨r2, hr2⟩ := aux m _ _ _ _ _ _ h
            refine ⟨r2, ?_⟩
            rw [List.append_assoc] at hr2
            exact List.append_cancel_left hr2
          obtain ⟨r2, rfl⟩ := hd
          have e : l ++ rowOf C a :: r2 = (l ++ [rowOf C a]) ++ r2 := by rw [List.append_assoc]; rfl
          rw [e] at h ⊢
          obtain ⟨k1, k2⟩ := (rdP_iff C seq m false (rowOf C a).1 _ (l ++ [rowOf C a]) a' r2).1 h
          refine ⟨k1, ?_⟩
          unfold risesR
          rw [hm, k2]; rfl
        · rintro ⟨h, hr⟩
          obtain ⟨r2, hr2⟩ := rdD_pre C m _ _ _ _ h
          have : r = rowOf C a :: r2 := by
            rw [List.append_assoc] at hr2
            exact List.append_cancel_left hr2
          subst this
          have e : l ++ rowOf C a :: r2 = (l ++ [rowOf C a]) ++ r2 := by rw [List.append_assoc]; rfl
          rw [e] at h ⊢
          unfold risesR at hr
          rw [Bool.and_eq_true] at hr
          exact (rdP_iff C seq m false (rowOf C a).1 _ (l ++ [rowOf C a]) a' r2).2 ⟨h, hr.2⟩
    · rw [if_pos (show (rRow C a 0).2.2 ≠ 0 from h0), if_pos (show (rRow C a 0).2.2 ≠ 0 from h0)]
      constructor
      · intro h; cases h
      · rintro ⟨h, _⟩; cases h
theorem rdD_bytes (C : List Int) (hC : IsBytes C) : ∀ (m a : Nat) (l : List RowT) (a' : Nat) (r : List RowT), a ≤ C.length → rdD C m a l = some (a', l ++ r) → r.length = m ∧ C.take a ++ allR r = C.take a' ∧ a' ≤ C.length ∧ ∀ q ∈ r, tabC q = 0
  | 0, a, l, a', r, ha, h => by
    unfold rdD at h
    injection h with h
    injection h with h1 h
    have : r = [] := by
      have h2 := congrArg List.length h
      rw [List.length_append] at h2
      exact List.eq_nil_of_length_eq_zero (by omega)
    subst this
    exact ⟨rfl, by rw [h1]; show _ ++ [] = _; rw [List.append_nil], by omega, fun q hq => by cases hq⟩
  | m + 1, a, l, a', r, ha, h => by
    unfold rdD at h
    by_cases h0 : (rRow C a 0).2.2 = 0
    · rw [if_neg (fun h2 => h2 h0)] at h
      obtain ⟨r2, hr2⟩ := rdD_pre C m _ _ _ _ h
      have : r = rowOf C a :: r2 := by
        rw [List.append_assoc] at hr2
        exact List.append_cancel_left hr2
      subst this
      have e : l ++ rowOf C a :: r2 = (l ++ [rowOf C a]) ++ r2 := by rw [List.append_assoc]; rfl
      rw [e] at h
      obtain ⟨t1, t2, t3⟩ := rowOf_ok hC ha h0
      obtain ⟨k1, k2, k3, k4⟩ := rdD_bytes C hC m _ _ _ r2 t3 h
      refine ⟨by rw [List.length_cons, k1], ?_, k3, fun q hq => ?_⟩
      · have ea : allR (rowOf C a :: r2) = rowL (rowOf C a) ++ allR r2 := rfl
        rw [ea, ← List.append_assoc, t2, k2]
      · rcases List.mem_cons.1 hq with h5 | h5
        · rw [h5]; exact t1
        · exact k4 q h5
    · rw [if_pos h0] at h; cases h
theorem all_four : ∀ r : List RowT, (∀ q ∈ r, tabC q = 0) → 4 * r.length ≤ (allR r).length
  | [], _ => Nat.le_refl _
  | q :: r, h => by
    have h1 := all_four r (fun p hp => h p (List.mem_cons_of_mem _ hp))
    have h2 := tabC_zero (h q List.mem_cons_self)
    have ea : allR (q :: r) = rowL q ++ allR r := rfl
    have b1 := lebB_pos q.1.size
    have b2 := lebB_pos q.2.1.size
    have b3 := lebB_pos q.2.2.toNat
    rw [ea, List.length_append, rowL_length, List.length_cons]
    omega
/-- the state between mark and sum: the program's way -/
def readA (C : List Int) : Option (Int × List RowT) :=
  if (rCount C (rInt C 0 0 1152921504606846976).2.1 (rInt C 0 0 1152921504606846976).2.2 1048576 4).2.2 ≠ 0 then none
  else match rdP C (rInt C 0 0 1152921504606846976).1 (rCount C (rInt C 0 0 1152921504606846976).2.1 (rInt C 0 0 1152921504606846976).2.2 1048576 4).1.toNat true ⟨#[]⟩ (rCount C (rInt C 0 0 1152921504606846976).2.1 (rInt C 0 0 1152921504606846976).2.2 1048576 4).2.1 [] with
    | none => none
    | some (a, l) => if a < C.length then none else some ((rInt C 0 0 1152921504606846976).1, l)
/-- the document's way -/
def docA (C : List Int) : Option (Int × List RowT) :=
  if (rInt C (rInt C 0 0 1152921504606846976).2.1 (rInt C 0 0 1152921504606846976).2.2 1048576).2.2 ≠ 0 then none
  else match rdD C (rInt C (rInt C 0 0 1152921504606846976).2.1 (rInt C 0 0 1152921504606846976).2.2 1048576).1.toNat (rInt C (rInt C 0 0 1152921504606846976).2.1 (rInt C 0 0 1152921504606846976).2.2 1048576).2.1 [] with
    | none => none
    | some (a, l) => if a < C.length ∨ chkA (rInt C 0 0 1152921504606846976).1 l ≠ 0 then none else some ((rInt C 0 0 1152921504606846976).1, l)
/-- two numbers read: their bytes -/
theorem int_parts {C : List Int} (hC : IsBytes C) {a : Nat} (ha : a ≤ C.length) {err most : Int} (hm : most < 9223372036854775808) (h : (rInt C a err most).2.2 = 0) : err = 0 ∧ ∃ n : Nat, (rInt C a err most).1 = (n : Int) ∧ (n : Int) ≤ most ∧ C.take a ++ lebB n = C.take (rInt C a err most).2.1 ∧ (rInt C a err most).2.1 ≤ C.length ∧ rInt C a err most = uptoA C a most := by
  unfold rInt at h ⊢
  by_cases h0 : err = 0
  · rw [if_neg (fun h2 => h2 h0)] at h ⊢
    rcases uptoA_cases C hC a ha most hm with ⟨E, hE, e⟩ | ⟨u, k, e, h1, _, h3, h4, _, _⟩
    · rw [e] at h
      simp only at h
      rw [if_pos (show E ≠ 0 by omega)] at h
      simp only at h
      omega
    · rw [e, if_neg (by simp)]
      exact ⟨h0, u, rfl, h4, take_onI C a k _ h3, h1, rfl⟩
  · rw [if_pos h0] at h
    exact absurd h h0
theorem count_int (C : List Int) (a : Nat) (err : Int) : ((rCount C a err 1048576 4).2.2 = 0 ↔ (rInt C a err 1048576).2.2 = 0 ∧ ¬ ((C.length : Int) - (rInt C a err 1048576).2.1) / 4 < (rInt C a err 1048576).1) ∧ ((rCount C a err 1048576 4).2.2 = 0 → rCount C a err 1048576 4 = rInt C a err 1048576) := by
  by_cases h0 : err = 0
  · have hc : rCount C a err 1048576 4 = if (uptoA C a 1048576).2.2 ≠ 0 then (0, a, (uptoA C a 1048576).2.2) else if 0 < (4 : Int) ∧ ((C.length : Int) - (uptoA C a 1048576).2.1) / 4 < (uptoA C a 1048576).1 then (0, a, 30) else uptoA C a 1048576 := by
      unfold rCount
      rw [if_neg (show ¬ err ≠ 0 from fun h => h h0), if_neg (show ¬ ((1048576 : Int) < 0 ∨ (4 : Int) < 0) by decide)]
    have hi : rInt C a err 1048576 = if (uptoA C a 1048576).2.2 ≠ 0 then (0, a, (uptoA C a 1048576).2.2) else uptoA C a 1048576 := by
      unfold rInt
      rw [if_neg (show ¬ err ≠ 0 from fun h => h h0)]
    by_cases h1 : (uptoA C a 1048576).2.2 = 0
    · rw [if_neg (fun h => h h1)] at hc hi
      rw [hi]
      by_cases h2 : ((C.length : Int) - (uptoA C a 1048576).2.1) / 4 < (uptoA C a 1048576).1
      · rw [if_pos ⟨by decide, h2⟩] at hc
        rw [hc]
        exact ⟨⟨fun h => absurd h (by simp), fun h => absurd h2 h.2⟩, fun h => absurd h (by simp)⟩
      · rw [if_neg (fun h => h2 h.2)] at hc
        rw [hc]
        exact ⟨⟨fun _ => ⟨h1, h2⟩, fun _ => h1⟩, fun _ => rfl⟩
    · rw [if_pos h1] at hc hi
      rw [hc, hi]
      exact ⟨⟨fun h => absurd h h1, fun h => absurd h.1 h1⟩, fun h => absurd h h1⟩
  · have hc : rCount C a err 1048576 4 = (0, a, err) := by unfold rCount; rw [if_pos (show err ≠ 0 from h0)]
    have hi : rInt C a err 1048576 = (0, a, err) := by unfold rInt; rw [if_pos (show err ≠ 0 from h0)]
    rw [hc, hi]
    exact ⟨⟨fun h => absurd h h0, fun h => absurd h.1 h0⟩, fun h => absurd h h0⟩
theorem count_eq (C : List Int) (a : Nat) (err : Int) (h : (rCount C a err 1048576 4).2.2 = 0) : rCount C a err 1048576 4 = rInt C a err 1048576 := (count_int C a err).2 h
theorem read_doc (C : List Int) (hC : IsBytes C) (hl : C.length + 8 ≤ 268435456) : docA C = readA C := by
  obtain ⟨s, a1, e1, h1⟩ : ∃ s a1 e1, rInt C 0 0 1152921504606846976 = (s, a1, e1) := ⟨_, _, _, rfl⟩
  obtain ⟨n, a2, e2, h2⟩ : ∃ n a2 e2, rInt C a1 e1 1048576 = (n, a2, e2) := ⟨_, _, _, rfl⟩
  unfold docA readA
  rw [h1]
  simp only
  rw [h2]
  simp only
  by_cases he : e2 = 0
  · subst he
    rw [if_neg (by simp)]
    have ha1 : a1 ≤ C.length := by
      by_cases h0 : e1 = 0
      · have := (int_parts hC (Nat.zero_le _) (by decide) (show (rInt C 0 0 1152921504606846976).2.2 = 0 by rw [h1]; exact h0)).2
        obtain ⟨_, _, _, _, h5, _⟩ := this
        rw [h1] at h5; exact h5
      · have : (rInt C a1 e1 1048576).2.2 = e1 := by unfold rInt; rw [if_pos h0]
        rw [h2] at this
        exact absurd this.symm h0
    obtain ⟨he1, N, hN, hN2, hN3, hN4, _⟩ := int_parts hC ha1 (by decide) (show (rInt C a1 e1 1048576).2.2 = 0 by rw [h2])
    rw [h2] at hN hN3 hN4
    simp only at hN hN3 hN4
    subst hN
    subst he1
    obtain ⟨_, S, hS, hS2, hS3, hS4, _⟩ := int_parts hC (Nat.zero_le _) (by decide) (show (rInt C 0 0 1152921504606846976).2.2 = 0 by rw [h1])
    rw [h1] at hS hS3
    simp only at hS hS3
    subst hS
    rw [Int.toNat_natCast]
    have hbytes : C.take a2 = lebB S ++ lebB N := by rw [← hN3, ← hS3, List.take_zero, List.nil_append]
    have hlen2 : a2 = (lebB S).length + (lebB N).length := by
      have := congrArg List.length hbytes
      rw [List.length_take, List.length_append] at this
      omega
    by_cases hc : (rCount C a1 0 1048576 4).2.2 = 0
    · rw [if_neg (fun h => h hc), count_eq C a1 0 hc, h2]
      simp only
      rw [Int.toNat_natCast]
      rcases hd : rdD C N a2 [] with _ | ⟨a', l⟩
      · rcases hp : rdP C (S : Int) N true ⟨#[]⟩ a2 [] with _ | ⟨a', l⟩
        · rfl
        · have := ((rdP_iff C (S : Int) N true ⟨#[]⟩ a2 [] a' l).1 (by rw [hp, List.nil_append])).1
          rw [hd] at this; cases this
      · simp only
        obtain ⟨k1, k2, k3, k4⟩ := rdD_bytes C hC N a2 [] a' l hN4 (by rw [hd, List.nil_append])
        by_cases hr : risesR (S : Int) l true ⟨#[]⟩ = true
        · have hp := (rdP_iff C (S : Int) N true ⟨#[]⟩ a2 [] a' l).2 ⟨by rw [hd, List.nil_append], hr⟩
          rw [List.nil_append] at hp
          rw [hp]
          simp only
          by_cases ht : a' < C.length
          · rw [if_pos (.inl ht), if_pos ht]
          · have hck : chkA (S : Int) l = 0 := by
              have hlen := congrArg List.length k2
              rw [List.length_append, List.length_take, List.length_take] at hlen
              have hh : (hdI (S : Int) l).length = 4 + ((lebB S).length + (lebB l.length).length) := by
                unfold hdI
                rw [List.length_append, List.length_append, Int.toNat_natCast]; rfl
              unfold chkA
              rw [if_neg (by omega), if_neg (by omega), hr, if_neg (by simp), if_neg (by rw [hh, k1]; omega)]
            rw [if_neg (by rw [hck]; simp; omega), if_neg ht]
        · have hr2 : risesR (S : Int) l true ⟨#[]⟩ = false := by simpa using hr
          have hck : chkA (S : Int) l ≠ 0 := fun h => by
            have := (chkA_ok h).2.2.2.1
            rw [hr2] at this; cases this
          rw [if_pos (.inr hck)]
          rcases hp : rdP C (S : Int) N true ⟨#[]⟩ a2 [] with _ | ⟨a3, l3⟩
          · rfl
          · have := ((rdP_iff C (S : Int) N true ⟨#[]⟩ a2 [] a3 l3).1 (by rw [hp, List.nil_append]))
            rw [List.nil_append, hd] at this
            obtain ⟨h8, h9⟩ := this
            injection h8 with h8
            injection h8 with _ h8
            rw [← h8, hr2] at h9; cases h9
    · rw [if_pos hc]
      have hq := mt (count_int C a1 0).1.2 hc
      rw [h2] at hq
      simp only at hq
      have hq2 : ((C.length : Int) - (a2 : Int)) / 4 < (N : Int) := by
        by_cases h9 : ((C.length : Int) - (a2 : Int)) / 4 < (N : Int)
        · exact h9
        · exact absurd (by simpa using h9) hq
      rcases hd : rdD C N a2 [] with _ | ⟨a', l⟩
      · rfl
      · exfalso
        obtain ⟨k1, k2, k3, k4⟩ := rdD_bytes C hC N a2 [] a' l hN4 (by rw [hd, List.nil_append])
        have h4 := all_four l k4
        have hlen := congrArg List.length k2
        rw [List.length_append, List.length_take, List.length_take] at hlen
        omega
  · rw [if_pos he]
    have hc : (rCount C a1 e1 1048576 4).2.2 ≠ 0 := fun h => by
      have := ((count_int C a1 e1).1.1 h).1
      rw [h2] at this
      exact he this
    rw [if_pos hc]
/-- what is read is what is written -/
theorem read_enc (C : List Int) (hC : IsBytes C) (hl : C.length + 8 ≤ 268435456) (s : Int) (l : List RowT) (h : readA C = some (s, l)) : chkA s l = 0 ∧ hdI s l ++ allR l = hwi ++ C ∧ l.length * 4 ≤ C.length ∧ 0 ≤ s := by
  have hd := read_doc C hC hl
  rw [h] at hd
  unfold docA at hd
  obtain ⟨S0, a1, e1, h1⟩ : ∃ s a1 e1, rInt C 0 0 1152921504606846976 = (s, a1, e1) := ⟨_, _, _, rfl⟩
  obtain ⟨n, a2, e2, h2⟩ : ∃ n a2 e2, rInt C a1 e1 1048576 = (n, a2, e2) := ⟨_, _, _, rfl⟩
  rw [h1] at hd
  simp only at hd
  rw [h2] at hd
  simp only at hd
  by_cases he : e2 = 0
  · subst he
    rw [if_neg (by simp)] at hd
    have ha1 : a1 ≤ C.length := by
      by_cases h0 : e1 = 0
      · have := (int_parts hC (Nat.zero_le _) (by decide) (show (rInt C 0 0 1152921504606846976).2.2 = 0 by rw [h1]; exact h0)).2
        obtain ⟨_, _, _, _, h5, _⟩ := this
        rw [h1] at h5; exact h5
      · have : (rInt C a1 e1 1048576).2.2 = e1 := by unfold rInt; rw [if_pos h0]
        rw [h2] at this
        exact absurd this.symm h0
    obtain ⟨he1, N, hN, hN2, hN3, hN4, _⟩ := int_parts hC ha1 (by decide) (show (rInt C a1 e1 1048576).2.2 = 0 by rw [h2])
    rw [h2] at hN hN3 hN4
    simp only at hN hN3 hN4
    subst hN
    subst he1
    obtain ⟨_, S, hS, hS2, hS3, hS4, _⟩ := int_parts hC (Nat.zero_le _) (by decide) (show (rInt C 0 0 1152921504606846976).2.2 = 0 by rw [h1])
    rw [h1] at hS hS3
    simp only at hS hS3
    subst hS
    rw [Int.toNat_natCast] at hd
    rcases hr : rdD C N a2 [] with _ | ⟨a', l2⟩
    · rw [hr] at hd; cases hd
    rw [hr] at hd
    simp only at hd
    by_cases hx : a' < C.length ∨ chkA (S : Int) l2 ≠ 0
    · rw [if_pos hx] at hd; cases hd
    rw [if_neg hx] at hd
    injection hd with hd
    injection hd with hd1 hd2
    subst hd1; subst hd2
    obtain ⟨k1, k2, k3, k4⟩ := rdD_bytes C hC N a2 [] a' l2 hN4 (by rw [hr, List.nil_append])
    have hck : chkA (S : Int) l2 = 0 := by
      by_cases h9 : chkA (S : Int) l2 = 0
      · exact h9
      · exact absurd (.inr h9) hx
    have ha' : ¬ a' < C.length := fun h9 => hx (.inl h9)
    have h4 := all_four l2 k4
    have hlen := congrArg List.length k2
    rw [List.length_append, List.length_take, List.length_take] at hlen
    refine ⟨hck, ?_, by omega, by omega⟩
    unfold hdI
    rw [k1, Int.toNat_natCast, List.append_assoc, ← List.take_of_length_le (show C.length ≤ a' by omega), ← k2, ← hN3, ← hS3, List.take_zero, List.nil_append]
  · rw [if_pos he] at hd; cases hd
/-- an image read: the error, the number, the rows -/
def decA (B : List Int) : Int × Int × List RowT :=
  if 268435456 < B.length then (90, 0, []) else if B.length < 10 ∨ B.take 4 ≠ hwi then (92, 0, []) else if holdsB B = false then (93, 0, [])
  else match readA ((B.take (B.length - 4)).drop 4) with
    | none => (92, 0, [])
    | some (s, l) => (0, s, l)
end Go.Proofs.Ytdmogbkfmeihfaa
