/- A call of a writer and the same call of a reader (pure). -/
import Derived.Test.YtlaeiipiboabaaaMdE
import Derived.Test.YtlaeiipiboabaaaPbA
namespace Go.Proofs.Ytlaeiipiboabaaa
open Go.RowKit
set_option maxRecDepth 100000
set_option linter.unusedVariables false
theorem str_back (S : ByteArray) : strOfNums (byL S) = S := by
  obtain ⟨d⟩ := S
  unfold strOfNums byL
  simp only [List.map_map]
  congr 1
  apply Array.ext'
  rw [List.toList_toArray]
  conv => rhs; rw [← List.map_id d.toList]
  apply List.map_congr_left
  intro b hb
  simp
/-- what a call of a script makes of a reader that takes up what a writer laid down: its place and its error -/
def tkStep (B : List Int) (a : Nat) (err call most : Int) : Nat × Int :=
  if call = 0 then (rUint B a err).2 else if call = 1 then (rInt B a err most).2 else if call = 2 then (rText B a err most).2 else if call = 3 then (rFlag B a err).2 else if call = 4 then (rDigest B a err).2 else if call = 5 then (rRow B a err).2 else (a, err)
/-- what is read there is the call's own -/
def tkOk (B : List Int) (a : Nat) (err call V n most m : Int) (S k u : ByteArray) (F : Bool) (ds : List Int) : Prop :=
  (call = 0 → (rUint B a err).1 = V) ∧ (call = 1 → (rInt B a err most).1 = n) ∧ (call = 2 → (rText B a err most).1 = byL S) ∧ (call = 3 → (rFlag B a err).1 = F) ∧ (call = 4 → (rDigest B a err).1 = ds) ∧ (call = 5 → (rRow B a err).1 = (byL k, byL u, m))
/-- what PackBack's script makes of a writer -/
def bkStep (s : WS) (call V n most : Int) (S : ByteArray) (F : Bool) (ds : List Int) (k u : ByteArray) (m : Int) : WS := if call = 6 then s else wStep s call V n most S F ds k u m
theorem bk_back (L : List Int) (call n most m : Int) (V : Nat) (S k u : ByteArray) (F : Bool) (ds : List Int) (hV : V < 18446744073709551616) (hn : n ≤ 9223372036854775807) (hd : ds.length = 32) (hm : m ≤ 9223372036854775807) (hS : S.size ≤ 140737488351232) (h0 : (bkStep (0, L) call V n most S F ds k u m).1 = 0) :
    ∃ E : List Int, bkStep (0, L) call V n most S F ds k u m = (0, L ++ E) ∧ ∀ R : List Int, tkStep (L ++ (E ++ R)) L.length 0 call most = (L.length + E.length, 0) ∧ tkOk (L ++ (E ++ R)) L.length 0 call V n most m S k u F ds := by
  unfold bkStep at h0 ⊢
  by_cases c6 : call = 6
  · subst c6
    refine ⟨[], by rw [if_pos rfl, List.append_nil], fun R => ⟨rfl, ?_⟩⟩
    exact ⟨fun h => absurd h (by decide), fun h => absurd h (by decide), fun h => absurd h (by decide), fun h => absurd h (by decide), fun h => absurd h (by decide), fun h => absurd h (by decide)⟩
  rw [if_neg c6] at h0 ⊢
  by_cases c0 : call = 0
  · subst c0
    refine ⟨lebB V, rfl, fun R => ?_⟩
    have e := rUint_at L R V hV
    refine ⟨by show (rUint _ _ _).2 = _; rw [e], fun _ => by rw [e], fun h => absurd h (by decide), fun h => absurd h (by decide), fun h => absurd h (by decide), fun h => absurd h (by decide), fun h => absurd h (by decide)⟩
  by_cases c1 : call = 1
  · subst c1
    have hw : wStep (0, L) 1 V n most S F ds k u m = wInt (0, L) n most := rfl
    rw [hw] at h0 ⊢
    unfold wInt at h0 ⊢
    rw [if_neg (by simp)] at h0 ⊢
    by_cases hA : n < 0 ∨ most < 0
    · rw [if_pos hA] at h0; cases h0
    rw [if_neg hA] at h0 ⊢
    by_cases hB : most < n
    · rw [if_pos hB] at h0; cases h0
    rw [if_neg hB]
    refine ⟨lebB n.toNat, rfl, fun R => ?_⟩
    have e := rInt_at L R n.toNat (by omega) most (by omega)
    refine ⟨by show (rInt _ _ _ _).2 = _; rw [e], fun h => absurd h (by decide), fun _ => by rw [e]; show ((n.toNat : Nat) : Int) = n; omega, fun h => absurd h (by decide), fun h => absurd h (by decide), fun h => absurd h (by decide), fun h => absurd h (by decide)⟩
  by_cases c2 : call = 2
  · subst c2
    have hw : wStep (0, L) 2 V n most S F ds k u m = wText (0, L) (byL S) most := rfl
    rw [hw] at h0 ⊢
    unfold wText at h0 ⊢
    rw [if_neg (by simp)] at h0 ⊢
    by_cases hA : most < 0
    · rw [if_pos hA] at h0; cases h0
    rw [if_neg hA] at h0 ⊢
    by_cases hB : most < ((byL S).length : Int)
    · rw [if_pos hB] at h0; cases h0
    rw [if_neg hB]
    refine ⟨lebB (byL S).length ++ byL S, rfl, fun R => ?_⟩
    have hz : (byL S).length < 18446744073709551616 := by rw [byL_length]; omega
    have e := rText_at L (byL S) R hz most (by omega)
    rw [← List.append_assoc (lebB _)] at e
    refine ⟨by show (rText _ _ _ _).2 = _; rw [e, List.length_append, Nat.add_assoc], fun h => absurd h (by decide), fun h => absurd h (by decide), fun _ => by rw [e], fun h => absurd h (by decide), fun h => absurd h (by decide), fun h => absurd h (by decide)⟩
  by_cases c3 : call = 3
  · subst c3
    refine ⟨[if F then 1 else 0], rfl, fun R => ?_⟩
    have e := rFlag_at L R F
    refine ⟨by show (rFlag _ _ _).2 = _; rw [List.singleton_append, e]; rfl, fun h => absurd h (by decide), fun h => absurd h (by decide), fun h => absurd h (by decide), fun _ => by rw [List.singleton_append, e], fun h => absurd h (by decide), fun h => absurd h (by decide)⟩
  by_cases c4 : call = 4
  · subst c4
    refine ⟨ds, rfl, fun R => ?_⟩
    have e := rDigest_at L ds R hd
    refine ⟨by show (rDigest _ _ _).2 = _; rw [e, hd], fun h => absurd h (by decide), fun h => absurd h (by decide), fun h => absurd h (by decide), fun h => absurd h (by decide), fun _ => by rw [e], fun h => absurd h (by decide)⟩
  by_cases c5 : call = 5
  · subst c5
    have hw : wStep (0, L) 5 V n most S F ds k u m = wRow (0, L) (byL k) (byL u) m := rfl
    rw [hw] at h0 ⊢
    unfold wRow at h0 ⊢
    rw [if_neg (by simp)] at h0 ⊢
    by_cases hA : byL k = [] ∨ m < 1
    · rw [if_pos hA] at h0; cases h0
    rw [if_neg hA] at h0 ⊢
    by_cases hB : 1024 < ((byL k).length : Int) ∨ 65536 < ((byL u).length : Int) ∨ 1152921504606846976 < m
    · rw [if_pos hB] at h0; cases h0
    rw [if_neg hB]
    obtain ⟨M, rfl⟩ : ∃ M : Nat, m = (M : Int) := ⟨m.toNat, by omega⟩
    rw [Int.toNat_natCast]
    refine ⟨lebB (byL k).length ++ (byL k ++ (lebB (byL u).length ++ (byL u ++ lebB M))), by simp [List.append_assoc], fun R => ?_⟩
    have e := rRow_at L (byL k) (byL u) R M (fun h => hA (.inl h)) (by omega) (by omega) (by omega) (by omega)
    have e2 : (lebB (byL k).length ++ (byL k ++ (lebB (byL u).length ++ (byL u ++ lebB M)))) ++ R = lebB (byL k).length ++ (byL k ++ (lebB (byL u).length ++ (byL u ++ (lebB M ++ R)))) := by simp [List.append_assoc]
    rw [e2]
    refine ⟨by show (rRow _ _ _).2 = _; rw [e]; simp only [List.length_append]; congr 1; omega, fun h => absurd h (by decide), fun h => absurd h (by decide), fun h => absurd h (by decide), fun h => absurd h (by decide), fun h => absurd h (by decide), fun _ => by rw [e]⟩
  have hw : wStep (0, L) call V n most S F ds k u m = (0, L) := by unfold wStep; rw [if_neg c0, if_neg c1, if_neg c2, if_neg c3, if_neg c4, if_neg c5, if_neg c6]
  rw [hw]
  refine ⟨[], by rw [List.append_nil], fun R => ⟨by unfold tkStep; rw [if_neg c0, if_neg c1, if_neg c2, if_neg c3, if_neg c4, if_neg c5]; rfl, fun h => absurd h c0, fun h => absurd h c1, fun h => absurd h c2, fun h => absurd h c3, fun h => absurd h c4, fun h => absurd h c5⟩⟩
/-- the error does not look at the bytes -/
theorem wStep_err (s t : WS) (h : s.1 = t.1) (call n most m : Int) (V : Nat) (S k u : ByteArray) (F : Bool) (ds : List Int) : (wStep s call V n most S F ds k u m).1 = (wStep t call V n most S F ds k u m).1 := by
  obtain ⟨e, L⟩ := s
  obtain ⟨e2, M⟩ := t
  simp only at h
  subst h
  unfold wStep wUint wInt wText wFlag wRow wLay wFail
  repeat (first | rfl | split)
/-- an error stays -/
theorem wStep_stays (s : WS) (h : s.1 ≠ 0) (call n most m : Int) (V : Nat) (S k u : ByteArray) (F : Bool) (ds : List Int) : wStep s call V n most S F ds k u m = s := by
  unfold wStep wUint wInt wText wFlag wRow wLay wFail
  simp only [if_neg h, if_pos h, ite_self]
end Go.Proofs.Ytlaeiipiboabaaa
