/- Texts taken up: pure, and what the walks need. -/
import Derived.Test.YtlaeiipiboabaaaTxD
import Derived.Test.YtlaeiipiboabaaaPrX
namespace Go.Proofs.Ytlaeiipiboabaaa
open Go.RowKit
set_option maxRecDepth 100000
set_option linter.unusedVariables false
/-- one text taken up: the error, the place behind it, the text -/
def opS (B : List Int) (first : Bool) (last : ByteArray) (all a : Nat) : Int × Nat × ByteArray :=
  if (rInt B a 0 65536).2.2 ≠ 0 then ((rInt B a 0 65536).2.2, 0, last)
  else if (last.size : Int) < (rInt B a 0 65536).1 then (32, 0, last)
  else if (rText B (rInt B a 0 65536).2.1 0 65536).2.2 ≠ 0 then ((rText B (rInt B a 0 65536).2.1 0 65536).2.2, 0, last)
  else if 65536 < (last.extract 0 (rInt B a 0 65536).1.toNat ++ strOfNums (rText B (rInt B a 0 65536).2.1 0 65536).1).size ∨ 268435456 < all + (last.extract 0 (rInt B a 0 65536).1.toNat ++ strOfNums (rText B (rInt B a 0 65536).2.1 0 65536).1).size then (31, 0, last)
  else if (rInt B a 0 65536).1 < (shL (byL last) (byL (last.extract 0 (rInt B a 0 65536).1.toNat ++ strOfNums (rText B (rInt B a 0 65536).2.1 0 65536).1)) : Int) then (32, 0, last)
  else if first = false ∧ lq (last.extract 0 (rInt B a 0 65536).1.toNat ++ strOfNums (rText B (rInt B a 0 65536).2.1 0 65536).1) last = true then (33, 0, last)
  else (0, (rText B (rInt B a 0 65536).2.1 0 65536).2.1, last.extract 0 (rInt B a 0 65536).1.toNat ++ strOfNums (rText B (rInt B a 0 65536).2.1 0 65536).1)
def opR (B : List Int) : Nat → Bool → ByteArray → Nat → List ByteArray → Nat → Int × Nat × List ByteArray
  | 0, _, _, _, l, a => (0, a, l)
  | m + 1, first, last, all, l, a =>
    if (opS B first last all a).1 ≠ 0 then ((opS B first last all a).1, a, l)
    else opR B m false (opS B first last all a).2.2 (all + (opS B first last all a).2.2.size) (l ++ [(opS B first last all a).2.2]) (opS B first last all a).2.1
def opC0 (B : List Int) : Int × Nat × List ByteArray :=
  if (rCount B 0 0 1048576 2).2.2 ≠ 0 then ((rCount B 0 0 1048576 2).2.2, 0, []) else opR B (rCount B 0 0 1048576 2).1.toNat true ⟨#[]⟩ 0 [] (rCount B 0 0 1048576 2).2.1
def opA (B : List Int) : Int × List ByteArray :=
  if rEnd B (opC0 B).2.1 (opC0 B).1 ≠ 0 then (rEnd B (opC0 B).2.1 (opC0 B).1, []) else (0, (opC0 B).2.2)
def mE (err : Int) (ok : Bool) (e : Int) : Int := if err ≠ 0 then err else if ok then 0 else e
theorem R_must_any (g : Nat) (v : Value) (B : List Int) (a : Nat) (err : Int) (ok : Bool) (e : Int) (w : World) (h : Rr w g v B a err) (he : e ≠ 0) :
    Calls Try.prog 50 #[.pointer (some ⟨g, 0, none⟩), .bool ok, .int .i64 e] w fun en w' => en = .returned (.bool (mE err ok e == 0)) ∧ RrPost w g v B a (mE err ok e) w' := by
  unfold mE
  by_cases h0 : err = 0
  · subst h0
    rw [if_neg (by simp)]
    cases ok
    · have hb : (e == 0) = false := by rw [beq_eq_false_iff_ne]; exact he
      refine (must_no g _ _ e w h.1 rfl he (by simp)).mono ?_
      rintro en w1 ⟨rfl, hb1, hg⟩
      exact ⟨by simp only [Bool.false_eq_true, if_false, hb], h.failed e hb1 hg⟩
    · refine (must_go g _ _ e w h.1 rfl).mono ?_
      rintro en w1 ⟨rfl, rfl⟩
      exact ⟨rfl, h.same⟩
  · rw [if_pos h0]
    have hb : (err == 0) = false := by rw [beq_eq_false_iff_ne]; exact h0
    refine (must_bad g _ _ err e ok w h.1 rfl h0).mono ?_
    rintro en w1 ⟨rfl, rfl⟩
    exact ⟨by rw [hb], h.same⟩
theorem rCount_n (B : List Int) (hB : IsBytes B) : ∃ n : Nat, (rCount B 0 0 1048576 2).1 = (n : Int) ∧ n ≤ 1048576 := by
  unfold rCount
  rw [if_neg (by simp), if_neg (by decide)]
  rcases uptoA_cases B hB 0 (Nat.zero_le _) 1048576 (by decide) with ⟨E, hE, e⟩ | ⟨u, k, e, _, _, _, h1, _, _⟩
  · rw [e, if_pos (by simp only; omega)]; exact ⟨0, rfl, by decide⟩
  · rw [e, if_neg (by simp)]
    split
    · exact ⟨0, rfl, by decide⟩
    · exact ⟨u, rfl, by omega⟩
theorem rInt_n (B : List Int) (hB : IsBytes B) (a : Nat) (ha : a ≤ B.length) (err : Int) : ∃ n : Nat, (rInt B a err 65536).1 = (n : Int) ∧ n ≤ 65536 := by
  unfold rInt
  by_cases h0 : err ≠ 0
  · rw [if_pos h0]; exact ⟨0, rfl, by decide⟩
  · rw [if_neg h0]
    rcases uptoA_cases B hB a ha 65536 (by decide) with ⟨E, hE, e⟩ | ⟨u, k, e, _, _, _, h1, _, _⟩
    · rw [e, if_pos (by simp only; omega)]; exact ⟨0, rfl, by decide⟩
    · rw [e, if_neg (by simp)]; exact ⟨u, rfl, by omega⟩
theorem textA_n (B : List Int) (hB : IsBytes B) (a : Nat) (ha : a ≤ B.length) : (textA B a 65536).1.length ≤ 65536 ∧ IsBytes (textA B a 65536).1 := by
  unfold textA
  rcases uptoA_cases B hB a ha 65536 (by decide) with ⟨E, hE, e⟩ | ⟨u, k, e, _, _, _, h1, _, _⟩
  · rw [e, if_pos (by simp only; omega)]; exact ⟨Nat.zero_le _, fun b hb => absurd hb (by simp)⟩
  · rw [e, if_neg (by simp)]
    split
    · exact ⟨Nat.zero_le _, fun b hb => absurd hb (by simp)⟩
    · refine ⟨?_, fun b hb => hB b (List.mem_of_mem_drop (List.mem_of_mem_take hb))⟩
      simp only [Int.toNat_natCast, List.length_take]
      omega
theorem rText_n (B : List Int) (hB : IsBytes B) (a : Nat) (ha : a ≤ B.length) (err : Int) : (rText B a err 65536).1.length ≤ 65536 ∧ IsBytes (rText B a err 65536).1 := by
  unfold rText
  split
  · exact ⟨Nat.zero_le _, fun b hb => absurd hb (by simp)⟩
  split
  · exact ⟨Nat.zero_le _, fun b hb => absurd hb (by simp)⟩
  · exact textA_n B hB a ha
section
variable {P : Program} {ops : Array Oper} {rest : List Oper} {o : Oper} {a : Act} {Q : Exit → Act → World → Prop}
/-- make([]string, 0, n) -/
theorem make0_strs {w0 W : World} (base : Nat) (hg : o.guard = none) (l c : Operand) (t e : TypeId) (hop : o.op = Op.makeSlice t l c)
    (ht : P.underlying t = some (.slice e)) (hinfo : (P.info? e).map (fun i => (i.zero, i.size, i.bytes)) = some (some (.string ⟨#[]⟩), 1, 16)) (kl kc : IntKind) (C : Int) (n : Nat)
    (hl : a.eval l = .int kl 0) (hc : a.eval c = .int kc C) (hC : C = (n : Int)) (hn : n ≤ 1048576) (HB : Below base w0 W) (hbase : base ≤ W.heap.size)
    (h : ∀ v1 w1, w1.ownsRow base e 1 v1 0 [] → Below base w0 w1 → W.grownBy w1 none → v1.ownBlock = some W.heap.size → wpList P ops Q rest (a.put o.dst v1) w1) :
    wpList P ops Q (o :: rest) a W := by
  obtain ⟨i0, hi, hz0, hz1, hz2⟩ := info_parts hinfo
  refine wpList_make_own W hg l c t hop base e i0 (.string ⟨#[]⟩) 1 ht hi hz0 hz1 kl kc C n hl hc hC (by rw [hz2]; omega) (by unfold maxLen; omega) hbase ?_
  intro w1 h1 h2
  exact h _ w1 h1 (HB.grown h2 hbase fun k hk => by cases hk) h2 rfl
end
/-- a reader and a list of texts that grows -/
def Lk (w0 W : World) (g : Nat) (v : Value) (B : List Int) (a : Nat) (err : Int) (u : Value) (l : List ByteArray) : Prop :=
  Rr W g v B a err ∧ W.ownsRow w0.heap.size 9 1 u l.length (l.map Value.string) ∧ w0.heap.size ≤ g ∧ Below w0.heap.size w0 W
section
variable {w0 W W1 : World} {g : Nat} {v u : Value} {B : List Int} {a a1 : Nat} {err e1 : Int} {l : List ByteArray}
theorem Lk.post (t : Lk w0 W g v B a err u l) (p : RrPost W g v B a1 e1 W1) : Lk w0 W1 g v B a1 e1 u l := by
  refine ⟨p.1, row_chg t.2.1 p.2 (fun k hk h => ?_), t.2.2.1, p.2.then t.2.2.2 (fun k h => by rw [h]; exact t.2.2.1) t.2.2.2.size⟩
  subst h
  rcases own_ne t.2.1 t.1.1 (by decide) with h1 | h1
  · rw [h1] at hk; cases hk
  · exact h1 hk
theorem Lk.keep (t : Lk w0 W g v B a err u l) (hb : Below W.heap.size W W1) : Lk w0 W1 g v B a err u l :=
  ⟨t.1.keep hb, row_keep t.2.1 hb, t.2.2.1, bel_trans t.2.2.2 hb⟩
theorem Lk.app {s : ByteArray} {u1 : Value} (t : Lk w0 W g v B a err u l) (h1 : W1.ownsRow w0.heap.size 9 1 u1 (l.length + 1) (l.map Value.string ++ [Value.string s])) (hg : W.grownBy W1 u.ownBlock) : Lk w0 W1 g v B a err u1 (l ++ [s]) := by
  refine ⟨⟨t.1.1.grown hg ?_, own_past t.1.2.1 t.2.1 hg (by decide), t.1.2.2⟩, by rw [List.length_append, List.map_append]; exact h1, t.2.2.1, t.2.2.2.grown hg t.2.2.2.size (fun k hk => (t.2.1.lt k hk).1)⟩
  intro h
  rcases own_ne t.2.1 t.1.1 (by decide) with h2 | h2
  · rw [h2] at h; cases h
  · exact h2 h.symm
end
/-- texts answered -/
def OpRet (w : World) (R : Int × List ByteArray) (e : Ending) (w' : World) : Prop := ∃ u, e = .returned (.tuple #[u, .int .i64 R.1]) ∧ RdS w' u R.2 ∧ Below w.heap.size w w'
end Go.Proofs.Ytlaeiipiboabaaa
