/- A reader: flags, counts, digests, rows. -/
import Derived.Test.YtbebinlnjpfbeaaPrA
import Derived.Test.YtbebinlnjpfbeaaRegMid
namespace Go.Proofs.Ytbebinlnjpfbeaa
open Go.RowKit
set_option maxRecDepth 100000
set_option linter.unusedVariables false
theorem getD_take32 {l : List Int} {j : Nat} (hj : j < 32) : (l.take 32).getD j 0 = l.getD j 0 := by
  rw [List.getD_eq_getElem?_getD, List.getD_eq_getElem?_getD, List.getElem?_take_of_lt hj]
theorem grown_rr {w w1 : World} {g g1 : Nat} {v : Value} {B : List Int} {a : Nat} {err : Int} {t : TypeId} {cs : Array Value} (h : Rr w g v B a err) (hb : Box w g1 t cs) (hg : w.grownBy w1 (some g1)) (hne : g1 ≠ g) (ht : 5 ≠ t) : Rr w1 g v B a err :=
  ⟨h.1.grown hg (fun e => hne (by injection e with e; exact e.symm)), h.2.1.kept hg (.inr (own_box h.2.1 hb ht)), h.2.2⟩
/-- the post, of a call that has also written into variables of its own -/
theorem rr_post {w w0 w1 : World} {g : Nat} {v : Value} {B : List Int} {a : Nat} {err : Int} {S : Nat → Prop} (hB : Below w.heap.size w w0) (hc : Chg S w0 w1) (hs : ∀ b, b < w.heap.size → S b → b = g) (h : Rr w1 g v B a err) : RrPost w g v B a err w1 :=
  ⟨h, ⟨hc.os.trans hB.os, hc.tape.trans hB.tape, hc.output.trans hB.output, Nat.le_trans hB.size hc.size, fun b hb hn => (hc.block b (Nat.lt_of_lt_of_le hb hB.size) fun h => hn (hs b hb h)).trans (hB.block b hb)⟩⟩
/-- a row's steps -/
theorem rRow_steps (B : List Int) (a : Nat) : rRow B a 0 =
    if (rInt B (rText B (rText B a 0 1024).2.1 (rText B a 0 1024).2.2 65536).2.1 (rText B (rText B a 0 1024).2.1 (rText B a 0 1024).2.2 65536).2.2 1152921504606846976).2.2 ≠ 0 then (([], [], 0), a, (rInt B (rText B (rText B a 0 1024).2.1 (rText B a 0 1024).2.2 65536).2.1 (rText B (rText B a 0 1024).2.1 (rText B a 0 1024).2.2 65536).2.2 1152921504606846976).2.2)
    else if (rText B a 0 1024).1 = [] ∨ (rInt B (rText B (rText B a 0 1024).2.1 (rText B a 0 1024).2.2 65536).2.1 (rText B (rText B a 0 1024).2.1 (rText B a 0 1024).2.2 65536).2.2 1152921504606846976).1 = 0 then (([], [], 0), a, 32)
    else (((rText B a 0 1024).1, (rText B (rText B a 0 1024).2.1 (rText B a 0 1024).2.2 65536).1, (rInt B (rText B (rText B a 0 1024).2.1 (rText B a 0 1024).2.2 65536).2.1 (rText B (rText B a 0 1024).2.1 (rText B a 0 1024).2.2 65536).2.2 1152921504606846976).1), (rInt B (rText B (rText B a 0 1024).2.1 (rText B a 0 1024).2.2 65536).2.1 (rText B (rText B a 0 1024).2.1 (rText B a 0 1024).2.2 65536).2.2 1152921504606846976).2.1, 0) := by
  have hbad : ∀ (b : Nat) (E m : Int), E ≠ 0 → rText B b E m = ([], b, E) := fun b E m h => by unfold rText; rw [if_pos h]
  have hbadI : ∀ (b : Nat) (E m : Int), E ≠ 0 → rInt B b E m = (0, b, E) := fun b E m h => by unfold rInt; rw [if_pos h]
  have ht : ∀ (b : Nat) (m : Int), rText B b 0 m = if (textA B b m).2.2 ≠ 0 then ([], b, (textA B b m).2.2) else textA B b m := fun b m => by unfold rText; rw [if_neg (by simp)]
  have hi : ∀ (b : Nat) (m : Int), rInt B b 0 m = if (uptoA B b m).2.2 ≠ 0 then (0, b, (uptoA B b m).2.2) else uptoA B b m := fun b m => by unfold rInt; rw [if_neg (by simp)]
  unfold rRow rowA
  rw [if_neg (by simp), ht a 1024]
  by_cases h1 : (textA B a 1024).2.2 ≠ 0
  · rw [if_pos h1, if_pos h1]
    simp only [hbad _ _ _ h1, hbadI _ _ _ h1]
    rw [if_pos h1]
  · have h1' : (textA B a 1024).2.2 = 0 := by simpa using h1
    rw [if_neg h1, if_neg h1, h1', ht (textA B a 1024).2.1 65536]
    generalize textA B a 1024 = t1 at *
    by_cases h2 : (textA B t1.2.1 65536).2.2 ≠ 0
    · rw [if_pos h2, if_pos h2]
      simp only [hbadI _ _ _ h2]
      rw [if_pos h2]
    · have h2' : (textA B t1.2.1 65536).2.2 = 0 := by simpa using h2
      rw [if_neg h2, if_neg h2, h2', hi]
      generalize textA B t1.2.1 65536 = t2 at *
      by_cases h3 : (uptoA B t2.2.1 1152921504606846976).2.2 ≠ 0
      · rw [if_pos h3, if_pos h3]
        simp only
        rw [if_pos h3]
      · rw [if_neg h3, if_neg h3]
        rw [if_neg h3]
theorem strOfNums_size (l : List Int) : (strOfNums l).size = l.length := by simp [strOfNums, ByteArray.size]
theorem rowC_one (k u : ByteArray) (n : Int) : (rowC k u n).all (·.oneCell') = true := by unfold rowC; simp [Value.oneCell']
theorem RrPost.trans' {w w1 w2 : World} {g : Nat} {v : Value} {B : List Int} {a a1 : Nat} {err e1 : Int} (h : RrPost w g v B a err w1) (h2 : RrPost w1 g v B a1 e1 w2) : RrPost w g v B a1 e1 w2 := h2.trans h.2
end Go.Proofs.Ytbebinlnjpfbeaa
