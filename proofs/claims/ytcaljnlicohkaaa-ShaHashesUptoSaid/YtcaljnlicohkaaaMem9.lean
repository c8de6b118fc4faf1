/- Worlds that differ in named blocks alone: over any program. -/
import Derived.Test.YtcaljnlicohkaaaMem8
namespace Go.Proofs.Ytcaljnlicohkaaa
open Go.RowKit
/-- of what was there only the blocks of S may have changed -/
structure Chg (S : Nat → Prop) (w w1 : World) : Prop where
  os : w1.os = w.os
  tape : w1.tape = w.tape
  output : w1.output = w.output
  size : w.heap.size ≤ w1.heap.size
  block : ∀ k, k < w.heap.size → ¬ S k → w1.heap[k]? = w.heap[k]?
section
variable {S S' : Nat → Prop} {w w1 w2 : World}
theorem Chg.refl (S : Nat → Prop) (w : World) : Chg S w w := ⟨rfl, rfl, rfl, Nat.le_refl _, fun _ _ _ => rfl⟩
theorem Chg.trans (h : Chg S w w1) (k : Chg S' w1 w2) (hs : ∀ b, b < w.heap.size → S' b → S b) : Chg S w w2 :=
  ⟨k.os.trans h.os, k.tape.trans h.tape, k.output.trans h.output, Nat.le_trans h.size k.size, fun b hb hn => (k.block b (Nat.lt_of_lt_of_le hb h.size) fun h' => hn (hs b hb h')).trans (h.block b hb hn)⟩
theorem Chg.mono (h : Chg S w w1) (hs : ∀ b, b < w.heap.size → S b → S' b) : Chg S' w w1 := ⟨h.os, h.tape, h.output, h.size, fun b hb hn => h.block b hb fun h' => hn (hs b hb h')⟩
theorem Chg.below (h : Below w.heap.size w w1) : Chg S w w1 := ⟨h.os, h.tape, h.output, h.size, fun b hb _ => h.block b hb⟩
theorem Chg.of {row : Option Nat} (h : w.grownBy w1 row) : Chg (fun k => some k = row) w w1 := ⟨h.os, h.tape, h.output, h.size, fun b hb hn => h.block b hb hn⟩
theorem Chg.grown {row : Option Nat} (h : w.grownBy w1 row) (hs : ∀ b, b < w.heap.size → some b = row → S b) : Chg S w w1 := (Chg.of h).mono hs
/-- only newer blocks have changed -/
theorem Chg.to_below {B : Nat} (h : Chg S w w1) (hs : ∀ b, S b → B ≤ b) (hB : B ≤ w.heap.size) : Below B w w1 :=
  ⟨h.os, h.tape, h.output, h.size, fun b hb => h.block b (by omega) fun h' => by have := hs b h'; omega⟩
theorem Chg.then {B : Nat} {w0 : World} (h0 : Below B w0 w) (h : Chg S w w1) (hs : ∀ b, S b → B ≤ b) (hB : B ≤ w.heap.size) : Below B w0 w1 := h0.trans (h.to_below hs hB)
theorem Chg.cell (h : Chg S w w1) {a : Addr} {v : Value} (hc : w.cell? a = some v) (hn : ¬ S a.block) : w1.cell? a = some v := by
  rw [World.cell?_of_block (w := w) (h.block a.block (World.block_lt_of_cell? w a hc) hn)]
  exact hc
theorem Box.chg {g : Nat} {t : TypeId} {cs : Array Value} (hb : Box w g t cs) (h : Chg S w w1) (hn : ¬ S g) : Box w1 g t cs := (h.block g hb.lt hn).trans hb
theorem row_chg {base size n : Nat} {e : TypeId} {v : Value} {xs : List Value} (ho : w.ownsRow base e size v n xs) (h : Chg S w w1) (hn : ∀ k, v.ownBlock = some k → ¬ S k) : w1.ownsRow base e size v n xs := by
  refine ⟨ho.1, ?_⟩
  rcases ho.2 with h1 | ⟨g, cap, cur, rfl, hb, hg, hr⟩
  · exact .inl h1
  · exact .inr ⟨g, cap, cur, rfl, hb, (h.block g (Array.getElem?_eq_some_iff.1 hg).1 (hn g rfl)).trans hg, hr⟩
theorem Own.chg {base : Nat} {e : TypeId} {v : Value} {xs : List Int} (ho : Own w base e v xs) (h : Chg S w w1) (hn : ∀ k, v.ownBlock = some k → ¬ S k) : Own w1 base e v xs := ⟨ho.1, row_chg ho.2 h hn⟩
theorem RdC.chg {size n : Nat} {v : Value} {cs : List Value} (hr : RdC size w v n cs) (h : Chg S w w1) (hn : ∀ k, v.ownBlock = some k → ¬ S k) : RdC size w1 v n cs := by
  obtain ⟨hl, A, cap, rfl, h1, h2, h3, h4⟩ := hr
  refine ⟨hl, A, cap, rfl, h1, h2, h3, fun j hj => ?_⟩
  obtain ⟨b, off, ha, hc⟩ := h4 j hj
  subst ha
  refine ⟨b, off, rfl, ?_⟩
  rw [List.getElem?_eq_getElem hj] at hc ⊢
  exact h.cell hc (hn b rfl)
theorem Rd.chg {v : Value} {xs : List Int} (hr : Rd w v xs) (h : Chg S w w1) (hn : ∀ k, v.ownBlock = some k → ¬ S k) : Rd w1 v xs := ⟨hr.1, hr.2.chg h hn⟩
end
/-- an own row is not a variable of another kind -/
theorem own_box {W : World} {base g : Nat} {e t : TypeId} {v : Value} {xs : List Int} {cs : Array Value} (h : Own W base e v xs) (hb : Box W g t cs) (hne : e ≠ t) : v.ownBlock ≠ some g := by
  rcases own_ne h.2 hb hne with h1 | h1
  · rw [h1]; simp
  · exact h1
theorem box_box {W : World} {g g' : Nat} {t t' : TypeId} {cs cs' : Array Value} (h : Box W g t cs) (h' : Box W g' t' cs') (hne : t ≠ t') : g ≠ g' := by
  rintro rfl
  unfold Box at h h'
  rw [h] at h'
  injection h' with h'
  injection h' with _ h'
  exact hne h'
theorem own_lt {W : World} {base : Nat} {e : TypeId} {v : Value} {xs : List Int} (h : Own W base e v xs) (k : Nat) (hk : v.ownBlock = some k) : base ≤ k ∧ k < W.heap.size := h.2.lt k hk
end Go.Proofs.Ytcaljnlicohkaaa
