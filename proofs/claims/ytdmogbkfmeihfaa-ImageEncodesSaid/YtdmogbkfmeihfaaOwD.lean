/- The document's Own of two and of three lists. -/
import Derived.Test.YtdmogbkfmeihfaaOwC
namespace Go.Proofs.Ytdmogbkfmeihfaa
open Go.RowKit
set_option maxRecDepth 100000
set_option linter.unusedVariables false
theorem Own.toN {W : World} {base : Nat} {e : TypeId} {v : Value} {xs : List Int} (h : Own W base e v xs) : OwnN W v xs := by
  by_cases hv : v = .slice none 0 0
  · subst hv
    obtain ⟨A, c, he, _⟩ := h.rd.form
    injection he with _ e2 _
    exact .inl ⟨rfl, List.eq_nil_of_length_eq_zero e2.symm⟩
  · exact .inr ((h.toF hv).low (Nat.zero_le _))
theorem Own3_any (a b c : Value) (xa xb xc : List Int) (gl : Nat) (w : World) (ha : OwnN w a xa) (hb : OwnN w b xb) (hc : OwnN w c xc) (c0 : w.cell? ⟨gl, 0, none⟩ = some a) (c1 : w.cell? ⟨gl, 1, none⟩ = some b) (c2 : w.cell? ⟨gl, 2, none⟩ = some c)
    (la : xa.length ≤ 70368744177664) (lb : xb.length ≤ 70368744177664) (lc : xc.length ≤ 70368744177664) (hab : ∀ k, a.ownBlock = some k → b.ownBlock ≠ some k) (hac : ∀ k, a.ownBlock = some k → c.ownBlock ≠ some k) (hbc : ∀ k, b.ownBlock = some k → c.ownBlock ≠ some k)
    (ga : a.ownBlock ≠ some gl) (gb : b.ownBlock ≠ some gl) (gc : c.ownBlock ≠ some gl) :
    Calls Try.prog 27 #[.slice (some ⟨gl, 0, none⟩) 3 3] w fun e w' => e = .returned (.bool true) ∧ Chg (fun k => a.ownBlock = some k ∨ b.ownBlock = some k ∨ c.ownBlock = some k) w w' := by
  refine (Own_any 3 (by decide) gl 3 (by decide) (by decide) (fun j => if j = 0 then a else if j = 1 then b else c) (fun j => if j = 0 then xa else if j = 1 then xb else xc) w ?_ ?_ ?_ ?_ ?_).mono ?_
  · intro j hj
    match j, hj with
    | 0, _ => exact c0
    | 1, _ => exact c1
    | 2, _ => exact c2
  · intro j hj
    match j, hj with
    | 0, _ => exact ha
    | 1, _ => exact hb
    | 2, _ => exact hc
  · intro j hj
    match j, hj with
    | 0, _ => exact la
    | 1, _ => exact lb
    | 2, _ => exact lc
  · intro i j hi hj hij k
    match i, hi, j, hj with
    | 0, _, 0, _ => exact absurd rfl hij
    | 0, _, 1, _ => exact hab k
    | 0, _, 2, _ => exact hac k
    | 1, _, 0, _ => exact fun h1 h2 => hab k h2 h1
    | 1, _, 1, _ => exact absurd rfl hij
    | 1, _, 2, _ => exact hbc k
    | 2, _, 0, _ => exact fun h1 h2 => hac k h2 h1
    | 2, _, 1, _ => exact fun h1 h2 => hbc k h2 h1
    | 2, _, 2, _ => exact absurd rfl hij
  · intro j hj
    match j, hj with
    | 0, _ => exact ga
    | 1, _ => exact gb
    | 2, _ => exact gc
  · rintro e w' ⟨h1, h2⟩
    refine ⟨h1, h2.mono fun k _ ⟨j, hj, e⟩ => ?_⟩
    match j, hj, e with
    | 0, _, e => exact .inl e
    | 1, _, e => exact .inr (.inl e)
    | 2, _, e => exact .inr (.inr e)
theorem Own2_any (a b : Value) (xa xb : List Int) (gl : Nat) (w : World) (ha : OwnN w a xa) (hb : OwnN w b xb) (c0 : w.cell? ⟨gl, 0, none⟩ = some a) (c1 : w.cell? ⟨gl, 1, none⟩ = some b)
    (la : xa.length ≤ 70368744177664) (lb : xb.length ≤ 70368744177664) (hab : ∀ k, a.ownBlock = some k → b.ownBlock ≠ some k) (ga : a.ownBlock ≠ some gl) (gb : b.ownBlock ≠ some gl) :
    Calls Try.prog 27 #[.slice (some ⟨gl, 0, none⟩) 2 2] w fun e w' => e = .returned (.bool true) ∧ Chg (fun k => a.ownBlock = some k ∨ b.ownBlock = some k) w w' := by
  refine (Own_any 2 (by decide) gl 2 (by decide) (by decide) (fun j => if j = 0 then a else b) (fun j => if j = 0 then xa else xb) w ?_ ?_ ?_ ?_ ?_).mono ?_
  · intro j hj
    match j, hj with
    | 0, _ => exact c0
    | 1, _ => exact c1
  · intro j hj
    match j, hj with
    | 0, _ => exact ha
    | 1, _ => exact hb
  · intro j hj
    match j, hj with
    | 0, _ => exact la
    | 1, _ => exact lb
  · intro i j hi hj hij k
    match i, hi, j, hj with
    | 0, _, 0, _ => exact absurd rfl hij
    | 0, _, 1, _ => exact hab k
    | 1, _, 0, _ => exact fun h1 h2 => hab k h2 h1
    | 1, _, 1, _ => exact absurd rfl hij
  · intro j hj
    match j, hj with
    | 0, _ => exact ga
    | 1, _ => exact gb
  · rintro e w' ⟨h1, h2⟩
    refine ⟨h1, h2.mono fun k _ ⟨j, hj, e⟩ => ?_⟩
    match j, hj, e with
    | 0, _, e => exact .inl e
    | 1, _, e => exact .inr e
end Go.Proofs.Ytdmogbkfmeihfaa
