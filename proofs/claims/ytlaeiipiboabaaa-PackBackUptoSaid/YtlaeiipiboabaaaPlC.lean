/- Both readers, looked at and asked the same. -/
import Derived.Test.YtlaeiipiboabaaaPlB
import Derived.Test.YtlaeiipiboabaaaLend
namespace Go.Proofs.Ytlaeiipiboabaaa
open Go.RowKit
set_option maxRecDepth 100000
set_option linter.unusedVariables false
theorem R_End_draw (g : Nat) (v : Value) (B : List Int) (a : Nat) (err : Int) (w : World) (h : Rr w g v B a err) :
    Calls Try.prog 46 #[.pointer (some ⟨g, 0, none⟩)] w fun e w' => e = .returned (.int .i64 (rEnd B a err)) ∧ ∃ m, w' = w.drewN m := by
  have hS := hd_ h
  have ha := h.2.2
  by_cases h0 : err = 0
  · subst h0
    by_cases h1 : a < B.length
    · have hE : rEnd B a 0 = 34 := by unfold rEnd; rw [if_pos ⟨rfl, h1⟩]
      rw [hE]
      have hd0 : decide (0 < (B.length : Int) - (a : Int)) = true := decide_eq_true (by omega)
      clear h hE
      go_enter Try.func46, Try.ntmps46
      go_wp2_with (first
        | (go_at_call 38; refine (R_Err_any g v B a 0 _ hS.out).mono ?_; rintro e w2 ⟨rfl, rfl⟩)
        | (go_at_call 30; refine (R_Left_any g v B a 0 _ hS.out).mono ?_; rintro e w2 ⟨rfl, m2, rfl⟩))
      go_ret
      exact ⟨rfl, _, rfl⟩
    · have hE : rEnd B a 0 = 0 := by unfold rEnd; rw [if_neg (fun h => h1 h.2)]
      rw [hE]
      have hd0 : decide (0 < (B.length : Int) - (a : Int)) = false := decide_eq_false (by omega)
      clear h hE
      go_enter Try.func46, Try.ntmps46
      go_wp2_with (first
        | (go_at_call 38; refine (R_Err_any g v B a 0 _ hS.out).mono ?_; rintro e w2 ⟨rfl, rfl⟩)
        | (go_at_call 30; refine (R_Left_any g v B a 0 _ hS.out).mono ?_; rintro e w2 ⟨rfl, m2, rfl⟩))
      go_ret
      exact ⟨rfl, _, rfl⟩
  · have hE : rEnd B a err = err := by unfold rEnd; rw [if_neg (fun h => h0 h.1)]
    rw [hE]
    have hB : (err == 0) = false := by rw [beq_eq_false_iff_ne]; exact h0
    clear h hE h0
    go_enter Try.func46, Try.ntmps46
    go_wp2_with (go_at_call 38; refine (R_Err_any g v B a err _ hS.out).mono ?_; rintro e w2 ⟨rfl, rfl⟩)
    go_ret
    exact ⟨rfl, 0, rfl⟩
theorem Q_End_draw (g : Nat) (v : Value) (B : List Int) (a : Nat) (err : Int) (w : World) (h : Qr w g v B a err) :
    Calls Try.prog 75 #[.pointer (some ⟨g, 0, none⟩)] w fun e w' => e = .returned (.int .i64 (rEnd B a err)) ∧ ∃ m, w' = w.drewN m := by
  have q0 : w.cell? ⟨g, 0, none⟩ = some v := h.1.cell 0 rfl
  have q1 : w.cell? ⟨g, 1, none⟩ = some (.int .i64 (a : Int)) := h.1.cell 1 rfl
  have q2 : w.cell? ⟨g, 2, none⟩ = some (.int .i64 err) := h.1.cell 2 rfl
  have hlen := h.2.1.2.len (P := Try.prog) 25 5 3 Try.underlying25
  clear h
  by_cases h0 : err = 0
  · subst h0
    by_cases h1 : a < B.length
    · have hE : rEnd B a 0 = 34 := by unfold rEnd; rw [if_pos ⟨rfl, h1⟩]
      rw [hE]
      have h1I : (a : Int) < (B.length : Int) := by omega
      go_enter Try.func75, Try.ntmps75
      go_wp2
      go_quiet (fail)
      go_wp2
      go_ret
      exact ⟨rfl, _, rfl⟩
    · have hE : rEnd B a 0 = 0 := by unfold rEnd; rw [if_neg (fun h => h1 h.2)]
      rw [hE]
      have h1I : ¬ (a : Int) < (B.length : Int) := by omega
      go_enter Try.func75, Try.ntmps75
      go_wp2
      go_quiet (fail)
      go_wp2
      go_ret
      exact ⟨rfl, _, rfl⟩
  · have hE : rEnd B a err = err := by unfold rEnd; rw [if_neg (fun h => h0 h.1)]
    rw [hE]
    have hB : (err == 0) = false := by rw [beq_eq_false_iff_ne]; exact h0
    go_enter Try.func75, Try.ntmps75
    go_wp2
    go_quiet (fail)
    go_wp2
    go_ret
    exact ⟨rfl, _, rfl⟩
/-- both readers, at one place -/
def Two (W : World) (g h : Nat) (v u : Value) (B : List Int) (a : Nat) (err : Int) : Prop := Rr W g v B a err ∧ Qr W h u B a err ∧ g ≠ h ∧ v.ownBlock ≠ some h ∧ (B = [] ∨ u.ownBlock ≠ some g)
def TwoPost (w : World) (g h : Nat) (v u : Value) (B : List Int) (a : Nat) (err : Int) (w' : World) : Prop := Two w' g h v u B a err ∧ Chg (fun k => k = g ∨ k = h) w w'
theorem Two.keep {w w1 : World} {g h : Nat} {v u : Value} {B : List Int} {a : Nat} {err : Int} (t : Two w g h v u B a err) (hb : Below w.heap.size w w1) : Two w1 g h v u B a err := ⟨t.1.keep hb, t.2.1.keep hb, t.2.2⟩
theorem looked_any (g h : Nat) (v u : Value) (B : List Int) (a : Nat) (err : Int) (w : World) (t : Two w g h v u B a err) :
    Calls Try.prog 37 #[.pointer (some ⟨g, 0, none⟩), .pointer (some ⟨h, 0, none⟩)] w fun e w' => e = .returned (.bool true) ∧ Below w.heap.size w w' := by
  have q0 : w.cell? ⟨h, 0, none⟩ = some u := t.2.1.1.cell 0 rfl
  have q1 : w.cell? ⟨h, 1, none⟩ = some (.int .i64 (a : Int)) := t.2.1.1.cell 1 rfl
  have q2 : w.cell? ⟨h, 2, none⟩ = some (.int .i64 err) := t.2.1.1.cell 2 rfl
  have hlen := t.2.1.2.1.2.len (P := Try.prog) 25 5 3 Try.underlying25
  have hlt := t.2.1.2.1.lt63
  have hle := t.1.2.2
  have hw1 : IntKind.i64.wrap ((B.length : Int) - (a : Int)) = (B.length : Int) - (a : Int) := by rw [IntKind.wrap_i64]; omega
  have hA : Hid (∀ m : Nat, Calls Try.prog 31 #[.pointer (some ⟨g, 0, none⟩)] (w.drewN m) fun e w' => e = .returned (.int .i64 (a : Int)) ∧ w' = w.drewN m) := hd_ fun m => (R_At_any g v B a err _ (t.1.keep (below_drewN (Below.refl _ _) m))).mono fun _ _ h => ⟨h.1, h.2.symm⟩
  have hL := hd_ (left_quiet g v B a err w t.1)
  have hE : Hid (∀ m : Nat, Calls Try.prog 38 #[.pointer (some ⟨g, 0, none⟩)] (w.drewN m) fun e w' => e = .returned (.int .i64 err) ∧ w' = w.drewN m) := hd_ fun m => (R_Err_any g v B a err _ (t.1.keep (below_drewN (Below.refl _ _) m))).mono fun _ _ h => ⟨h.1, h.2.symm⟩
  have hR : Hid (∀ m : Nat, Calls Try.prog 46 #[.pointer (some ⟨g, 0, none⟩)] (w.drewN m) fun e w' => e = .returned (.int .i64 (rEnd B a err)) ∧ ∃ k, w' = (w.drewN m).drewN k) := hd_ fun m => R_End_draw g v B a err _ (t.1.keep (below_drewN (Below.refl _ _) m))
  have hQ : Hid (∀ m : Nat, Calls Try.prog 75 #[.pointer (some ⟨h, 0, none⟩)] (w.drewN m) fun e w' => e = .returned (.int .i64 (rEnd B a err)) ∧ ∃ k, w' = (w.drewN m).drewN k) := hd_ fun m => Q_End_draw h u B a err _ (t.2.1.keep (below_drewN (Below.refl _ _) m))
  clear t
  generalize rEnd B a err = E at *
  go_enter Try.func37, Try.ntmps37
  go_wp2
  go_quiet ((first
    | (go_at_call 31; exact Calls.quiet_of_same (hA.out _))
    | (go_at_call 30; exact Calls.quiet_of (hL.out _))
    | (go_at_call 38; exact Calls.quiet_of_same (hE.out _))
    | (go_at_call 46; exact Calls.quiet_of (hR.out _))
    | (go_at_call 75; exact Calls.quiet_of (hQ.out _))))
  go_wp2
  go_ret
  exact ⟨rfl, below_drewN (Below.refl _ _) _⟩
end Go.Proofs.Ytlaeiipiboabaaa
