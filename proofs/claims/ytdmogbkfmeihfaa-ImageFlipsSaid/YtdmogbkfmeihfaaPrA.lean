/- A reader: numbers and texts. -/
import Derived.Test.YtdmogbkfmeihfaaPwA
import Derived.StillTailTactics
namespace Go.Proofs.Ytdmogbkfmeihfaa
open Go.RowKit
set_option maxRecDepth 100000
set_option linter.unusedVariables false
/-- a reader: its bytes, its place, its error -/
def Rr (W : World) (g : Nat) (v : Value) (B : List Int) (at_ : Nat) (err : Int) : Prop :=
  Box W g 144 #[.int .i64 err, v, .int .i64 (at_ : Int), .bool true] ∧ Own W 0 5 v B ∧ at_ ≤ B.length
/-- behind a call of a reader -/
def RrPost (w : World) (g : Nat) (v : Value) (B : List Int) (at_ : Nat) (err : Int) (w' : World) : Prop := Rr w' g v B at_ err ∧ Chg (fun k => k = g) w w'
section
variable {w w1 w2 : World} {g : Nat} {v : Value} {B : List Int} {a a1 : Nat} {err e1 : Int}
theorem Rr.same (h : Rr w g v B a err) : RrPost w g v B a err w := ⟨h, Chg.refl _ _⟩
theorem Rr.keep (h : Rr w g v B a err) (hb : Below w.heap.size w w1) : Rr w1 g v B a err := ⟨h.1.keep hb, h.2.1.keep hb, h.2.2⟩
theorem Rr.later (h : Rr w g v B a err) (hb : Below w.heap.size w w1) : RrPost w g v B a err w1 := ⟨h.keep hb, Chg.below hb⟩
theorem Rr.ne (h : Rr w g v B a err) : v.ownBlock ≠ some g := own_box h.2.1 h.1 (by decide)
theorem RrPost.trans (hc : Chg (fun k => k = g) w w1) (h2 : RrPost w1 g v B a err w2) : RrPost w g v B a err w2 := ⟨h2.1, hc.trans h2.2 fun _ _ h => h⟩
theorem RrPost.after (hb : Below w.heap.size w w1) (h2 : RrPost w1 g v B a err w2) : RrPost w g v B a err w2 := h2.trans (Chg.below hb)
theorem RrPost.before (h : RrPost w g v B a err w1) (hb : Below w1.heap.size w1 w2) : RrPost w g v B a err w2 := ⟨h.1.keep hb, h.2.trans (Chg.below hb) fun _ _ h => h⟩
theorem Rr.failed (h : Rr w g v B a err) (e : Int) (hb : Box w1 g 144 (#[.int .i64 err, v, .int .i64 (a : Int), .bool true].setIfInBounds 0 (.int .i64 e))) (hg : w.grownBy w1 (some g)) : RrPost w g v B a e w1 :=
  ⟨⟨hb, h.2.1.kept hg (.inr h.ne), h.2.2⟩, Chg.grown hg (fun b _ hb => by injection hb)⟩
/-- the place moves on -/
theorem Rr.moved (h : Rr w g v B a err) (a2 : Nat) (ha : a2 ≤ B.length) : RrPost w g v B a2 err (w.setCell ⟨g, 2, none⟩ (.int .i64 (a2 : Int))) := by
  obtain ⟨hb, hg⟩ := h.1.put 2 (.int .i64 (a2 : Int))
  exact ⟨⟨hb, h.2.1.kept hg (.inr h.ne), ha⟩, Chg.grown hg (fun b _ hb => by injection hb)⟩
end
theorem own_zero {W : World} {b : Nat} {e : TypeId} {v : Value} {xs : List Int} (h : Own W b e v xs) : Own W 0 e v xs := ⟨h.1, row_base h.2 (Nat.zero_le _)⟩
def NewRet (w : World) (B : List Int) (e : Ending) (w' : World) : Prop :=
  ∃ g v, e = .returned (.pointer (some ⟨g, 0, none⟩)) ∧ Rr w' g v B 0 0 ∧ w.heap.size ≤ g ∧ (∀ k, v.ownBlock = some k → w.heap.size ≤ k) ∧ Below w.heap.size w w'
theorem R_New_any (y : Value) (B : List Int) (w : World) (HR : Rd w y B) (hl : B.length ≤ 140737488355328) :
    Calls Try.prog 61 #[y] w (NewRet w B) := by
  have hlB := hd_ (show ([] : List Int).length + B.length ≤ 140737488355328 by rw [List.length_nil]; omega)
  clear hl
  go_enter Try.func61, Try.ntmps61
  go_wp2_with (at_builtin; (refine app_bytes (w0 := w) w.heap.size rfl _ _ 22 5 rfl Try.underlying22 infoB _ y [] B rfl rfl (own_nil8 _ _ _) HR (Below.refl _ _) (Nat.le_refl _) hlB.out ?_); intro v2 w2 HO2 HB2 hg2 hat2; rw [List.nil_append] at HO2; obtain ⟨A2, c2, rfl, _⟩ := HO2.rd.form)
  go_ret
  have hal := al1 (Below.refl w2.heap.size w2) (.cells #[.int .i64 0, .slice A2 B.length c2, .int .i64 0, .bool true] 144)
  exact ⟨_, _, rfl, ⟨Box.new w2 #[.int .i64 0, .slice A2 B.length c2, .int .i64 0, .bool true] 144, own_zero (HO2.keep hal), Nat.zero_le _⟩, HB2.size, fun k hk => (own_lt HO2 k hk).1, bel_trans HB2 hal⟩
theorem R_well_ok (g : Nat) (v : Value) (B : List Int) (a : Nat) (w : World) (h : Rr w g v B a 0) : Calls Try.prog 106 #[.pointer (some ⟨g, 0, none⟩)] w fun e w' => e = .returned (.bool true) ∧ w = w' := by
  have q0 : w.cell? ⟨g, 0, none⟩ = some (.int .i64 0) := h.1.cell 0 rfl
  have q3 : w.cell? ⟨g, 3, none⟩ = some (.bool true) := h.1.cell 3 rfl
  clear h
  go_enter Try.func106, Try.ntmps106
  go_wp2
  go_ret
  exact ⟨rfl, rfl⟩
theorem R_well_bad (g : Nat) (v : Value) (B : List Int) (a : Nat) (err : Int) (w : World) (h : Rr w g v B a err) (h0 : err ≠ 0) : Calls Try.prog 106 #[.pointer (some ⟨g, 0, none⟩)] w fun e w' => e = .returned (.bool false) ∧ w = w' := by
  have q0 : w.cell? ⟨g, 0, none⟩ = some (.int .i64 err) := h.1.cell 0 rfl
  have q3 : w.cell? ⟨g, 3, none⟩ = some (.bool true) := h.1.cell 3 rfl
  have hB : (err == 0) = false := by rw [beq_eq_false_iff_ne]; exact h0
  clear h
  go_enter Try.func106, Try.ntmps106
  go_wp2
  go_ret
  exact ⟨rfl, rfl⟩
def RFailRet (w : World) (g : Nat) (v : Value) (B : List Int) (a : Nat) (err : Int) (e : Ending) (w' : World) : Prop := e = .returned (.tuple #[]) ∧ RrPost w g v B a err w'
theorem R_Fail_any (g : Nat) (v : Value) (B : List Int) (a : Nat) (err e : Int) (w : World) (h : Rr w g v B a err) : Calls Try.prog 120 #[.pointer (some ⟨g, 0, none⟩), .int .i64 e] w (RFailRet w g v B a (rFail err e)) := by
  have q3 : w.cell? ⟨g, 3, none⟩ = some (.bool true) := h.1.cell 3 rfl
  have hS := hd_ h
  have hb := hd_ h.1
  unfold rFail
  by_cases h0 : err = 0
  · subst h0
    rw [if_pos rfl]
    clear h
    go_enter Try.func120, Try.ntmps120
    go_wp2_with (go_at_call 113; refine (fate_Fail_zero g _ _ e _ hb.out rfl).mono ?_; rintro en w1 ⟨rfl, hb1, hg1⟩)
    go_end0
    exact ⟨rfl, hS.out.failed e hb1 hg1⟩
  · rw [if_neg h0]
    have H0 := hd_ h0
    clear h h0
    go_enter Try.func120, Try.ntmps120
    go_wp2_with (go_at_call 113; refine (fate_Fail_not g _ _ err e _ hb.out rfl H0.out).mono ?_; rintro en w1 ⟨rfl, rfl⟩)
    go_end0
    exact ⟨rfl, hS.out.same⟩
/-- number: the number, the place behind it, did it go well -/
def NumOk (w : World) (k : IntKind) (u : Int) (a : Nat) (e : Ending) (w' : World) : Prop := e = .returned (.tuple #[.int k u, .int .i64 (a : Int), .bool true]) ∧ Below w.heap.size w w'
def NumNo (w : World) (g : Nat) (v : Value) (B : List Int) (a : Nat) (err : Int) (e : Ending) (w' : World) : Prop := (∃ x y, e = .returned (.tuple #[x, y, .bool false])) ∧ RrPost w g v B a err w'
set_option maxHeartbeats 1000000 in
theorem R_number_ok (g : Nat) (v : Value) (B : List Int) (a u k : Nat) (w : World) (h : Rr w g v B a 0) (hE : lebD (B.drop a) 10 0 = ((u : Int), (k : Int), 0)) (hk : a + k ≤ B.length) : Calls Try.prog 110 #[.pointer (some ⟨g, 0, none⟩)] w (NumOk w .u64 (u : Int) (a + k)) := by
  have q0 : w.cell? ⟨g, 0, none⟩ = some (.int .i64 0) := h.1.cell 0 rfl
  have q1 : w.cell? ⟨g, 1, none⟩ = some v := h.1.cell 1 rfl
  have q2 : w.cell? ⟨g, 2, none⟩ = some (.int .i64 (a : Int)) := h.1.cell 2 rfl
  have hlt := h.2.1.rd.lt63
  obtain ⟨y, hs, hR⟩ := h.2.1.rd.sl_l Try.underlying22 infoB a h.2.2
  have hs : ∀ (W : World), Sem.run Try.prog (Instr.slice 22 v (some (Value.int IntKind.i64 (a : Int))) none none) W = Result.ok y W := hs
  have hq : ∀ m : Nat, Calls Try.prog 119 #[y] (w.drewN m) fun e w' => e = .returned (.tuple #[.int .u64 (u : Int), .int .i64 (k : Int), .int .i64 0]) ∧ w' = w.drewN m := fun m =>
    (leb_Decode_any y _ _ (hR.keep (below_drewN (Below.refl _ _) m))).mono fun _ _ h => by rw [hE] at h; exact ⟨h.1, h.2.symm⟩
  have hS := hd_ h
  have hQ := hd_ hq
  clear h hE hR hq
  go_enter Try.func110, Try.ntmps110
  go_wp2_with (go_at_call 106; refine (R_well_ok g v B a _ hS.out).mono ?_; rintro e w' ⟨rfl, rfl⟩)
  go_quiet ((go_at_call 119; exact Calls.quiet_of_same (hQ.out _)))
  go_wp2
  go_quiet (fail)
  go_wp2
  go_ret3
  exact ⟨rfl, below_drewN (below_drewN (Below.refl _ _) _) _⟩
set_option maxHeartbeats 1000000 in
theorem R_number_no (g : Nat) (v : Value) (B : List Int) (a : Nat) (E : Int) (w : World) (h : Rr w g v B a 0) (hE : lebD (B.drop a) 10 0 = (0, 0, E)) (hE3 : E = 10 ∨ E = 11 ∨ E = 12) : Calls Try.prog 110 #[.pointer (some ⟨g, 0, none⟩)] w (NumNo w g v B a (E + 20)) := by
  have q0 : w.cell? ⟨g, 0, none⟩ = some (.int .i64 0) := h.1.cell 0 rfl
  have q1 : w.cell? ⟨g, 1, none⟩ = some v := h.1.cell 1 rfl
  have q2 : w.cell? ⟨g, 2, none⟩ = some (.int .i64 (a : Int)) := h.1.cell 2 rfl
  have hlt := h.2.1.rd.lt63
  obtain ⟨y, hs, hR⟩ := h.2.1.rd.sl_l Try.underlying22 infoB a h.2.2
  have hs : ∀ (W : World), Sem.run Try.prog (Instr.slice 22 v (some (Value.int IntKind.i64 (a : Int))) none none) W = Result.ok y W := hs
  have hq : ∀ m : Nat, Calls Try.prog 119 #[y] (w.drewN m) fun e w' => e = .returned (.tuple #[.int .u64 0, .int .i64 0, .int .i64 E]) ∧ w' = w.drewN m := fun m =>
    (leb_Decode_any y _ _ (hR.keep (below_drewN (Below.refl _ _) m))).mono fun _ _ h => by rw [hE] at h; exact ⟨h.1, h.2.symm⟩
  have hS := hd_ h
  have hQ := hd_ hq
  clear h hE hR hq
  rcases hE3 with rfl | rfl | rfl
  all_goals
    go_enter Try.func110, Try.ntmps110
    go_wp2_with (go_at_call 106; refine (R_well_ok g v B a _ hS.out).mono ?_; rintro e w' ⟨rfl, rfl⟩)
    go_quiet ((go_at_call 119; exact Calls.quiet_of_same (hQ.out _)))
    rename_i nq
    have hS1 := hd_ (hS.out.keep (below_drewN (Below.refl _ _) nq))
    have hB1 := hd_ (below_drewN (Below.refl w.heap.size w) nq)
    generalize w.drewN nq = W1 at *
    go_wp2_with (go_at_call 120; refine (R_Fail_any g v B a 0 _ W1 hS1.out).mono ?_; rintro e w3 ⟨rfl, HP3⟩; have y0 : w3.cell? ⟨g, 0, none⟩ = some _ := HP3.1.1.cell 0 rfl; have y2 : w3.cell? ⟨g, 2, none⟩ = some (.int .i64 (a : Int)) := HP3.1.1.cell 2 rfl)
    go_quiet (fail)
    go_wp2
    go_ret3
    exact ⟨⟨_, _, rfl⟩, (RrPost.after hB1.out HP3).before (below_drewN (Below.refl _ _) _)⟩
theorem R_number_bad (g : Nat) (v : Value) (B : List Int) (a : Nat) (err : Int) (w : World) (h : Rr w g v B a err) (h0 : err ≠ 0) : Calls Try.prog 110 #[.pointer (some ⟨g, 0, none⟩)] w (NumNo w g v B a err) := by
  have hS := hd_ h
  have H0 := hd_ h0
  clear h h0
  go_enter Try.func110, Try.ntmps110
  go_wp2_with (go_at_call 106; refine (R_well_bad g v B a err _ hS.out H0.out).mono ?_; rintro e w' ⟨rfl, rfl⟩)
  go_ret3
  exact ⟨⟨_, _, rfl⟩, hS.out.same⟩
theorem uptoA_ok {B : List Int} (hB : IsBytes B) {a : Nat} (ha : a ≤ B.length) {most x : Int} {a2 : Nat} (h : uptoA B a most = (x, a2, 0)) :
    ∃ u k : Nat, x = (u : Int) ∧ a2 = a + k ∧ lebD (B.drop a) 10 0 = ((u : Int), (k : Int), 0) ∧ a + k ≤ B.length ∧ 1 ≤ k ∧ 0 ≤ most ∧ (u : Int) ≤ most := by
  unfold uptoA at h
  by_cases h0 : most < 0
  · rw [if_pos h0] at h; simp at h
  rw [if_neg h0] at h
  rcases numA_cases B hB a ha with ⟨E, hE, _, e⟩ | ⟨u, k, e1, e, h1, h2, _, _, _⟩
  · rw [e, if_pos (by simp only; omega)] at h
    simp only [Prod.mk.injEq] at h
    omega
  · rw [e, if_neg (by simp)] at h
    by_cases hu : most < (u : Int)
    · rw [if_pos hu] at h; simp at h
    · rw [if_neg hu] at h
      simp only [Prod.mk.injEq] at h
      exact ⟨u, k, h.1.symm, h.2.1.symm, e1, h1, h2, by omega, by omega⟩
theorem R_bounded_ok (g : Nat) (v : Value) (B : List Int) (a : Nat) (most x : Int) (a2 : Nat) (w : World) (h : Rr w g v B a 0) (hm : most ≤ 9223372036854775807) (hE : uptoA B a most = (x, a2, 0)) :
    Calls Try.prog 88 #[.pointer (some ⟨g, 0, none⟩), .int .i64 most] w (NumOk w .i64 x a2) := by
  obtain ⟨u, k, rfl, rfl, e1, h1, h2, h3, h4⟩ := uptoA_ok h.2.1.1 h.2.2 hE
  have hS := hd_ h
  have E1 := hd_ e1
  have hb := hd_ h.1
  clear h e1 hE
  go_enter Try.func88, Try.ntmps88
  go_wp2_with (first
    | (go_at_call 106; refine (R_well_ok g v B a _ hS.out).mono ?_; rintro e w' ⟨rfl, rfl⟩)
    | (go_at_call 96; ((with_reducible refine (must_go g _ _ 1 _ hb.out rfl).mono ?_); rintro e w1 ⟨rfl, rfl⟩))
    | (go_at_call 110; refine (R_number_ok g v B a u k _ hS.out E1.out h1).mono ?_; rintro e w2 ⟨rfl, HB2⟩; have hb2 := hd_ (hS.out.1.keep HB2))
    | (go_at_call 96; ((with_reducible refine (must_go g _ _ 31 _ hb2.out rfl).mono ?_); rintro e w1 ⟨rfl, rfl⟩)))
  go_ret3
  exact ⟨rfl, HB2⟩
theorem R_bounded_bad (g : Nat) (v : Value) (B : List Int) (a : Nat) (err most : Int) (w : World) (h : Rr w g v B a err) (h0 : err ≠ 0) :
    Calls Try.prog 88 #[.pointer (some ⟨g, 0, none⟩), .int .i64 most] w (NumNo w g v B a err) := by
  have hS := hd_ h
  have H0 := hd_ h0
  clear h h0
  go_enter Try.func88, Try.ntmps88
  go_wp2_with (go_at_call 106; refine (R_well_bad g v B a err _ hS.out H0.out).mono ?_; rintro e w' ⟨rfl, rfl⟩)
  go_ret3
  exact ⟨⟨_, _, rfl⟩, hS.out.same⟩
set_option maxHeartbeats 1000000 in
theorem R_bounded_no (g : Nat) (v : Value) (B : List Int) (a : Nat) (most E : Int) (w : World) (h : Rr w g v B a 0) (hm : most ≤ 9223372036854775807) (hE : (uptoA B a most).2.2 = E) (hE0 : E ≠ 0) :
    Calls Try.prog 88 #[.pointer (some ⟨g, 0, none⟩), .int .i64 most] w (NumNo w g v B a E) := by
  have hS := hd_ h
  have hb := hd_ h.1
  unfold uptoA at hE
  by_cases h0 : most < 0
  · rw [if_pos h0] at hE
    subst hE
    have hd0 : decide (0 ≤ most) = false := decide_eq_false (by omega)
    clear h hE0
    go_enter Try.func88, Try.ntmps88
    go_wp2_with (first
      | (go_at_call 106; refine (R_well_ok g v B a _ hS.out).mono ?_; rintro e w' ⟨rfl, rfl⟩)
      | (go_at_call 96; ((with_reducible refine (must_no g _ _ 1 _ hb.out rfl (by decide) (by simp)).mono ?_); rintro e w1 ⟨rfl, hb1, hg1⟩)))
    go_ret3
    exact ⟨⟨_, _, rfl⟩, hS.out.failed 1 hb1 hg1⟩
  rw [if_neg h0] at hE
  have hm0 : 0 ≤ most := by omega
  clear h0
  rcases numA_cases B h.2.1.1 a h.2.2 with ⟨E', hE', e1, e⟩ | ⟨u, k, e1, e, h1, h2, _, _, hu64⟩
  · rw [e, if_pos (by simp only; omega)] at hE
    simp only at hE
    subst hE
    have E1 := hd_ e1
    have E2 := hd_ hE'
    clear h hE0 e e1 hE'
    go_enter Try.func88, Try.ntmps88
    go_wp2_with (first
      | (go_at_call 106; refine (R_well_ok g v B a _ hS.out).mono ?_; rintro e w' ⟨rfl, rfl⟩)
      | (go_at_call 96; ((with_reducible refine (must_go g _ _ 1 _ hb.out rfl).mono ?_); rintro e w1 ⟨rfl, rfl⟩))
      | (go_at_call 110; refine (R_number_no g v B a E' _ hS.out E1.out E2.out).mono ?_; rintro e w2 ⟨⟨x2, y2, rfl⟩, HP2⟩))
    go_ret3
    exact ⟨⟨_, _, rfl⟩, HP2⟩
  · rw [e, if_neg (by simp)] at hE
    by_cases hu : most < (u : Int)
    · rw [if_pos hu] at hE
      simp only at hE
      subst hE
      have E1 := hd_ e1
      have hdu : decide ((u : Int) ≤ most) = false := decide_eq_false (by omega)
      clear h hE0 e e1
      go_enter Try.func88, Try.ntmps88
      go_wp2_with (first
        | (go_at_call 106; refine (R_well_ok g v B a _ hS.out).mono ?_; rintro e w' ⟨rfl, rfl⟩)
        | (go_at_call 96; ((with_reducible refine (must_go g _ _ 1 _ hb.out rfl).mono ?_); rintro e w1 ⟨rfl, rfl⟩))
        | (go_at_call 110; refine (R_number_ok g v B a u k _ hS.out E1.out h1).mono ?_; rintro e w2 ⟨rfl, HB2⟩; have hS2 := hd_ (hS.out.keep HB2); have hb2 := hd_ (hS.out.1.keep HB2))
        | (go_at_call 96; ((with_reducible refine (must_no g _ _ 31 _ hb2.out rfl (by decide) (by simp)).mono ?_); rintro e w3 ⟨rfl, hb3, hg3⟩)))
      go_ret3
      exact ⟨⟨_, _, rfl⟩, RrPost.after HB2 (hS2.out.failed 31 hb3 hg3)⟩
    · rw [if_neg hu] at hE
      exact absurd hE.symm hE0
def TextOk (w : World) (l : List Int) (a : Nat) (e : Ending) (w' : World) : Prop := e = .returned (.tuple #[.string (strOfNums l), .int .i64 (a : Int), .bool true]) ∧ Below w.heap.size w w'
theorem cut_cut (B : List Int) (a n : Nat) : (B.take (a + n)).drop a = (B.drop a).take n := by
  rw [List.drop_take, Nat.add_sub_cancel_left]
set_option maxHeartbeats 1000000 in
theorem R_text_ok (g : Nat) (v : Value) (B : List Int) (a : Nat) (most : Int) (n a2 : Nat) (w : World) (h : Rr w g v B a 0) (hm : most ≤ 9223372036854775807) (hE : uptoA B a most = ((n : Int), a2, 0)) (hn : a2 + n ≤ B.length) :
    Calls Try.prog 122 #[.pointer (some ⟨g, 0, none⟩), .int .i64 most] w (TextOk w ((B.drop a2).take n) (a2 + n)) := by
  have hlt := h.2.1.rd.lt63
  obtain ⟨y, hs, hR⟩ := h.2.1.rd.sl Try.underlying22 infoB a2 (a2 + n) (by omega) hn
  rw [cut_cut] at hR
  have hs : ∀ (W : World), Sem.run Try.prog (Instr.slice 22 v (some (Value.int IntKind.i64 (a2 : Int))) (some (Value.int IntKind.i64 ((a2 : Int) + (n : Int)))) none) W = Result.ok y W := fun W => by
    have := hs W
    rwa [Int.natCast_add] at this
  have hS := hd_ h
  have hE' := hd_ hE
  have HR := hd_ hR
  have hnI : (n : Int) ≤ (B.length : Int) - (a2 : Int) := by omega
  have hnd : decide ((n : Int) ≤ (B.length : Int) - (a2 : Int)) = true := decide_eq_true hnI
  have hw1 : IntKind.i64.wrap ((B.length : Int) - (a2 : Int)) = (B.length : Int) - (a2 : Int) := by rw [IntKind.wrap_i64]; omega
  have hq1 : w.cell? ⟨g, 1, none⟩ = some v := h.1.cell 1 rfl
  have hlen := h.2.1.rd.2.len (P := Try.prog) 22 5 3 Try.underlying22
  clear h hE hR
  go_enter Try.func122, Try.ntmps122
  go_upto_region 2 with (go_at_call 88; refine (R_bounded_ok g v B a most _ a2 _ hS.out hm hE'.out).mono ?_; rintro e w2 ⟨rfl, HB2⟩)
  have hS2 := hd_ (hS.out.keep HB2)
  have q1 : w2.cell? ⟨g, 1, none⟩ = some v := cell_keep HB2 hq1
  have hQ : Hid (∀ (m : Nat), Calls Try.prog 96 #[.pointer (some ⟨g, 0, none⟩), .bool true, .int .i64 30] (w2.drewN m) fun e w' => e = .returned (.bool true) ∧ w' = w2.drewN m) := hd_ fun m =>
    (must_go g _ _ 30 _ (hS2.out.1.keep (below_drewN (Below.refl _ _) m)) rfl).mono fun _ _ h => ⟨h.1, h.2.symm⟩
  go_quiet ((go_at_call 96; exact Calls.quiet_of_same (hQ.out _)))
  rename_i nq
  have HB3 := hd_ (below_drewN HB2 nq)
  have p1 : (w2.drewN nq).cell? ⟨g, 1, none⟩ = some v := q1
  have hcv := (HR.out.keep HB3.out).str (P := Try.prog) 22 5 9 Try.underlying22 Try.underlying5 Try.underlying9
  clear hQ
  generalize w2.drewN nq = W3 at *
  go_wp2
  go_ret3
  exact ⟨rfl, HB3.out⟩
theorem R_text_bad (g : Nat) (v : Value) (B : List Int) (a : Nat) (err most : Int) (w : World) (h : Rr w g v B a err) (h0 : err ≠ 0) :
    Calls Try.prog 122 #[.pointer (some ⟨g, 0, none⟩), .int .i64 most] w (NumNo w g v B a err) := by
  have hS := hd_ h
  have H0 := hd_ h0
  clear h h0
  go_enter Try.func122, Try.ntmps122
  go_upto_region 2 with (go_at_call 88; refine (R_bounded_bad g v B a err most _ hS.out H0.out).mono ?_; rintro e w' ⟨⟨x2, y2, rfl⟩, HP2⟩)
  go_quiet (fail)
  go_wp2
  go_ret3
  exact ⟨⟨_, _, rfl⟩, HP2.before (below_drewN (Below.refl _ _) _)⟩
set_option maxHeartbeats 1000000 in
theorem R_text_no (g : Nat) (v : Value) (B : List Int) (a : Nat) (most E : Int) (w : World) (h : Rr w g v B a 0) (hm : most ≤ 9223372036854775807) (hE : (textA B a most).2.2 = E) (hE0 : E ≠ 0) :
    Calls Try.prog 122 #[.pointer (some ⟨g, 0, none⟩), .int .i64 most] w (NumNo w g v B a E) := by
  have hS := hd_ h
  unfold textA at hE
  by_cases h0 : (uptoA B a most).2.2 ≠ 0
  · rw [if_pos h0] at hE
    simp only at hE
    have HE := hd_ hE
    have HE0 := hd_ hE0
    clear h hE hE0 h0
    go_enter Try.func122, Try.ntmps122
    go_upto_region 2 with (go_at_call 88; refine (R_bounded_no g v B a most E _ hS.out hm HE.out HE0.out).mono ?_; rintro e w' ⟨⟨x2, y2, rfl⟩, HP2⟩)
    go_quiet (fail)
    go_wp2
    go_ret3
    exact ⟨⟨_, _, rfl⟩, HP2.before (below_drewN (Below.refl _ _) _)⟩
  rw [if_neg h0] at hE
  rcases uptoA_cases B h.2.1.1 a h.2.2 most (by omega) with ⟨E1, h1, e1⟩ | ⟨u, k, e1, h1, h2, h3, h4, h5, h6⟩
  · rw [e1] at h0
    simp only [ne_eq, Decidable.not_not] at h0
    omega
  rw [e1] at hE
  simp only at hE
  by_cases hu : (B.length : Int) - ((a + k : Nat) : Int) < (u : Int)
  · rw [if_pos hu] at hE
    simp only at hE
    subst hE
    have hlt := h.2.1.rd.lt63
    have hq1 : w.cell? ⟨g, 1, none⟩ = some v := h.1.cell 1 rfl
    have hlen := h.2.1.rd.2.len (P := Try.prog) 22 5 3 Try.underlying22
    have E1 := hd_ e1
    generalize a + k = a2 at *
    have hw1 : IntKind.i64.wrap ((B.length : Int) - (a2 : Int)) = (B.length : Int) - (a2 : Int) := by rw [IntKind.wrap_i64]; omega
    have hnd : decide ((u : Int) ≤ (B.length : Int) - (a2 : Int)) = false := decide_eq_false (by omega)
    clear h hE0 h0 e1 h3 h4 h5 h6
    go_enter Try.func122, Try.ntmps122
    go_upto_region 2 with (go_at_call 88; refine (R_bounded_ok g v B a most _ a2 _ hS.out hm E1.out).mono ?_; rintro e w2 ⟨rfl, HB2⟩)
    have hS2 := hd_ (hS.out.keep HB2)
    have q1 : w2.cell? ⟨g, 1, none⟩ = some v := cell_keep HB2 hq1
    go_still_tail 15, (by kernel_rfl)
    have HB3 := hd_ (Below.drew (Below.refl w2.heap.size w2))
    change wpList _ _ _ _ _ w2.drew
    generalize w2.drew = W3 at *
    have hS3 := hd_ (hS2.out.keep HB3.out)
    have hb3 := hd_ hS3.out.1
    go_wp2_with (go_at_call 96; (with_reducible refine (must_no g _ _ 30 _ hb3.out rfl (by decide) (by simp)).mono ?_); rintro e w4 ⟨rfl, hb4, hg4⟩)
    go_ret3
    exact ⟨⟨_, _, rfl⟩, RrPost.after (bel_trans HB2 HB3.out) (hS3.out.failed 30 hb4 hg4)⟩
  · rw [if_neg hu] at hE
    exact absurd hE.symm hE0
def RRet (w : World) (g : Nat) (v : Value) (B : List Int) (x : Value) (a : Nat) (err : Int) (e : Ending) (w' : World) : Prop := e = .returned x ∧ RrPost w g v B a err w'
set_option maxHeartbeats 1000000 in
theorem R_Int_any (g : Nat) (v : Value) (B : List Int) (a : Nat) (err most : Int) (w : World) (h : Rr w g v B a err) (hm : most ≤ 9223372036854775807) :
    Calls Try.prog 62 #[.pointer (some ⟨g, 0, none⟩), .int .i64 most] w (RRet w g v B (.int .i64 (rInt B a err most).1) (rInt B a err most).2.1 (rInt B a err most).2.2) := by
  have hS := hd_ h
  by_cases h0 : err = 0
  · subst h0
    rcases uptoA_cases B h.2.1.1 a h.2.2 most (by omega) with ⟨E, hE, e2⟩ | ⟨u, k, e2, h1, h2, _, _, _, _⟩
    · have hR : rInt B a 0 most = (0, a, E) := by
        unfold rInt; rw [if_neg (by simp), e2, if_pos (by simp only; omega)]
      rw [hR]
      have E1 := hd_ (show (uptoA B a most).2.2 = E by rw [e2])
      have E2 := hd_ (show E ≠ 0 by omega)
      clear e2 hE
      clear h hR
      go_enter Try.func62, Try.ntmps62
      go_wp2_with (go_at_call 88; refine (R_bounded_no g v B a most E _ hS.out hm E1.out E2.out).mono ?_; rintro e w2 ⟨⟨x2, y2, rfl⟩, HP2⟩)
      go_ret
      exact ⟨rfl, HP2⟩
    · have hR : rInt B a 0 most = ((u : Int), a + k, 0) := by
        unfold rInt; rw [if_neg (by simp), e2, if_neg (by simp)]
      rw [hR]
      obtain ⟨a2, ha2⟩ : ∃ a2, a + k = a2 := ⟨_, rfl⟩
      rw [ha2] at e2 ⊢
      have HN := R_bounded_ok g v B a most _ a2 w h hm e2
      have HA := hd_ (show a2 ≤ B.length by omega)
      clear e2 h1 h2 ha2
      clear h hR
      go_enter Try.func62, Try.ntmps62
      go_wp2_with (go_at_call 88; refine (HN).mono ?_; rintro e w2 ⟨rfl, HB2⟩; have hS2 := hd_ (hS.out.keep HB2); have q2 : w2.cell? ⟨g, 2, none⟩ = some (.int .i64 (a : Int)) := hS2.out.1.cell 2 rfl; have z2 := hS2.out.1.frozen 2)
      go_ret
      exact ⟨rfl, RrPost.after HB2 (hS2.out.moved a2 HA.out)⟩
  · have hR : rInt B a err most = (0, a, err) := by unfold rInt; rw [if_pos h0]
    rw [hR]
    have H0 := hd_ h0
    clear h hR h0
    go_enter Try.func62, Try.ntmps62
    go_wp2_with (go_at_call 88; refine (R_bounded_bad g v B a err most _ hS.out H0.out).mono ?_; rintro e w2 ⟨⟨x2, y2, rfl⟩, HP2⟩)
    go_ret
    exact ⟨rfl, HP2⟩
set_option maxHeartbeats 1000000 in
theorem R_Text_any (g : Nat) (v : Value) (B : List Int) (a : Nat) (err most : Int) (w : World) (h : Rr w g v B a err) (hm : most ≤ 9223372036854775807) :
    Calls Try.prog 118 #[.pointer (some ⟨g, 0, none⟩), .int .i64 most] w (RRet w g v B (.string (strOfNums (rText B a err most).1)) (rText B a err most).2.1 (rText B a err most).2.2) := by
  have hS := hd_ h
  by_cases h0 : err = 0
  · subst h0
    rcases textA_cases B h.2.1.1 a h.2.2 most (by omega) with ⟨E, hE, e2⟩ | ⟨n, k, e1, e2, h1, h2, _, _, _, _⟩
    · have hR : rText B a 0 most = ([], a, E) := by
        unfold rText; rw [if_neg (by simp), e2, if_pos (by simp only; omega)]
      rw [hR]
      have E1 := hd_ (show (textA B a most).2.2 = E by rw [e2])
      have E2 := hd_ (show E ≠ 0 by omega)
      clear e2 hE
      clear h hR
      go_enter Try.func118, Try.ntmps118
      go_wp2_with (go_at_call 122; refine (R_text_no g v B a most E _ hS.out hm E1.out E2.out).mono ?_; rintro e w2 ⟨⟨x2, y2, rfl⟩, HP2⟩)
      go_ret
      exact ⟨rfl, HP2⟩
    · have hR : rText B a 0 most = ((B.drop (a + k)).take n, a + k + n, 0) := by
        unfold rText; rw [if_neg (by simp), e2, if_neg (by simp)]
      rw [hR]
      have HN := R_text_ok g v B a most n (a + k) w h hm e1 h1
      generalize (B.drop (a + k)).take n = T at *
      obtain ⟨a2, ha2⟩ : ∃ a2, a + k + n = a2 := ⟨_, rfl⟩
      rw [ha2] at HN ⊢
      have HA := hd_ (show a2 ≤ B.length by omega)
      clear e1 e2 h1 h2 ha2
      clear h hR
      go_enter Try.func118, Try.ntmps118
      go_wp2_with (go_at_call 122; refine (HN).mono ?_; rintro e w2 ⟨rfl, HB2⟩; have hS2 := hd_ (hS.out.keep HB2); have q2 : w2.cell? ⟨g, 2, none⟩ = some (.int .i64 (a : Int)) := hS2.out.1.cell 2 rfl; have z2 := hS2.out.1.frozen 2)
      go_ret
      exact ⟨rfl, RrPost.after HB2 (hS2.out.moved a2 HA.out)⟩
  · have hR : rText B a err most = ([], a, err) := by unfold rText; rw [if_pos h0]
    rw [hR]
    have H0 := hd_ h0
    clear h hR h0
    go_enter Try.func118, Try.ntmps118
    go_wp2_with (go_at_call 122; refine (R_text_bad g v B a err most _ hS.out H0.out).mono ?_; rintro e w2 ⟨⟨x2, y2, rfl⟩, HP2⟩)
    go_ret
    exact ⟨rfl, HP2⟩
theorem R_At_any (g : Nat) (v : Value) (B : List Int) (a : Nat) (err : Int) (w : World) (h : Rr w g v B a err) :
    Calls Try.prog 64 #[.pointer (some ⟨g, 0, none⟩)] w fun e w' => e = .returned (.int .i64 (a : Int)) ∧ w = w' := by
  have q2 : w.cell? ⟨g, 2, none⟩ = some (.int .i64 (a : Int)) := h.1.cell 2 rfl
  clear h
  go_enter Try.func64, Try.ntmps64
  go_wp2
  go_ret
  exact ⟨rfl, rfl⟩
theorem R_Left_any (g : Nat) (v : Value) (B : List Int) (a : Nat) (err : Int) (w : World) (h : Rr w g v B a err) :
    Calls Try.prog 108 #[.pointer (some ⟨g, 0, none⟩)] w fun e w' => e = .returned (.int .i64 ((B.length : Int) - (a : Int))) ∧ ∃ m, w' = w.drewN m := by
  have q1 : w.cell? ⟨g, 1, none⟩ = some v := h.1.cell 1 rfl
  have q2 : w.cell? ⟨g, 2, none⟩ = some (.int .i64 (a : Int)) := h.1.cell 2 rfl
  have hlen := h.2.1.rd.2.len (P := Try.prog) 22 5 3 Try.underlying22
  have hlt := h.2.1.rd.lt63
  have hw1 : IntKind.i64.wrap ((B.length : Int) - (a : Int)) = (B.length : Int) - (a : Int) := by have := h.2.2; rw [IntKind.wrap_i64]; omega
  clear h hlt
  go_enter Try.func108, Try.ntmps108
  go_wp2
  go_quiet (fail)
  go_wp2
  go_ret
  exact ⟨rfl, _, rfl⟩
theorem R_Err_any (g : Nat) (v : Value) (B : List Int) (a : Nat) (err : Int) (w : World) (h : Rr w g v B a err) :
    Calls Try.prog 63 #[.pointer (some ⟨g, 0, none⟩)] w fun e w' => e = .returned (.int .i64 err) ∧ w = w' := by
  have q0 : w.cell? ⟨g, 0, none⟩ = some (.int .i64 err) := h.1.cell 0 rfl
  have q3 : w.cell? ⟨g, 3, none⟩ = some (.bool true) := h.1.cell 3 rfl
  clear h
  go_enter Try.func63, Try.ntmps63
  go_wp2
  go_ret
  exact ⟨rfl, rfl⟩
theorem R_End_any (g : Nat) (v : Value) (B : List Int) (a : Nat) (err : Int) (w : World) (h : Rr w g v B a err) :
    Calls Try.prog 84 #[.pointer (some ⟨g, 0, none⟩)] w fun e w' => e = .returned (.int .i64 (rEnd B a err)) ∧ Below w.heap.size w w' := by
  have hS := hd_ h
  have ha := h.2.2
  by_cases h0 : err = 0
  · subst h0
    by_cases h1 : a < B.length
    · have hE : rEnd B a 0 = 34 := by unfold rEnd; rw [if_pos ⟨rfl, h1⟩]
      rw [hE]
      have hd0 : decide (0 < (B.length : Int) - (a : Int)) = true := decide_eq_true (by omega)
      clear h hE
      go_enter Try.func84, Try.ntmps84
      go_wp2_with (first
        | (go_at_call 63; refine (R_Err_any g v B a 0 _ hS.out).mono ?_; rintro e w2 ⟨rfl, rfl⟩)
        | (go_at_call 108; refine (R_Left_any g v B a 0 _ hS.out).mono ?_; rintro e w2 ⟨rfl, m2, rfl⟩))
      go_ret
      exact ⟨rfl, below_drewN (Below.refl _ _) _⟩
    · have hE : rEnd B a 0 = 0 := by unfold rEnd; rw [if_neg (fun h => h1 h.2)]
      rw [hE]
      have hd0 : decide (0 < (B.length : Int) - (a : Int)) = false := decide_eq_false (by omega)
      clear h hE
      go_enter Try.func84, Try.ntmps84
      go_wp2_with (first
        | (go_at_call 63; refine (R_Err_any g v B a 0 _ hS.out).mono ?_; rintro e w2 ⟨rfl, rfl⟩)
        | (go_at_call 108; refine (R_Left_any g v B a 0 _ hS.out).mono ?_; rintro e w2 ⟨rfl, m2, rfl⟩))
      go_ret
      exact ⟨rfl, below_drewN (Below.refl _ _) _⟩
  · have hE : rEnd B a err = err := by unfold rEnd; rw [if_neg (fun h => h0 h.1)]
    rw [hE]
    have hB : (err == 0) = false := by rw [beq_eq_false_iff_ne]; exact h0
    clear h hE h0
    go_enter Try.func84, Try.ntmps84
    go_wp2_with (go_at_call 63; refine (R_Err_any g v B a err _ hS.out).mono ?_; rintro e w2 ⟨rfl, rfl⟩)
    go_ret
    exact ⟨rfl, Below.refl _ _⟩
/-- calls that only read, inside a statement that draws its order -/
theorem well_quiet (g : Nat) (v : Value) (B : List Int) (a : Nat) (w : World) (h : Rr w g v B a 0) (m : Nat) : Calls Try.prog 106 #[.pointer (some ⟨g, 0, none⟩)] (w.drewN m) fun e w' => e = .returned (.bool true) ∧ w' = w.drewN m :=
  (R_well_ok g v B a _ (h.keep (below_drewN (Below.refl _ _) m))).mono fun _ _ h => ⟨h.1, h.2.symm⟩
theorem unwell_quiet (g : Nat) (v : Value) (B : List Int) (a : Nat) (err : Int) (w : World) (h : Rr w g v B a err) (h0 : err ≠ 0) (m : Nat) : Calls Try.prog 106 #[.pointer (some ⟨g, 0, none⟩)] (w.drewN m) fun e w' => e = .returned (.bool false) ∧ w' = w.drewN m :=
  (R_well_bad g v B a err _ (h.keep (below_drewN (Below.refl _ _) m)) h0).mono fun _ _ h => ⟨h.1, h.2.symm⟩
theorem left_quiet (g : Nat) (v : Value) (B : List Int) (a : Nat) (err : Int) (w : World) (h : Rr w g v B a err) (m : Nat) : Calls Try.prog 108 #[.pointer (some ⟨g, 0, none⟩)] (w.drewN m) fun e w' => e = .returned (.int .i64 ((B.length : Int) - (a : Int))) ∧ ∃ k, w' = (w.drewN m).drewN k :=
  R_Left_any g v B a err _ (h.keep (below_drewN (Below.refl _ _) m))
theorem must_quiet (g : Nat) (v : Value) (B : List Int) (a : Nat) (e : Int) (w : World) (h : Rr w g v B a 0) (m : Nat) : Calls Try.prog 96 #[.pointer (some ⟨g, 0, none⟩), .bool true, .int .i64 e] (w.drewN m) fun en w' => en = .returned (.bool true) ∧ w' = w.drewN m :=
  (must_go g _ _ e _ (h.keep (below_drewN (Below.refl _ _) m)).1 rfl).mono fun _ _ h => ⟨h.1, h.2.symm⟩
end Go.Proofs.Ytdmogbkfmeihfaa
