/- The image read: both Decodes; the law ImageDecodes. -/
import Derived.Test.YtdmogbkfmeihfaaIdA
import Derived.Test.YtdmogbkfmeihfaaIeE
import Derived.Test.YtdmogbkfmeihfaaImB
import Derived.Defers
import Derived.Recover
import Derived.Test.YtdmogbkfmeihfaaIeJ
namespace Go.Proofs.Ytdmogbkfmeihfaa
open Go.RowKit
set_option maxRecDepth 100000
set_option linter.unusedVariables false
/-- what is thrown -/
def thr (E : Int) : List PanicEntry := [{ v := .iface 138 (.agg #[.int .i64 E]), recovered := false }]
theorem must_yes (E : Int) (w : World) : Calls Try.prog 53 #[.bool true, .int .i64 E] w fun e w' => e = .returned (.tuple #[]) ∧ w = w' := by
  go_enter Try.func53, Try.ntmps53
  go_wp2
  first | go_end0 | refine bodyPost_ret (results_none rfl _ _ _) rfl ?_
  exact ⟨rfl, rfl⟩
theorem must_thr (E : Int) (w : World) : Calls Try.prog 53 #[.bool false, .int .i64 E] w fun e w' => e = .panicked (thr E) ∧ w = w' := by
  go_enter Try.func53, Try.ntmps53
  go_wp2
  exact ⟨rfl, rfl, rfl⟩
set_option maxHeartbeats 2000000 in
theorem row_yes (g : Nat) (v : Value) (C : List Int) (a : Nat) (ahead : ByteArray) (f : Bool) (seq : Int) (w : World) (h : Rr w g v C a 0) (h0 : (rRow C a 0).2.2 = 0) (hm : mayB (rowOf C a) ahead f seq = true) :
    Calls Try.prog 83 #[.pointer (some ⟨g, 0, none⟩), .string ahead, .bool f, .int .i64 seq] w (RRet w g v C (.agg (rowC (rowOf C a).1 (rowOf C a).2.1 (rowOf C a).2.2)) (rRow C a 0).2.1 0) := by
  have hB0 := al1 (Below.refl w.heap.size w) (.cells #[.string ⟨#[]⟩, .string ⟨#[]⟩, .int .i64 0] 61)
  have hb0 := Box.new w #[.string ⟨#[]⟩, .string ⟨#[]⟩, .int .i64 0] 61
  have hgl := h.1.lt
  obtain ⟨W0, hW0⟩ : ∃ W0, W0 = w.alloc (.cells #[.string ⟨#[]⟩, .string ⟨#[]⟩, .int .i64 0] 61) := ⟨_, rfl⟩
  rw [← hW0] at hB0 hb0
  have hR := R_Row_any g v C a 0 W0 (h.keep hB0)
  rw [h0] at hR
  unfold rowOf at hm ⊢
  generalize strOfNums (rRow C a 0).1.1 = ky at *
  generalize strOfNums (rRow C a 0).1.2.1 = vu at *
  generalize (rRow C a 0).1.2.2 = n at *
  generalize (rRow C a 0).2.1 = a2 at *
  simp only at hm ⊢
  have hmy := hd_ (fun W => may_any ky vu n ahead f seq W)
  rw [hm] at hmy
  have hR := hd_ hR
  have hb0 := hd_ hb0
  have hB0 := hd_ hB0
  have hgH := hd_ hgl
  clear h h0 hm hgl
  go_enter Try.func83, Try.ntmps83
  go_upto_region 1 with fail
  rw [← hW0]
  clear hW0
  go_upto_region 2 with (first
    | (go_at_call 107; (with_reducible refine hR.out.mono ?_); rintro e w1 ⟨rfl, P1⟩)
    | (refine store_box rfl 61 _ _ rfl _ _ _ (rowC ky vu n) rfl rfl (Box.new _ _ _) infoRow rfl (rowC_one' _ _ _) ?_; intro w2 hb2 hg2))
  have HB2 := below_row (al1 (Below.refl w1.heap.size w1) _) hg2 (Nat.le_refl _) (size_al _ _)
  have P2 := P1.before HB2
  have hne : ¬ w.heap.size = g := by have := hgH.out; omega
  have hb0b := hd_ (hb0.out.chg P2.2 hne)
  have hErr := hd_ (R_Err_any g v C a2 0 w2 P2.1)
  have hb2 := hd_ hb2
  have P2 := hd_ P2
  try simp only [Act.put]
  clear hg2 HB2 P1 hR hb0
  go_upto_region 3 with (first
    | (go_at_call 63; (with_reducible refine hErr.out.mono ?_); rintro e wz ⟨rfl, rfl⟩)
    | (refine load_boxI ?hw 61 _ rfl w1.heap.size 61 (rowC ky vu n) _ rfl hb2.out Try.underlying61 rfl infoRow ?_; (case hw => first | rfl | simp [Region.wanted, yielded]))
    | (go_at_call 75; (with_reducible refine (hmy.out _).mono ?_); rintro e w3 ⟨rfl, HB3⟩)
    | (go_at_call 53; (with_reducible refine (must_yes _ _).mono ?_); rintro e wz ⟨rfl, rfl⟩))
  have hb2c := hb2.out.keep HB3
  have hb0c := hb0b.out.keep HB3
  have P3 := P2.out.before HB3
  clear hb2 hb0b P2 hErr
  go_wp2_with (first
    | (refine load_boxI ?hw 61 _ rfl w1.heap.size 61 (rowC ky vu n) _ rfl hb2c Try.underlying61 rfl infoRow ?_; (case hw => first | rfl | simp [Region.wanted, yielded]))
    | (refine store_box rfl 61 _ _ rfl w.heap.size _ _ (rowC ky vu n) rfl rfl hb0c infoRow rfl (rowC_one' _ _ _) ?_; intro w4 hb4 hg4))
  refine bodyPost_ret (results_cell1 rfl _ _ _ rfl (run_load_box _ _ _ _ _ hb4 Try.underlying61 rfl infoRow)) rfl ?_
  refine ⟨rfl, ?_⟩
  have hP := P3.after hB0.out
  have hc := Chg.of hg4
  have hneR : w.heap.size ≠ g := hne
  refine ⟨⟨hP.1.1.chg hc (fun e => by injection e with e; exact hneR e.symm), hP.1.2.1.chg hc (fun k hk e => ?_), hP.1.2.2⟩, hP.2.trans hc (fun b hb e => by injection e with e; omega)⟩
  injection e with e
  subst e
  exact own_box hP.1.2.1 (hb0c) (by decide) hk
set_option maxHeartbeats 2000000 in
theorem row_no (g : Nat) (v : Value) (C : List Int) (a : Nat) (ahead : ByteArray) (f : Bool) (seq : Int) (w : World) (h : Rr w g v C a 0) (hno : (rRow C a 0).2.2 ≠ 0 ∨ mayB (rowOf C a) ahead f seq = false) :
    Calls Try.prog 83 #[.pointer (some ⟨g, 0, none⟩), .string ahead, .bool f, .int .i64 seq] w fun e w' => e = .panicked (thr 92) ∧ Chg (fun k => k = g) w w' := by
  have hB0 := al1 (Below.refl w.heap.size w) (.cells #[.string ⟨#[]⟩, .string ⟨#[]⟩, .int .i64 0] 61)
  obtain ⟨W0, hW0⟩ : ∃ W0, W0 = w.alloc (.cells #[.string ⟨#[]⟩, .string ⟨#[]⟩, .int .i64 0] 61) := ⟨_, rfl⟩
  rw [← hW0] at hB0
  have hR := R_Row_any g v C a 0 W0 (h.keep hB0)
  unfold rowOf at hno
  generalize strOfNums (rRow C a 0).1.1 = ky at *
  generalize strOfNums (rRow C a 0).1.2.1 = vu at *
  generalize (rRow C a 0).1.2.2 = n at *
  generalize (rRow C a 0).2.1 = a2 at *
  generalize (rRow C a 0).2.2 = e2 at *
  have hmy := hd_ (fun W => may_any ky vu n ahead f seq W)
  have hR := hd_ hR
  have hB0 := hd_ hB0
  clear h
  by_cases h0 : e2 = 0
  · subst h0
    have hm := hno.resolve_left (by simp)
    rw [hm] at hmy
    clear hno hm
    go_enter Try.func83, Try.ntmps83
    go_upto_region 1 with fail
    rw [← hW0]
    clear hW0
    go_upto_region 2 with (first
      | (go_at_call 107; (with_reducible refine hR.out.mono ?_); rintro e w1 ⟨rfl, P1⟩)
      | (refine store_box rfl 61 _ _ rfl _ _ _ (rowC ky vu n) rfl rfl (Box.new _ _ _) infoRow rfl (rowC_one' _ _ _) ?_; intro w2 hb2 hg2))
    have HB2 := below_row (al1 (Below.refl w1.heap.size w1) _) hg2 (Nat.le_refl _) (size_al _ _)
    have P2 := P1.before HB2
    have hErr := hd_ (R_Err_any g v C a2 0 w2 P2.1)
    have hb2 := hd_ hb2
    have P2 := hd_ P2
    try simp only [Act.put]
    clear hg2 HB2 P1 hR
    go_wp2_with (first
      | (go_at_call 63; (with_reducible refine hErr.out.mono ?_); rintro e wz ⟨rfl, rfl⟩)
      | (refine load_boxI ?hw 61 _ rfl w1.heap.size 61 (rowC ky vu n) _ rfl hb2.out Try.underlying61 rfl infoRow ?_; (case hw => first | rfl | simp [Region.wanted, yielded]))
      | (go_at_call 75; (with_reducible refine (hmy.out _).mono ?_); rintro e w3 ⟨rfl, HB3⟩)
      | (go_at_call 53; (with_reducible refine (must_thr _ _).mono ?_); rintro e wz ⟨rfl, rfl⟩))
    exact ⟨rfl, rfl, ((P2.out.before HB3).after hB0.out).2⟩
  · have hEB : (e2 == 0) = false := by rw [beq_eq_false_iff_ne]; exact h0
    clear hno
    go_enter Try.func83, Try.ntmps83
    go_upto_region 1 with fail
    rw [← hW0]
    clear hW0
    go_upto_region 2 with (first
      | (go_at_call 107; (with_reducible refine hR.out.mono ?_); rintro e w1 ⟨rfl, P1⟩)
      | (refine store_box rfl 61 _ _ rfl _ _ _ (rowC ky vu n) rfl rfl (Box.new _ _ _) infoRow rfl (rowC_one' _ _ _) ?_; intro w2 hb2 hg2))
    have HB2 := below_row (al1 (Below.refl w1.heap.size w1) _) hg2 (Nat.le_refl _) (size_al _ _)
    have P2 := P1.before HB2
    have hErr := hd_ (R_Err_any g v C a2 e2 w2 P2.1)
    have P2 := hd_ P2
    try simp only [Act.put]
    clear hg2 HB2 P1 hR hb2
    go_wp2_with (first
      | (go_at_call 63; (with_reducible refine hErr.out.mono ?_); rintro e wz ⟨rfl, rfl⟩)
      | (go_at_call 53; (with_reducible refine (must_thr _ _).mono ?_); rintro e wz ⟨rfl, rfl⟩))
    exact ⟨rfl, rfl, (P2.out.after hB0.out).2⟩
section
variable {P : Program} {ops : Array Oper} {rest : List Oper} {o : Oper} {a : Act} {Q : Exit → Act → World → Prop}
/-- make([]api.Row, 0, n) -/
theorem make0_rows {W : World} (hg : o.guard = none) (l c : Operand) (t e : TypeId) (hop : o.op = Op.makeSlice t l c)
    (ht : P.underlying t = some (.slice e)) (z : Value) (hinfo : (P.info? e).map (fun i => (i.zero, i.size, i.bytes)) = some (some z, 3, 40)) (kl kc : IntKind) (C : Int) (n : Nat)
    (hl : a.eval l = .int kl 0) (hc : a.eval c = .int kc C) (hC : C = (n : Int)) (hn : n ≤ 1048576)
    (h : ∀ v1 w1, w1.ownsRow W.heap.size e 3 v1 0 [] → Below W.heap.size W w1 → wpList P ops Q rest (a.put o.dst v1) w1) :
    wpList P ops Q (o :: rest) a W := by
  obtain ⟨i0, hi, hz0, hz1, hz2⟩ := info_parts hinfo
  refine wpList_make_own W hg l c t hop W.heap.size e i0 z 3 ht hi hz0 hz1 kl kc C n hl hc hC (by rw [hz2]; omega) (by unfold maxLen; omega) (Nat.le_refl _) ?_
  intro w1 h1 h2
  exact h _ w1 h1 ((Below.refl W.heap.size W).grown h2 (Nat.le_refl _) fun k hk => by cases hk)
end
/-- a reader, a state's box and its list of rows that grows -/
def Lr (w0 W : World) (g gs : Nat) (vr : Value) (C : List Int) (a : Nat) (seq : Int) (u : Value) (l : List RowT) : Prop :=
  Rr W g vr C a 0 ∧ Box W gs 36 (stC seq u) ∧ W.ownsRow w0.heap.size 61 3 u l.length (rowsV l) ∧ w0.heap.size ≤ g ∧ w0.heap.size ≤ gs ∧ Below w0.heap.size w0 W
section
variable {w0 W W1 : World} {g gs : Nat} {vr u : Value} {C : List Int} {a a1 : Nat} {seq : Int} {l : List RowT}
theorem Lr.keep (t : Lr w0 W g gs vr C a seq u l) (hb : Below W.heap.size W W1) : Lr w0 W1 g gs vr C a seq u l :=
  ⟨t.1.keep hb, t.2.1.keep hb, row_keep t.2.2.1 hb, t.2.2.2.1, t.2.2.2.2.1, bel_trans t.2.2.2.2.2 hb⟩
theorem Lr.post (t : Lr w0 W g gs vr C a seq u l) (p : RrPost W g vr C a1 0 W1) : Lr w0 W1 g gs vr C a1 seq u l := by
  refine ⟨p.1, t.2.1.chg p.2 (fun e => box_box t.2.1 t.1.1 (by decide) e), row_chg t.2.2.1 p.2 (fun k hk h => ?_), t.2.2.2.1, t.2.2.2.2.1, p.2.then t.2.2.2.2.2 (fun k h => by rw [h]; exact t.2.2.2.1) t.2.2.2.2.2.size⟩
  subst h
  rcases own_ne t.2.2.1 t.1.1 (by decide) with h1 | h1
  · rw [h1] at hk; cases hk
  · exact h1 hk
theorem Lr.app {r : RowT} {u1 : Value} (t : Lr w0 W g gs vr C a seq u l) (h1 : W1.ownsRow w0.heap.size 61 3 u1 (l.length + 1) (rowsV l ++ rowV r)) (hg : W.grownBy W1 u.ownBlock) :
    Rr W1 g vr C a 0 ∧ Box W1 gs 36 (stC seq u) ∧ W1.ownsRow w0.heap.size 61 3 u1 (l ++ [r]).length (rowsV (l ++ [r])) ∧ Below w0.heap.size w0 W1 := by
  refine ⟨⟨t.1.1.grown hg ?_, own_past t.1.2.1 t.2.2.1 hg (by decide), t.1.2.2⟩, t.2.1.grown hg ?_, by rw [List.length_append, rowsV_append]; exact h1, below_grown t.2.2.2.2.2 t.2.2.1 hg t.2.2.2.2.2.size⟩
  · intro h
    rcases own_ne t.2.2.1 t.1.1 (by decide) with h2 | h2
    · rw [h2] at h; cases h
    · exact h2 h.symm
  · intro h
    rcases own_ne t.2.2.1 t.2.1 (by decide) with h2 | h2
    · rw [h2] at h; cases h
    · exact h2 h.symm
/-- the list is stored into the state's box -/
theorem Lr.store {u1 : Value} (h : Rr W g vr C a 0) (hb : Box W gs 36 (stC seq u)) (ho : W.ownsRow w0.heap.size 61 3 u1 l.length (rowsV l)) (hg : w0.heap.size ≤ g) (hgs : w0.heap.size ≤ gs) (hB : Below w0.heap.size w0 W) :
    Lr w0 (W.setCell ⟨gs, 1, none⟩ u1) g gs vr C a seq u1 l := by
  obtain ⟨b1, g1⟩ := hb.put 1 u1
  refine ⟨⟨h.1.grown g1 (fun e => ?_), h.2.1.kept g1 (.inr (own_box h.2.1 hb (by decide))), h.2.2⟩, b1, row_chg ho (Chg.of g1) (fun k hk e => ?_), hg, hgs, below_row hB g1 hgs hB.size⟩
  · injection e with e
    exact box_box h.1 hb (by decide) e
  · injection e with e
    subst e
    rcases own_ne ho hb (by decide) with h2 | h2
    · rw [h2] at hk; cases hk
    · exact h2 hk
end
def ReadRet (w : World) (R : Option (Int × List RowT)) (e : Ending) (w' : World) : Prop :=
  (R = none ∧ e = .panicked (thr 92) ∧ Below w.heap.size w w') ∨ ∃ s l u, R = some (s, l) ∧ e = .returned (.agg (stC s u)) ∧ w'.ownsRow w.heap.size 61 3 u l.length (rowsV l) ∧ Below w.heap.size w w' ∧ l.length ≤ 1048576
theorem rdr_of {w : World} {base n : Nat} {v : Value} {l : List RowT} (h : w.ownsRow base 61 3 v n (rowsV l)) (hn : n = l.length) : RdR w v l := by subst hn; exact RdC.own h
theorem box_row (W : World) (r : RowT) : RdC 3 (W.alloc (.cells (rowC r.1 r.2.1 r.2.2) 61)) (.slice (some ⟨W.heap.size, 0, none⟩) 1 1) 1 (rowV r) :=
  ⟨rfl, _, _, rfl, Nat.le_refl _, by decide, (fun h => by cases h), fun j hj => ⟨_, 0, rfl, by rw [Nat.zero_add, World.cell?_alloc_new]; show _ = ([.string r.1, .string r.2.1, .int .i64 r.2.2] : List Value)[j]?; unfold rowC; simp⟩⟩
theorem rowV_one (r : RowT) : ∀ u ∈ rowV r, u.oneCell' = true := fun u h => by
  simp only [rowV, List.mem_cons, List.not_mem_nil, or_false] at h
  rcases h with rfl | rfl | rfl <;> rfl
set_option maxHeartbeats 8000000 in
theorem read_any (y : Value) (C : List Int) (w : World) (HR : Rd w y C) (hl : C.length ≤ 268435456) :
    Calls Try.prog 55 #[y] w (ReadRet w (readA C)) := by
  have hCb := hd_ HR.1
  obtain ⟨s, a1, e1, h1⟩ : ∃ s a1 e1, rInt C 0 0 1152921504606846976 = (s, a1, e1) := ⟨_, _, _, rfl⟩
  obtain ⟨n0, a2, e2, h2⟩ : ∃ n a2 e2, rCount C a1 e1 1048576 4 = (n, a2, e2) := ⟨_, _, _, rfl⟩
  have hnn : ∃ n : Nat, n0 = (n : Int) ∧ n ≤ 1048576 := by
    have hc : (rCount C a1 e1 1048576 4) = (n0, a2, e2) := h2
    unfold rCount at hc
    by_cases h0 : e1 = 0
    · rw [if_neg (fun h => h h0), if_neg (by decide)] at hc
      have ha1 : a1 ≤ C.length := by
        have := (int_parts HR.1 (Nat.zero_le _) (by decide) (show (rInt C 0 0 1152921504606846976).2.2 = 0 by rw [h1]; exact h0)).2
        obtain ⟨_, _, _, _, h5, _⟩ := this
        rw [h1] at h5; exact h5
      rcases uptoA_cases C HR.1 a1 ha1 1048576 (by decide) with ⟨E, hE, e⟩ | ⟨u, k, e, _, _, _, h4, _, _⟩
      · rw [e] at hc
        simp only at hc
        rw [if_pos (show E ≠ 0 by omega)] at hc
        injection hc with hc _
        exact ⟨0, hc.symm, by decide⟩
      · rw [e] at hc
        simp only at hc
        rw [if_neg (by simp)] at hc
        split at hc
        · injection hc with hc _
          exact ⟨0, hc.symm, by decide⟩
        · injection hc with hc _
          exact ⟨u, hc.symm, by omega⟩
    · rw [if_pos h0] at hc
      injection hc with hc _
      exact ⟨0, hc.symm, by decide⟩
  obtain ⟨n, rfl, hn⟩ := hnn
  have hRA : readA C = if e2 ≠ 0 then none else match rdP C s n true ⟨#[]⟩ a2 [] with | none => none | some (a, l) => if a < C.length then none else some (s, l) := by
    unfold readA
    rw [h1]
    simp only
    rw [h2]
    simp only [Int.toNat_natCast]
    rfl
  obtain ⟨R, hR⟩ : ∃ R, R = readA C := ⟨_, rfl⟩
  rw [← hR]
  rw [hRA] at hR
  obtain ⟨X, hX⟩ : ∃ X, X = rdP C s n true ⟨#[]⟩ a2 [] := ⟨_, rfl⟩
  rw [← hX] at hR
  have hRe := hd_ (show (e2 ≠ 0 → R = none) ∧ (e2 = 0 → (X = none → R = none) ∧ ∀ a l, X = some (a, l) → (a < C.length → R = none) ∧ (¬ a < C.length → R = some (s, l))) from
    ⟨fun h => by rw [hR, if_pos h], fun h => ⟨fun h3 => by rw [hR, if_neg (fun h4 => h4 h), h3], fun a l h3 => ⟨fun h4 => by rw [hR, if_neg (fun h5 => h5 h), h3]; simp only; rw [if_pos h4], fun h4 => by rw [hR, if_neg (fun h5 => h5 h), h3]; simp only; rw [if_neg h4]⟩⟩⟩)
  have hXH := hd_ hX
  clear hR hRA hX
  have hB0 := al1 (Below.refl w.heap.size w) (.cells #[.int .i64 0, .slice none 0 0] 36)
  have hb0 := Box.new w #[.int .i64 0, .slice none 0 0] 36
  obtain ⟨W0, hW0⟩ : ∃ W0, W0 = w.alloc (.cells #[.int .i64 0, .slice none 0 0] 36) := ⟨_, rfl⟩
  rw [← hW0] at hB0 hb0
  have hN := hd_ (R_New_any y C W0 (HR.keep hB0) (by omega))
  have hI := hd_ (fun W g vr (h : Rr W g vr C 0 0) => show Calls Try.prog 62 #[.pointer (some ⟨g, 0, none⟩), .int .i64 1152921504606846976] W (RRet W g vr C (.int .i64 s) a1 e1) from by have := R_Int_any g vr C 0 0 1152921504606846976 W h (by decide); rw [h1] at this; exact this)
  have hCo := hd_ (fun W g vr (h : Rr W g vr C a1 e1) => show Calls Try.prog 82 #[.pointer (some ⟨g, 0, none⟩), .int .i64 1048576, .int .i64 4] W (RRet W g vr C (.int .i64 (n : Int)) a2 e2) from by have := R_Count_any g vr C a1 e1 1048576 4 W h (by decide); rw [h2] at this; exact this)
  have hB0 := hd_ hB0
  have hb0 := hd_ hb0
  have hnH := hd_ hn
  have hz0 := hd_ hb0.out.lt
  clear HR h1 h2 hn
  go_enter Try.func55, Try.ntmps55
  go_upto_region 1 with fail
  rw [← hW0]
  clear hW0
  go_upto_region 4 with (first
    | (go_at_call 61; (with_reducible refine hN.out.mono ?_); rintro e w1 ⟨g, vr, rfl, HR1, hg, hv, HB1⟩; have hI1 := hI.out w1 g vr HR1)
    | (go_at_call 62; (with_reducible refine hI1.mono ?_); rintro e w2 ⟨rfl, P2⟩)
    | (refine store_box rfl 36 _ _ rfl _ _ _ (stC s (.slice none 0 0)) rfl rfl (Box.new _ _ _) infoSt rfl (stC_one _ _ _ _) ?_; intro w3 hb3 hg3; have HB3 := below_row (al1 (Below.refl w2.heap.size w2) _) hg3 (Nat.le_refl _) (size_al _ _); have P3 := P2.before HB3; have hC3 := hCo.out w3 g vr P3.1)
    | (go_at_call 82; (with_reducible refine hC3.mono ?_); rintro e w4 ⟨rfl, P4⟩))
  have P14 : Chg (fun k => k = g) w1 w4 := P3.2.trans P4.2 (fun _ _ h => h)
  have HB4 : Below W0.heap.size W0 w4 := P14.then HB1 (fun k h => by rw [h]; exact hg) HB1.size
  have hgs : ¬ w2.heap.size = g := box_box hb3 P3.1.1 (by decide)
  have hb3 := hb3.chg P4.2 hgs
  have hgsz : W0.heap.size ≤ w2.heap.size := Nat.le_trans HB1.size P2.2.size
  have hErr := hd_ (R_Err_any g vr C a2 e2 w4 P4.1)
  have hR4 := hd_ P4.1
  have hb3 := hd_ hb3
  have HB4 := hd_ HB4
  have hgH := hd_ (And.intro hg hgsz)
  try simp only [Act.put]
  clear HR1 hI1 P2 hg3 HB3 P3 hC3 P4 P14 HB1 hv hgs hg hgsz hN hI hCo
  generalize w2.heap.size = gs at *
  by_cases he : e2 = 0
  · subst he
    obtain ⟨hRn, hRs⟩ := hRe.out.2 rfl
    have hRn := hd_ hRn
    have hRs := hd_ hRs
    go_upto_region 5 with (first
      | (go_at_call 63; (with_reducible refine hErr.out.mono ?_); rintro e wz ⟨rfl, rfl⟩)
      | (go_at_call 53; (with_reducible refine (must_yes _ _).mono ?_); rintro e wz ⟨rfl, rfl⟩))
    clear hErr
    go_upto_region 7 with (at_make; refine make0_rows rfl _ _ 34 61 rfl Try.underlying34 _ infoRowZ _ _ _ n rfl rfl rfl hnH.out ?_; intro u0 w5 HO5 HB5; obtain ⟨Au0, cu0, hu0, _⟩ := RdR.form (l := []) (rdr_of (l := []) HO5 rfl); simp only [List.length_nil] at hu0; subst hu0; have hb5 := hb3.out.keep HB5; have q1 := hb5.cell 1 (v := .slice none 0 0) rfl; have z1 := hb5.frozen 1)
    have HO5b : w5.ownsRow W0.heap.size 61 3 (.slice Au0 0 cu0) 0 [] := row_base HO5 HB4.out.size
    have hL0 := hd_ (Lr.store (l := []) (hR4.out.keep HB5) hb5 HO5b hgH.out.1 hgH.out.2 (bel_trans HB4.out HB5))
    clear HO5 HB5 hb5 q1 z1 HO5b hR4 hb3 HB4
    go_upto_region 8 with fail
    go_loopw [6, 24] (fun va vi wr => ∃ (k : Nat) (ahead : ByteArray) (a : Nat) (u : Value) (l : List RowT), k ≤ n ∧ va = .string ahead ∧ vi = .int .i64 (k : Int) ∧ Lr W0 wr g gs vr C a s u l ∧ l.length = k ∧ rdP C s (n - k) (decide (k = 0)) ahead a l = X) (fun _ vi _ => n - (intOf vi).toNat)
    case atStart => exact ⟨0, ⟨#[]⟩, a2, _, [], Nat.zero_le _, rfl, rfl, hL0.out, rfl, hXH.out.symm⟩
    case round =>
      clear hL0 hXH
      obtain ⟨k, ahead, a, u, l, hk, rfl, rfl, hX, hlk, hT⟩ := hrel
      have q0 : wr.cell? ⟨gs, 0, none⟩ = some (.int .i64 s) := hX.2.1.cell 0 rfl
      by_cases hlt : k < n
      · have hkI : (k : Int) < (n : Int) := by omega
        have hkx := hd_ hlt
        have hnk : n - k = (n - (k + 1)) + 1 := by omega
        rw [hnk] at hT
        have hn9 := hnH.out
        have hI1 : (Value.int IntKind.i64 (wrap64 ((k : Int) + 1))) = .int .i64 ((k : Int) + 1) := congrArg _ (wrap_k1 k (by omega))
        have hT : (if (rRow C a 0).2.2 ≠ 0 then none else if mayB (rowOf C a) ahead (decide (k = 0)) s = false then none else rdP C s (n - (k + 1)) false (rowOf C a).1 (rRow C a 0).2.1 (l ++ [rowOf C a])) = X := hT
        obtain ⟨f, hf⟩ : ∃ f, f = decide (k = 0) := ⟨_, rfl⟩
        have hkf : ((k : Int) == 0) = f := by
          rw [hf]
          by_cases h0 : k = 0
          · rw [decide_eq_true h0, beq_iff_eq]; omega
          · rw [decide_eq_false h0, beq_eq_false_iff_ne]; omega
        rw [← hf] at hT
        have hXH := hd_ hX
        have hlkH := hd_ hlk
        by_cases hok : (rRow C a 0).2.2 = 0 ∧ mayB (rowOf C a) ahead f s = true
        · rw [if_neg (fun h => h hok.1), if_neg (by rw [hok.2]; simp)] at hT
          have hRow := row_yes g vr C a ahead f s wr hX.1 hok.1 hok.2
          generalize rowOf C a = r at *
          obtain ⟨ky, vu, m⟩ := r
          generalize (rRow C a 0).2.1 = a3 at *
          have hRow := hd_ hRow
          have hTH := hd_ hT
          have hl40 := hd_ (show (l.length + 1) * 40 ≤ 140737488355328 by omega)
          clear hok hT hnk hf hX hlk hk hlt hn9
          simp only at hRow hTH
          go_upto_region 11 with (first
            | (go_at_call 83; (with_reducible refine hRow.out.mono ?_); rintro e w6 ⟨rfl, P6⟩; have hL6 := hXH.out.post P6)
            | (refine store_box rfl 61 _ _ rfl _ _ _ (rowC ky vu m) rfl rfl (Box.new _ _ _) infoRow rfl (rowC_one' _ _ _) ?_; intro w7 hb7 hg7))
          have HB7 := below_row (al1 (Below.refl w6.heap.size w6) _) hg7 (Nat.le_refl _) (size_al _ _)
          have hL7 := hL6.keep HB7
          have c0 := hb7.cell 0 (v := .string ky) rfl
          have c1 : w7.cell? ⟨gs, 1, none⟩ = some u := hL7.2.1.cell 1 rfl
          have hb7 := hd_ hb7
          have hL7 := hd_ hL7
          try simp only [Act.put]
          clear hg7 HB7 hL6 P6 hXH hRow q0
          have hrz : (rowC ky vu m).size = 3 := rfl
          go_wp2_with (first
            | (refine load_boxI ?hw 61 _ rfl w6.heap.size 61 (rowC ky vu m) _ rfl hb7.out Try.underlying61 rfl infoRow ?_; (case hw => first | rfl | simp [Region.wanted, yielded]))
            | (at_builtin; have HBq := al1 (Below.refl w7.heap.size w7) (.cells (rowC ky vu m) 61); have hL8 := hL7.out.keep HBq; refine app_rd W0.heap.size rfl _ _ 34 61 (.agg #[.string ⟨#[]⟩, .string ⟨#[]⟩, .int .i64 0]) 3 40 rfl Try.underlying34 infoRowZ rfl (by omega) u _ l.length 1 (rowsV l) (rowV (ky, vu, m)) rfl rfl hL8.2.2.1 (box_row w7 (ky, vu, m)) (rowV_one _) hL8.2.2.2.2.2.size (by omega) hl40.out ?_; intro u9 w9 HO9 hg9 hat9; obtain ⟨k1, k2, k3, k4⟩ := hL8.app HO9 hg9; obtain ⟨Au9, cu9, hu9, _⟩ := (rdr_of (l := l ++ [(ky, vu, m)]) k3 rfl).form; rw [List.length_append, List.length_singleton] at hu9; subst hu9; have d1 := k2.cell 1 (v := u) rfl; have z1 := k2.frozen 1; have hL9 := Lr.store k1 k2 k3 hL8.2.2.2.1 hL8.2.2.2.2.1 k4))
          go_roundw
          case rel => exact ⟨k + 1, ky, a3, _, l ++ [(ky, vu, m)], hkx.out, rfl, by first | rfl | (rw [hI1]; rfl), hL9, by rw [List.length_append, hlkH.out]; rfl, by rw [decide_eq_false (by omega)]; exact hTH.out⟩
          case measure => first | (rw [hI1]; exact meas_k1i _ _ hkx.out) | exact meas_k1i _ _ hkx.out
        · have hno : (rRow C a 0).2.2 ≠ 0 ∨ mayB (rowOf C a) ahead f s = false := by
            by_cases h0 : (rRow C a 0).2.2 = 0
            · exact .inr (by cases hm : mayB (rowOf C a) ahead f s; rfl; exact absurd ⟨h0, hm⟩ hok)
            · exact .inl h0
          have hX0 : X = none := by
            rw [← hT]
            by_cases h0 : (rRow C a 0).2.2 = 0
            · rw [if_neg (fun h => h h0), if_pos (hno.resolve_left (fun h => h h0))]
            · rw [if_pos h0]
          obtain rfl := hRn.out hX0
          have hRow := hd_ (row_no g vr C a ahead f s wr hX.1 hno)
          clear hok hno hX0 hT hnk hf hX hlk hk hlt hn9 hRn hRs hRe
          go_wp2_with (go_at_call 83; (with_reducible refine hRow.out.mono ?_); rintro e w6 ⟨rfl, P6⟩)
          have hB6 : Below w.heap.size w w6 := hB0.out.trans ((P6.then hXH.out.2.2.2.2.2 (fun k h => by rw [h]; exact hXH.out.2.2.2.1) hXH.out.2.2.2.2.2.size).mono hB0.out.size)
          exact ⟨rfl, .inl ⟨rfl, rfl, hB6⟩⟩
      · obtain rfl : k = n := by omega
        rw [Nat.sub_self] at hT
        have hT : some (a, l) = X := hT
        obtain ⟨hA, hD⟩ := hRs.out a l hT.symm
        have hEnd := hd_ (R_End_any g vr C a 0 wr hX.1)
        have hle := hX.1.2.2
        have hXH := hd_ hX
        have hbR := hd_ (hb0.out.keep (show Below W0.heap.size W0 wr from hX.2.2.2.2.2))
        have hll := hd_ (show l.length ≤ 1048576 by have := hnH.out; omega)
        clear hT hX hk hlt hRn hRs hRe hlk
        by_cases ht : a < C.length
        · obtain rfl := hA ht
          have hE : rEnd C a 0 = 34 := by unfold rEnd; rw [if_pos ⟨rfl, ht⟩]
          rw [hE] at hEnd
          clear hE hA hD ht hle
          go_wp2_with (first
            | (go_at_call 84; (with_reducible refine hEnd.out.mono ?_); rintro e w6 ⟨rfl, HB6⟩)
            | (go_at_call 53; (with_reducible refine (must_thr _ _).mono ?_); rintro e wz ⟨rfl, rfl⟩))
          exact ⟨rfl, .inl ⟨rfl, rfl, hB0.out.trans ((bel_trans hXH.out.2.2.2.2.2 HB6).mono hB0.out.size)⟩⟩
        · obtain rfl := hD ht
          have hE : rEnd C a 0 = 0 := by unfold rEnd; rw [if_neg (fun h => ht h.2)]
          rw [hE] at hEnd
          clear hE hA hD ht hle
          go_upto_region 15 with (first
            | (go_at_call 84; (with_reducible refine hEnd.out.mono ?_); rintro e w6 ⟨rfl, HB6⟩)
            | (go_at_call 53; (with_reducible refine (must_yes _ _).mono ?_); rintro e wz ⟨rfl, rfl⟩))
          have hL6 := hXH.out.keep HB6
          have hb6 := hd_ hL6.2.1
          have hbR6 := hd_ (hbR.out.keep HB6)
          obtain ⟨Au, cu, hue, _⟩ := (rdr_of (l := l) hL6.2.2.1 rfl).form
          subst hue
          have hL6 := hd_ hL6
          clear hXH HB6 hbR hEnd
          go_wp2_with (first
            | (refine load_boxI ?hw 36 _ rfl gs 36 (stC s (.slice Au l.length cu)) _ rfl hb6.out Try.underlying36 rfl infoSt ?_; (case hw => first | rfl | simp [Region.wanted, yielded]))
            | (refine store_box rfl 36 _ _ rfl w.heap.size _ _ (stC s (.slice Au l.length cu)) rfl rfl hbR6.out infoSt rfl (stC_one _ _ _ _) ?_; intro w8 hb8 hg8))
          refine bodyPost_ret (results_cell1 rfl _ _ _ rfl (run_load_box _ _ _ _ _ hb8 Try.underlying36 rfl infoSt)) rfl ?_
          refine .inr ⟨s, l, _, rfl, rfl, ?_, below_row (hB0.out.trans (hL6.out.2.2.2.2.2.mono hB0.out.size)) hg8 (Nat.le_refl _) (Nat.le_trans hB0.out.size hL6.out.2.2.2.2.2.size), hll.out⟩
          refine row_base (row_chg hL6.out.2.2.1 (Chg.of hg8) (fun k hk e => ?_)) hB0.out.size
          injection e with e
          subst e
          have := (hL6.out.2.2.1.lt _ hk).1
          have := hz0.out
          omega
  · have hEB : (e2 == 0) = false := by rw [beq_eq_false_iff_ne]; exact he
    obtain rfl := hRe.out.1 he
    go_wp2_with (first
      | (go_at_call 63; (with_reducible refine hErr.out.mono ?_); rintro e wz ⟨rfl, rfl⟩)
      | (go_at_call 53; (with_reducible refine (must_thr _ _).mono ?_); rintro e wz ⟨rfl, rfl⟩))
    exact ⟨rfl, .inl ⟨rfl, rfl, hB0.out.trans (HB4.out.mono hB0.out.size)⟩⟩
theorem infoNn : (Try.prog.info? 138).map (·.size) = some 1 := by kernel_rfl
theorem run_assertI (E : Int) (x : TypeId) (W : World) : Sem.run Try.prog (Instr.typeAssert (.iface 138 (.agg #[.int .i64 E])) x 138 true) W = .ok (.tuple #[.agg #[.int .i64 E], .bool true]) W := by
  unfold Instr.typeAssert
  rw [Sem.run_bind, run_underlying Try.underlying138 W]
  simp
theorem given_any (E : Int) (w : World) : Calls Try.prog 52 #[.iface 138 (.agg #[.int .i64 E])] w fun e w' => e = .returned (.int .i64 E) ∧ Below w.heap.size w w' := by
  have hta := fun (x : TypeId) (W : World) => run_assertI E x W
  have hb0 := hd_ (Box.new w #[.int .i64 0] 138)
  have hB0 := hd_ (al1 (Below.refl w.heap.size w) (.cells #[.int .i64 0] 138))
  go_enter Try.func52, Try.ntmps52
  go_upto_region 2 with (refine store_box rfl 138 _ _ rfl w.heap.size _ _ #[.int .i64 E] rfl rfl hb0.out infoNn rfl (by simp [Value.oneCell']) ?_; intro w1 hb1 hg1)
  have HB1 := below_row hB0.out hg1 (Nat.le_refl _) hB0.out.size
  have q0 := hb1.cell 0 (v := .int .i64 E) rfl
  try simp only [Act.put]
  clear hg1 hb1
  go_wp2
  go_ret
  exact ⟨rfl, HB1⟩
theorem infoEr : (Try.prog.info? 25).map (·.size) = some 1 := by kernel_rfl
set_option maxHeartbeats 1000000 in
theorem catch_thr (gs ge : Nat) (cs0 : Array Value) (E0 E : Int) (w : World) (hs : Box w gs 36 cs0) (he : Box w ge 25 #[.int .i64 E0]) (h2 : cs0.size = 2) :
    CallsD Try.prog 51 #[.pointer (some ⟨gs, 0, none⟩), .pointer (some ⟨ge, 0, none⟩)] (.panicking (thr E)) w fun e u' w' =>
      e = .returned (.tuple #[]) ∧ u' = .panicking [{ v := .iface 138 (.agg #[.int .i64 E]), recovered := true }] ∧ Box w' gs 36 (stC 0 (.slice none 0 0)) ∧ Box w' ge 25 #[.int .i64 E] ∧ Chg (fun k => k = gs ∨ k = ge) w w' := by
  unfold thr
  refine callsD_of_wpS Try.func51 rfl fun c₀ cs hu => ?_
  apply wpS_seq
  apply wpS_region
  simp [wpOpsS, go_sem, recoverD, hu, Try.ntmps51, Exit.thenS]
  refine wpS_of_wp ?_
  change Code.wp Try.prog _ _ { tmps := #[.pointer (some ⟨gs, 0, none⟩), .pointer (some ⟨ge, 0, none⟩), .iface 138 (.agg #[.int .i64 E]), .iface 138 (.agg #[.int .i64 E]), undef, undef, undef, undef, undef], defers := [] } w
  have hne : gs ≠ ge := box_box hs he (by decide)
  go_wp2_with (first
    | (go_at_call 52; (with_reducible refine (given_any E _).mono ?_); rintro e w1 ⟨rfl, HB1⟩; have hs1 := hs.keep HB1; have he1 := he.keep HB1)
    | (refine store_box rfl 36 _ _ rfl gs _ cs0 (stC 0 (.slice none 0 0)) rfl rfl hs1 infoSt h2 (stC_one _ _ _ _) ?_; intro w2 hb2 hg2; have he2 := he1.grown hg2 (fun e => by injection e with e; exact hne e.symm); have q0 := he2.cell 0 (v := .int .i64 E0) rfl; have z0 := he2.frozen 0))
  obtain ⟨he3, hg3⟩ := he2.put 0 (.int .i64 E)
  have hb3 := hb2.grown hg3 (fun e => by injection e with e; exact hne e)
  refine ⟨rfl, _, rfl, _, results_none rfl _ _ _, rfl, rfl, hb3, he3, ?_⟩
  have c1 : Chg (fun k => k = gs ∨ k = ge) w w1 := Chg.below HB1
  have c2 : Chg (fun k => k = gs ∨ k = ge) w1 w2 := (Chg.of hg2).mono (fun b _ e => .inl (by injection e))
  have c3 : Chg (fun k => k = gs ∨ k = ge) w2 (w2.setCell ⟨ge, 0, none⟩ (.int .i64 E)) := (Chg.of hg3).mono (fun b _ e => .inr (by injection e))
  exact (c1.trans c2 (fun _ _ h => h)).trans c3 (fun _ _ h => h)
theorem catch_idle (gs ge : Nat) (w : World) :
    CallsD Try.prog 51 #[.pointer (some ⟨gs, 0, none⟩), .pointer (some ⟨ge, 0, none⟩)] .returning w fun e u' w' => e = .returned (.tuple #[]) ∧ u' = .returning ∧ w' = w := by
  refine callsD_of_wpS Try.func51 rfl fun c₀ cs hu => ?_
  apply wpS_seq
  apply wpS_region
  simp [wpOpsS, go_sem, recoverD, hu, Try.ntmps51, Exit.thenS]
  refine wpS_of_wp ?_
  change Code.wp Try.prog _ _ { tmps := #[.pointer (some ⟨gs, 0, none⟩), .pointer (some ⟨ge, 0, none⟩), .nilIface, .nilIface, undef, undef, undef, undef, undef], defers := [] } w
  go_wp2
  refine ⟨rfl, .returning, ?_, _, results_none rfl _ _ _, rfl, rfl, rfl⟩
  rw [← hu]
theorem run_load_one {W : World} (ty g : Nat) (v : Value) {d : TypeDesc} (hu : Try.prog.underlying ty = some d) (hd : (match d with | .struct _ | .array _ _ => true | _ => false) = false) (hc : W.cell? ⟨g, 0, none⟩ = some v) : (loadVar ty ⟨g, 0, none⟩).run Try.prog W = .ok v W := by
  have hagg : (isAgg ty).run Try.prog W = .ok false W := by
    unfold isAgg
    rw [Sem.run_bind, run_underlying hu W]
    cases d <;> simp_all
  unfold loadVar
  rw [Sem.run_bind, hagg]
  simp [hc, go_sem]
theorem results_cc {fn : Func} {p q : Tmp} {tp tq : TypeId} (h : fn.results = #[.cell p tp, .cell q tq]) (tmps : Array Value) (P : Program) (w : World) {v u : Value} {g k : Nat} (hp : tmps.getD p undef = .pointer (some ⟨g, 0, none⟩)) (hq : tmps.getD q undef = .pointer (some ⟨k, 0, none⟩))
    (hl : (loadVar tp ⟨g, 0, none⟩).run P w = .ok v w) (hm : (loadVar tq ⟨k, 0, none⟩).run P w = .ok u w) : (results fn tmps).run P w = .ok (.tuple #[v, u]) w := by
  have hp2 : tmps[p]?.getD undef = .pointer (some ⟨g, 0, none⟩) := by rw [← hp]; simp
  have hq2 : tmps[q]?.getD undef = .pointer (some ⟨k, 0, none⟩) := by rw [← hq]; simp
  simp only [results, h]
  simp [Result.andThen, hp2, hq2, asAddr, hl, hm]
def DecRet (w : World) (R : Int × Int × List RowT) (e : Ending) (w' : World) : Prop := ∃ u, e = .returned (.tuple #[.agg (stC R.2.1 u), .int .i64 R.1]) ∧ w'.ownsRow w.heap.size 61 3 u R.2.2.length (rowsV R.2.2) ∧ Below w.heap.size w w' ∧ R.2.2.length ≤ 1048576
theorem rdr_nil (W : World) : RdR W (.slice none 0 0) [] := RdC.own (World.ownsRow_nil W 0 61 3)
theorem read_none (y : Value) (C : List Int) (w : World) (HR : Rd w y C) (hl : C.length ≤ 268435456) (h : readA C = none) : Calls Try.prog 55 #[y] w fun e w' => e = .panicked (thr 92) ∧ Below w.heap.size w w' := by
  refine (read_any y C w HR hl).mono ?_
  rintro e w' (⟨_, h1, h2⟩ | ⟨s, l, u, h3, _⟩)
  · exact ⟨h1, h2⟩
  · rw [h] at h3; cases h3
theorem read_some (y : Value) (C : List Int) (w : World) (HR : Rd w y C) (hl : C.length ≤ 268435456) (s : Int) (l : List RowT) (h : readA C = some (s, l)) : Calls Try.prog 55 #[y] w fun e w' => ∃ u, e = .returned (.agg (stC s u)) ∧ w'.ownsRow w.heap.size 61 3 u l.length (rowsV l) ∧ Below w.heap.size w w' ∧ l.length ≤ 1048576 := by
  refine (read_any y C w HR hl).mono ?_
  rintro e w' (⟨h3, _⟩ | ⟨s2, l2, u, h3, h4⟩)
  · rw [h] at h3; cases h3
  · rw [h] at h3
    injection h3 with h3
    injection h3 with h5 h6
    subst h5; subst h6
    exact ⟨u, h4⟩
set_option maxHeartbeats 4000000 in
theorem Decode_any (v : Value) (B : List Int) (w : World) (HR : Rd w v B) (hl : B.length ≤ 140737488351241) :
    Calls Try.prog 30 #[v] w (DecRet w (decA B)) := by
  have hlen := HR.2.len (P := Try.prog) 22 5 3 Try.underlying22
  have hbs := (Box.new w #[.int .i64 0, .slice none 0 0] 36).keep (al1 (Below.refl _ _) (.cells #[.int .i64 0] 25))
  have hz : (w.alloc (.cells #[.int .i64 0, .slice none 0 0] 36)).heap.size = w.heap.size + 1 := by simp
  have hbe := Box.new (w.alloc (.cells #[.int .i64 0, .slice none 0 0] 36)) #[.int .i64 0] 25
  rw [hz] at hbe
  have hB0 := al1 (al1 (Below.refl w.heap.size w) (.cells #[.int .i64 0, .slice none 0 0] 36)) (.cells #[.int .i64 0] 25)
  obtain ⟨W0, hW0⟩ : ∃ W0, W0 = (w.alloc (.cells #[.int .i64 0, .slice none 0 0] 36)).alloc (.cells #[.int .i64 0] 25) := ⟨_, rfl⟩
  rw [← hW0] at hbs hbe hB0
  have hz0 : W0.heap.size = w.heap.size + 2 := by rw [hW0]; show ((w.heap.push _).push _).size = _; rw [Array.size_push, Array.size_push]
  have hRW := hd_ (HR.keep hB0)
  have hbs := hd_ hbs
  have hbe := hd_ hbe
  have hB0 := hd_ hB0
  have hzH := hd_ hz0
  have hmf : ∀ (fn : Fn) (first cap : Array Value) (w : World), Sem.run Try.prog (Instr.makeFunc fn first cap) w = .ok (.func fn first cap) w := fun _ _ _ _ => rfl
  clear hz hz0
  obtain ⟨R, hR⟩ : ∃ R, R = decA B := ⟨_, rfl⟩
  rw [← hR]
  -- what is thrown, caught
  have hThr := hd_ (fun (E : Int) W (hB : Below W0.heap.size W0 W) (hE : R = (E, 0, [])) (fn : Func) (tmps : Array Value) (hf : fn.results = #[.cell 2 36, .cell 3 25]) (h2 : tmps.getD 2 undef = .pointer (some ⟨w.heap.size, 0, none⟩)) (h3 : tmps.getD 3 undef = .pointer (some ⟨w.heap.size + 1, 0, none⟩)) => show CallsD Try.prog 51 #[.pointer (some ⟨w.heap.size, 0, none⟩), .pointer (some ⟨w.heap.size + 1, 0, none⟩)] (.panicking (thr E)) W (fun
      | .returned _, u', w' => Leaves Try.prog fn tmps (DecRet w R) [] (settle u') w'
      | .panicked chain, u', w' => Leaves Try.prog fn tmps (DecRet w R) [] (raised u' chain) w'
      | .outgrown, _, w' => (DecRet w R) .outgrown w') from by
    refine (catch_thr w.heap.size (w.heap.size + 1) _ 0 E W (hbs.out.keep hB) (hbe.out.keep hB) rfl).mono ?_
    rintro e u' w' ⟨rfl, rfl, b1, b2, hC⟩
    simp only [settle]
    refine ⟨_, results_cc hf _ _ _ h2 h3 (run_load_box _ _ _ _ _ b1 Try.underlying36 rfl infoSt) (run_load_one _ _ (.int .i64 E) Try.underlying25 rfl (b2.cell 0 rfl)), _, by rw [hE], by rw [hE]; exact World.ownsRow_nil _ _ _ _, ?_, by simp [hE]⟩
    exact Chg.then (hB0.out.trans (hB.mono hB0.out.size)) hC (fun k h => by rcases h with h | h <;> omega) (Nat.le_trans hB0.out.size hB.size))
  unfold decA at hR
  by_cases hbig : 268435456 < B.length
  · rw [if_pos hbig] at hR
    have hbI : ¬ (B.length : Int) ≤ 268435456 := by omega
    have hbd : decide ((B.length : Int) ≤ 268435456) = false := decide_eq_false hbI
    have hT := hd_ (hThr.out 90 W0 (Below.refl _ _) hR)
    clear hThr hR HR
    go_enter_defers Try.func30, Try.ntmps30
    go_upto_region 2 with fail
    rw [← hW0]
    clear hW0
    go_wp2_with (go_at_call 53; (with_reducible refine (must_thr _ _).mono ?_); rintro e wz ⟨rfl, rfl⟩)
    refine leaves_cons (f := 51) (args := #[.pointer (some ⟨w.heap.size, 0, none⟩), .pointer (some ⟨w.heap.size + 1, 0, none⟩)]) (by simp) (by simp [go_sem]) ?_
    refine hT.out _ _ ?_ ?_ ?_ <;> rfl
  rw [if_neg hbig] at hR
  have hbI : (B.length : Int) ≤ 268435456 := by omega
  by_cases h10 : B.length < 10
  · rw [if_pos (.inl h10)] at hR
    have h10I : ¬ 10 ≤ (B.length : Int) := by omega
    have hT := hd_ (hThr.out 92 W0 (Below.refl _ _) hR)
    clear hThr hR HR
    go_enter_defers Try.func30, Try.ntmps30
    go_upto_region 2 with fail
    rw [← hW0]
    clear hW0
    go_wp2_with (first | (go_at_call 53; (with_reducible refine (must_yes _ _).mono ?_); rintro e wz ⟨rfl, rfl⟩) | (go_at_call 53; (with_reducible refine (must_thr _ _).mono ?_); rintro e wz ⟨rfl, rfl⟩))
    refine leaves_cons (f := 51) (args := #[.pointer (some ⟨w.heap.size, 0, none⟩), .pointer (some ⟨w.heap.size + 1, 0, none⟩)]) (by simp) (by simp [go_sem]) ?_
    refine hT.out _ _ ?_ ?_ ?_ <;> rfl
  have h10I : 10 ≤ (B.length : Int) := by omega
  obtain ⟨u, hs, hRu⟩ := HR.sl_h (P := Try.prog) Try.underlying22 infoB 4 (by omega)
  have hs : ∀ W : World, Sem.run Try.prog (Instr.slice 22 v none (some (.int .i64 4)) none) W = .ok u W := hs
  have hRu0 := hRu.keep hB0.out
  have hstr := hRu0.str (P := Try.prog) 22 5 9 Try.underlying22 Try.underlying5 Try.underlying9
  have hcmp := str_eq (bytes_take HR.1 4) hwi_bytes
  rw [hwi_str, hwi_list] at hcmp
  by_cases hM : B.take 4 = hwi
  · rw [decide_eq_true hM] at hcmp
    rw [if_neg (show ¬ (B.length < 10 ∨ B.take 4 ≠ hwi) from fun h => h.elim h10 (fun h2 => h2 hM))] at hR
    have hHo := hd_ (crc_Holds_any v B W0 hRW.out (by omega))
    cases hh : holdsB B
    · rw [hh, if_pos rfl] at hR
      subst hR
      rw [hh] at hHo
      clear hRu hRu0 hh HR
      generalize strOfNums (B.take 4) = S at *
      go_enter_defers Try.func30, Try.ntmps30
      go_upto_region 2 with fail
      rw [← hW0]
      clear hW0
      go_wp2_with (first
        | (go_at_call 53; (with_reducible refine (must_yes _ _).mono ?_); rintro e wz ⟨rfl, rfl⟩)
        | (go_at_call 53; (with_reducible refine (must_thr _ _).mono ?_); rintro e wz ⟨rfl, rfl⟩)
        | (go_at_call 54; (with_reducible refine hHo.out.mono ?_); rintro e w1 ⟨rfl, HB1⟩; have hT := hd_ (hThr.out 93 w1 HB1 rfl)))
      refine leaves_cons (f := 51) (args := #[.pointer (some ⟨w.heap.size, 0, none⟩), .pointer (some ⟨w.heap.size + 1, 0, none⟩)]) (by simp) (by simp [go_sem]) ?_
      refine hT.out _ _ ?_ ?_ ?_ <;> rfl
    · rw [hh, if_neg (by simp)] at hR
      rw [hh] at hHo
      obtain ⟨n4, hn4⟩ : ∃ n, n = B.length - 4 := ⟨_, rfl⟩
      obtain ⟨u5, hs5, hR5⟩ := HR.sl (P := Try.prog) Try.underlying22 infoB 4 n4 (by omega) (by omega)
      have hs5 : ∀ W : World, Sem.run Try.prog (Instr.slice 22 v (some (.int .i64 4)) (some (.int .i64 (n4 : Int))) none) W = .ok u5 W := hs5
      have hw4 : wrap64 ((B.length : Int) - 4) = (n4 : Int) := by rw [hn4]; unfold wrap64; omega
      have hw5 : IntKind.i64.wrap ((B.length : Int) - 4) = (n4 : Int) := by rw [hn4, IntKind.wrap_i64]; omega
      rw [← hn4] at hR
      have hCl : ((B.take n4).drop 4).length ≤ 268435456 := by rw [List.length_drop, List.length_take]; omega
      have hR5 := hd_ hR5
      generalize (B.take n4).drop 4 = C at *
      cases hRA : readA C with
      | none =>
        rw [hRA] at hR
        simp only at hR
        subst hR
        have hRd := hd_ (fun W (h : Below W0.heap.size W0 W) => read_none u5 C W ((hR5.out.keep hB0.out).keep h) hCl hRA)
        clear hRu hRu0 hh HR hn4 hCl hRA
        generalize strOfNums (B.take 4) = S at *
        go_enter_defers Try.func30, Try.ntmps30
        go_upto_region 2 with fail
        rw [← hW0]
        clear hW0
        go_wp2_with (first
          | (go_at_call 53; (with_reducible refine (must_yes _ _).mono ?_); rintro e wz ⟨rfl, rfl⟩)
          | (go_at_call 54; (with_reducible refine hHo.out.mono ?_); rintro e w1 ⟨rfl, HB1⟩; have hRc := hd_ (hRd.out w1 HB1))
          | (go_at_call 55; (with_reducible refine hRc.out.mono ?_); rintro e w2 ⟨rfl, HB2⟩; have hT := hd_ (hThr.out 92 w2 (bel_trans HB1 HB2) rfl)))
        refine leaves_cons (f := 51) (args := #[.pointer (some ⟨w.heap.size, 0, none⟩), .pointer (some ⟨w.heap.size + 1, 0, none⟩)]) (by simp) (by simp [go_sem]) ?_
        refine hT.out _ _ ?_ ?_ ?_ <;> rfl
      | some q =>
        obtain ⟨s, l⟩ := q
        rw [hRA] at hR
        simp only at hR
        subst hR
        have hRd := hd_ (fun W (h : Below W0.heap.size W0 W) => read_some u5 C W ((hR5.out.keep hB0.out).keep h) hCl s l hRA)
        clear hRu hRu0 hh HR hn4 hCl hRA hThr
        generalize strOfNums (B.take 4) = S at *
        go_enter_defers Try.func30, Try.ntmps30
        go_upto_region 2 with fail
        rw [← hW0]
        clear hW0
        go_wp2_with (first
          | (go_at_call 53; (with_reducible refine (must_yes _ _).mono ?_); rintro e wz ⟨rfl, rfl⟩)
          | (go_at_call 54; (with_reducible refine hHo.out.mono ?_); rintro e w1 ⟨rfl, HB1⟩; have hRc := hd_ (hRd.out w1 HB1))
          | (go_at_call 55; (with_reducible refine hRc.out.mono ?_); rintro e w2 ⟨u2, rfl, HO2, HB2, hll⟩; obtain ⟨Au, cu, rfl, _⟩ := (rdr_of (l := l) HO2 rfl).form; have hbs2 := hbs.out.keep (bel_trans HB1 HB2); have hbe2 := hbe.out.keep (bel_trans HB1 HB2))
          | (refine store_box rfl 36 _ _ rfl w.heap.size _ _ (stC s (.slice Au l.length cu)) rfl rfl hbs2 infoSt rfl (stC_one _ _ _ _) ?_; intro w3 hb3 hg3; have hbe3 := hbe2.grown hg3 (fun e => by injection e with e; omega); have q0 := hbe3.cell 0 (v := .int .i64 0) rfl; have z0 := hbe3.frozen 0))
        refine leaves_cons (f := 51) (args := #[.pointer (some ⟨w.heap.size, 0, none⟩), .pointer (some ⟨w.heap.size + 1, 0, none⟩)]) (by simp) (by simp [go_sem]) ?_
        refine (catch_idle w.heap.size (w.heap.size + 1) _).mono ?_
        rintro e u' w'' ⟨rfl, rfl, rfl⟩
        simp only [settle]
        obtain ⟨he4, hg4⟩ := hbe3.put 0 (.int .i64 0)
        have hb4 := hb3.grown hg4 (fun e => by injection e with e; omega)
        have hzz := hzH.out
        have hz1 := HB1.size
        have hz2 := HB2.size
        have hz3 := hB0.out.size
        refine ⟨_, results_cc rfl _ _ _ rfl rfl (run_load_box _ _ _ _ _ hb4 Try.underlying36 rfl infoSt) (run_load_one _ _ (.int .i64 0) Try.underlying25 rfl (he4.cell 0 rfl)), _, rfl, ?_, ?_, hll⟩
        · have o3 := row_chg HO2 (Chg.of hg3) (fun k hk e => by injection e with e; subst e; have := (HO2.lt _ hk).1; omega)
          have o4 := row_chg o3 (Chg.of hg4) (fun k hk e => by injection e with e; subst e; have := (o3.lt _ hk).1; omega)
          exact row_base o4 (by omega)
        · have b2 : Below w.heap.size w w2 := hB0.out.trans ((bel_trans HB1 HB2).mono hB0.out.size)
          have b3 := below_row b2 hg3 (Nat.le_refl _) (by omega)
          exact below_row b3 hg4 (by omega) (Nat.le_trans (by omega) hg3.size)
  · rw [decide_eq_false hM] at hcmp
    rw [if_pos (show B.length < 10 ∨ B.take 4 ≠ hwi from .inr hM)] at hR
    have hT := hd_ (hThr.out 92 W0 (Below.refl _ _) hR)
    clear hThr hR HR hRu hRu0
    generalize strOfNums (B.take 4) = S at *
    go_enter_defers Try.func30, Try.ntmps30
    go_upto_region 2 with fail
    rw [← hW0]
    clear hW0
    go_wp2_with (first | (go_at_call 53; (with_reducible refine (must_yes _ _).mono ?_); rintro e wz ⟨rfl, rfl⟩) | (go_at_call 53; (with_reducible refine (must_thr _ _).mono ?_); rintro e wz ⟨rfl, rfl⟩))
    refine leaves_cons (f := 51) (args := #[.pointer (some ⟨w.heap.size, 0, none⟩), .pointer (some ⟨w.heap.size + 1, 0, none⟩)]) (by simp) (by simp [go_sem]) ?_
    refine hT.out _ _ ?_ ?_ ?_ <;> rfl
/-- the document's reader, a state's box and its list of rows that grows -/
def Ld (w0 W : World) (g gs : Nat) (vr : Value) (C : List Int) (a : Nat) (err seq : Int) (u : Value) (l : List RowT) : Prop :=
  Qr W g vr C a err ∧ Box W gs 36 (stC seq u) ∧ W.ownsRow w0.heap.size 61 3 u l.length (rowsV l) ∧ w0.heap.size ≤ g ∧ w0.heap.size ≤ gs ∧ Below w0.heap.size w0 W ∧ Rd w0 vr C
section
variable {w0 W W1 : World} {g gs : Nat} {vr u : Value} {C : List Int} {a a1 : Nat} {err e1 seq : Int} {l : List RowT}
theorem Ld.keep (t : Ld w0 W g gs vr C a err seq u l) (hb : Below W.heap.size W W1) : Ld w0 W1 g gs vr C a err seq u l :=
  ⟨t.1.keep hb, t.2.1.keep hb, row_keep t.2.2.1 hb, t.2.2.2.1, t.2.2.2.2.1, bel_trans t.2.2.2.2.2.1 hb, t.2.2.2.2.2.2⟩
theorem Ld.post (t : Ld w0 W g gs vr C a err seq u l) (p : QrPost W g vr C a1 e1 W1) : Ld w0 W1 g gs vr C a1 e1 seq u l := by
  refine ⟨p.1, t.2.1.chg p.2 (fun e => box_box t.2.1 t.1.1 (by decide) e), row_chg t.2.2.1 p.2 (fun k hk h => ?_), t.2.2.2.1, t.2.2.2.2.1, p.2.then t.2.2.2.2.2.1 (fun k h => by rw [h]; exact t.2.2.2.1) t.2.2.2.2.2.1.size, t.2.2.2.2.2.2⟩
  subst h
  rcases own_ne t.2.2.1 t.1.1 (by decide) with h1 | h1
  · rw [h1] at hk; cases hk
  · exact h1 hk
theorem Ld.app {r : RowT} {u1 : Value} (t : Ld w0 W g gs vr C a err seq u l) (h1 : W1.ownsRow w0.heap.size 61 3 u1 (l.length + 1) (rowsV l ++ rowV r)) (hg : W.grownBy W1 u.ownBlock) :
    Qr W1 g vr C a err ∧ Box W1 gs 36 (stC seq u) ∧ W1.ownsRow w0.heap.size 61 3 u1 (l ++ [r]).length (rowsV (l ++ [r])) ∧ Below w0.heap.size w0 W1 := by
  have HB := below_grown t.2.2.2.2.2.1 t.2.2.1 hg t.2.2.2.2.2.1.size
  refine ⟨⟨t.1.1.grown hg ?_, t.2.2.2.2.2.2.keep HB, t.1.2.2⟩, t.2.1.grown hg ?_, by rw [List.length_append, rowsV_append]; exact h1, HB⟩
  · intro h
    rcases own_ne t.2.2.1 t.1.1 (by decide) with h2 | h2
    · rw [h2] at h; cases h
    · exact h2 h.symm
  · intro h
    rcases own_ne t.2.2.1 t.2.1 (by decide) with h2 | h2
    · rw [h2] at h; cases h
    · exact h2 h.symm
theorem Ld.store {u1 : Value} (h : Qr W g vr C a err) (hb : Box W gs 36 (stC seq u)) (ho : W.ownsRow w0.heap.size 61 3 u1 l.length (rowsV l)) (hg : w0.heap.size ≤ g) (hgs : w0.heap.size ≤ gs) (hB : Below w0.heap.size w0 W) (hR : Rd w0 vr C) :
    Ld w0 (W.setCell ⟨gs, 1, none⟩ u1) g gs vr C a err seq u1 l := by
  obtain ⟨b1, g1⟩ := hb.put 1 u1
  have HB := below_row hB g1 hgs hB.size
  refine ⟨⟨h.1.grown g1 (fun e => ?_), hR.keep HB, h.2.2⟩, b1, row_chg ho (Chg.of g1) (fun k hk e => ?_), hg, hgs, HB, hR⟩
  · injection e with e
    exact box_box h.1 hb (by decide) e
  · injection e with e
    subst e
    rcases own_ne ho hb (by decide) with h2 | h2
    · rw [h2] at hk; cases hk
    · exact h2 hk
/-- the number is stored into the state's box -/
theorem Ld.num {s : Int} (t : Ld w0 W g gs vr C a err seq u l) : Ld w0 (W.setCell ⟨gs, 0, none⟩ (.int .i64 s)) g gs vr C a err s u l := by
  obtain ⟨b1, g1⟩ := t.2.1.put 0 (.int .i64 s)
  have HB := below_row t.2.2.2.2.2.1 g1 t.2.2.2.2.1 t.2.2.2.2.2.1.size
  refine ⟨⟨t.1.1.grown g1 (fun e => ?_), t.2.2.2.2.2.2.keep HB, t.1.2.2⟩, b1, row_chg t.2.2.1 (Chg.of g1) (fun k hk e => ?_), t.2.2.2.1, t.2.2.2.2.1, HB, t.2.2.2.2.2.2⟩
  · injection e with e
    exact box_box t.1.1 t.2.1 (by decide) e
  · injection e with e
    subst e
    rcases own_ne t.2.2.1 t.2.1 (by decide) with h2 | h2
    · rw [h2] at hk; cases hk
    · exact h2 hk
end
section
variable {P : Program} {o : Oper} {a : Act} {K : Act → World → Prop} {Q : Exit → Act → World → Prop}
theorem wp_app_R {W : World} (base : Nat) (s x : Operand) (t e : TypeId) (z : Value) (size bytes : Nat)
    (ho : o.op = .call { callee := .builtin .append, args := #[s, x], argTypes := #[t, t] })
    (ht : P.underlying t = some (.slice e)) (hinfo : (P.info? e).map (fun i => (i.zero, i.size, i.bytes)) = some (some z, size, bytes)) (hzs : z.cells.size = size) (hsz : 0 < size)
    (v y : Value) (n m : Nat) (xs ys : List Value) (hs : a.eval s = v) (hx : a.eval x = y)
    (HO : W.ownsRow base e size v n xs) (HR : RdC size W y m ys) (h1 : ∀ u ∈ ys, u.oneCell' = true) (hbase : base ≤ W.heap.size) (hb0 : 0 < bytes) (hl : (n + m) * bytes ≤ 140737488355328)
    (h : ∀ v1 w1, w1.ownsRow base e size v1 (n + m) (xs ++ ys) → W.grownBy w1 v.ownBlock → (v1.ownBlock = v.ownBlock ∨ v1.ownBlock = some W.heap.size) → K (a.put o.dst v1) w1) :
    Oper.wp P o a W K Q := by
  obtain ⟨v1, w1, hr, h2, h3, h5⟩ := run_app (P := P) base t o.type e z size bytes ht hinfo hzs hsz HO HR h1 hbase hb0 hl
  unfold Oper.wp execOp
  simp only [ho, resolve, invoke, builtin, Sem.run_bind, Sem.run_pure, Result.andThen_ok, List.map_toArray, List.map_cons, List.map_nil, hs, hx, hr]
  exact h v1 w1 h2 h3 h5
end
theorem holds_eq {B : List Int} (h : 4 ≤ B.length) : decide (B.drop (B.length - 4) = B4 (sumW (B.take (B.length - 4)))) = holdsB B := by
  unfold holdsB
  rw [decide_eq_true h, Bool.true_and]
  exact decide_eq_decide.2 ⟨fun h => h.symm, fun h => h.symm⟩
theorem wrap_m4 (n m : Nat) (h : m = n - 4) (h4 : 4 ≤ n) (hn : n ≤ 268435456) : wrap64 ((n : Int) - 4) = (m : Int) ∧ IntKind.i64.wrap ((n : Int) - 4) = (m : Int) := by
  subst h
  constructor
  · unfold wrap64; omega
  · rw [IntKind.wrap_i64]; omega
theorem Q_End_any (g : Nat) (v : Value) (B : List Int) (a : Nat) (err : Int) (w : World) (h : Qr w g v B a err) :
    Calls Try.prog 57 #[.pointer (some ⟨g, 0, none⟩)] w fun e w' => e = .returned (.int .i64 (rEnd B a err)) ∧ Below w.heap.size w w' := by
  have q0 : w.cell? ⟨g, 0, none⟩ = some v := h.1.cell 0 rfl
  have q1 : w.cell? ⟨g, 1, none⟩ = some (.int .i64 (a : Int)) := h.1.cell 1 rfl
  have q2 : w.cell? ⟨g, 2, none⟩ = some (.int .i64 err) := h.1.cell 2 rfl
  have hlen := h.2.1.2.len (P := Try.prog) 22 5 3 Try.underlying22
  clear h
  by_cases h0 : err = 0
  · subst h0
    by_cases h1 : a < B.length
    · have hE : rEnd B a 0 = 34 := by unfold rEnd; rw [if_pos ⟨rfl, h1⟩]
      rw [hE]
      have h1I : (a : Int) < (B.length : Int) := by omega
      go_enter Try.func57, Try.ntmps57
      go_wp2
      go_quiet (fail)
      go_wp2
      go_ret
      exact ⟨rfl, below_drewN (Below.refl _ _) _⟩
    · have hE : rEnd B a 0 = 0 := by unfold rEnd; rw [if_neg (fun h => h1 h.2)]
      rw [hE]
      have h1I : ¬ (a : Int) < (B.length : Int) := by omega
      go_enter Try.func57, Try.ntmps57
      go_wp2
      go_quiet (fail)
      go_wp2
      go_ret
      exact ⟨rfl, below_drewN (Below.refl _ _) _⟩
  · have hE : rEnd B a err = err := by unfold rEnd; rw [if_neg (fun h => h0 h.1)]
    rw [hE]
    have hB : (err == 0) = false := by rw [beq_eq_false_iff_ne]; exact h0
    go_enter Try.func57, Try.ntmps57
    go_wp2
    go_quiet (fail)
    go_wp2
    go_ret
    exact ⟨rfl, below_drewN (Below.refl _ _) _⟩
set_option maxHeartbeats 8000000 in
theorem rDecode_any (v : Value) (B : List Int) (w : World) (HR : Rd w v B) (hl : B.length ≤ 140737488351241) :
    Calls Try.prog 31 #[v] w (DecRet w (decA B)) := by
  have hlen := HR.2.len (P := Try.prog) 22 5 3 Try.underlying22
  have hb0 := Box.new w #[.int .i64 0, .slice none 0 0] 36
  have hB0 := al1 (Below.refl w.heap.size w) (.cells #[.int .i64 0, .slice none 0 0] 36)
  obtain ⟨W0, hW0⟩ : ∃ W0, W0 = w.alloc (.cells #[.int .i64 0, .slice none 0 0] 36) := ⟨_, rfl⟩
  rw [← hW0] at hb0 hB0
  have hz0 := hd_ hb0.lt
  have hRW := hd_ (HR.keep hB0)
  have hb0 := hd_ hb0
  have hB0 := hd_ hB0
  obtain ⟨R, hR⟩ : ∃ R, R = decA B := ⟨_, rfl⟩
  rw [← hR]
  have hErr := hd_ (fun (E : Int) W (hB : Below W0.heap.size W0 W) (hE : R = (E, 0, [])) w3 (hg3 : W.grownBy w3 (some w.heap.size)) =>
    show DecRet w R (.returned (.tuple #[.agg (stC 0 (.slice none 0 0)), .int .i64 E])) w3 from
      ⟨_, by rw [hE], by rw [hE]; exact World.ownsRow_nil _ _ _ _, below_row (hB0.out.trans (hB.mono hB0.out.size)) hg3 (Nat.le_refl _) (Nat.le_trans hB0.out.size hB.size), by simp [hE]⟩)
  unfold decA at hR
  by_cases hbig : 268435456 < B.length
  · rw [if_pos hbig] at hR
    subst hR
    have hbI : 268435456 < (B.length : Int) := by omega
    clear HR
    go_enter Try.func31, Try.ntmps31
    go_upto_region 1 with fail
    rw [← hW0]
    clear hW0
    go_wp2_with (refine store_box rfl 36 _ _ rfl w.heap.size _ #[.int .i64 0, .slice none 0 0] (stC 0 (.slice none 0 0)) rfl rfl hb0.out infoSt rfl (stC_one _ _ _ _) ?_; intro w3 hb3 hg3)
    refine bodyPost_ret (results_cell2 rfl _ _ _ rfl (run_load_box _ _ _ _ _ hb3 Try.underlying36 rfl infoSt)) rfl ?_
    exact hErr.out 90 W0 (Below.refl _ _) rfl w3 hg3
  rw [if_neg hbig] at hR
  have hbI : ¬ 268435456 < (B.length : Int) := by omega
  by_cases h10 : B.length < 10
  · rw [if_pos (.inl h10)] at hR
    subst hR
    have h10I : (B.length : Int) < 10 := by omega
    clear HR
    go_enter Try.func31, Try.ntmps31
    go_upto_region 1 with fail
    rw [← hW0]
    clear hW0
    go_wp2_with (refine store_box rfl 36 _ _ rfl w.heap.size _ #[.int .i64 0, .slice none 0 0] (stC 0 (.slice none 0 0)) rfl rfl hb0.out infoSt rfl (stC_one _ _ _ _) ?_; intro w3 hb3 hg3)
    refine bodyPost_ret (results_cell2 rfl _ _ _ rfl (run_load_box _ _ _ _ _ hb3 Try.underlying36 rfl infoSt)) rfl ?_
    exact hErr.out 92 W0 (Below.refl _ _) rfl w3 hg3
  have h10I : ¬ (B.length : Int) < 10 := by omega
  obtain ⟨u, hs, hRu⟩ := HR.sl_h (P := Try.prog) Try.underlying22 infoB 4 (by omega)
  have hs : ∀ W : World, Sem.run Try.prog (Instr.slice 22 v none (some (.int .i64 4)) none) W = .ok u W := hs
  have hstr := (hRu.keep hB0.out).str (P := Try.prog) 22 5 9 Try.underlying22 Try.underlying5 Try.underlying9
  have hcmp := str_eq (bytes_take HR.1 4) hwi_bytes
  rw [hwi_str, hwi_list] at hcmp
  by_cases hM : B.take 4 = hwi
  · rw [decide_eq_true hM] at hcmp
    rw [if_neg (show ¬ (B.length < 10 ∨ B.take 4 ≠ hwi) from fun h => h.elim h10 (fun h2 => h2 hM))] at hR
    obtain ⟨n4, hn4⟩ : ∃ n, n = B.length - 4 := ⟨_, rfl⟩
    obtain ⟨hw4, hw5⟩ := wrap_m4 B.length n4 hn4 (by omega) (by omega)
    obtain ⟨u5, hs5, hR5⟩ := HR.sl (P := Try.prog) Try.underlying22 infoB 4 n4 (by omega) (by omega)
    have hs5 : ∀ W : World, Sem.run Try.prog (Instr.slice 22 v (some (.int .i64 4)) (some (.int .i64 (n4 : Int))) none) W = .ok u5 W := hs5
    obtain ⟨u6, hs6, hR6⟩ := HR.sl_l (P := Try.prog) Try.underlying22 infoB n4 (by omega)
    have hs6 : ∀ W : World, Sem.run Try.prog (Instr.slice 22 v (some (.int .i64 (n4 : Int))) none none) W = .ok u6 W := hs6
    obtain ⟨u7, hs7, hR7⟩ := HR.sl_h (P := Try.prog) Try.underlying22 infoB n4 (by omega)
    have hs7 : ∀ W : World, Sem.run Try.prog (Instr.slice 22 v none (some (.int .i64 (n4 : Int))) none) W = .ok u7 W := hs7
    have hho := holds_eq (B := B) (by omega)
    rw [← hn4] at hR hho
    have hCl : ((B.take n4).drop 4).length + 8 ≤ 268435456 := by rw [List.length_drop, List.length_take]; omega
    have hrd := read_doc _ (bytes_drop (bytes_take HR.1 n4) 4) hCl
    rw [← hrd] at hR
    have hSu := hd_ (fun W (h : Below W0.heap.size W0 W) => ref_Sum_any u7 (B.take n4) W ((hR7.keep hB0.out).keep h) (by rw [List.length_take]; omega))
    have hWo := hd_ (fun W => word_any (sumW (B.take n4)) W)
    have hSm := hd_ (fun W q (h : Below W0.heap.size W0 W) (hq : Rd W q (B4 (sumW (B.take n4)))) => Same_any u6 q (B.drop n4) (B4 (sumW (B.take n4))) W ((hR6.keep hB0.out).keep h) hq)
    rw [hho] at hSm
    have hR5 := hd_ hR5
    have hCb := hd_ (bytes_drop (bytes_take HR.1 n4) 4)
    generalize (B.take n4).drop 4 = C at *
    generalize sumW (B.take n4) = sm at *
    clear hRu hR6 hR7 HR hho hrd hn4
    generalize strOfNums (B.take 4) = S at *
    generalize holdsB B = hb at *
    go_enter Try.func31, Try.ntmps31
    go_upto_region 1 with fail
    rw [← hW0]
    clear hW0
    go_upto_region 6 with fail
    have HBd := (Below.refl W0.heap.size W0).drew
    have hC0 : (fun W : World => True) W0.drew := trivial
    refine region_J [] (fun W : World => True) (by kernel_rfl) ?_
    generalize W0.drew = W2 at *
    refine take_J 0 _ _ (v := ?_) rfl (by kernel_rfl) (by kernel_rfl) (by kernel_rfl) (by kernel_rfl) (fun _ _ _ h => h) rfl hC0 ?_ ?_
    rotate_left
    · intro W hC; go_simp; try with_reducible rfl
    simp only [Act.put, List.setIfInBounds_toArray, List.set_cons_zero, List.set_cons_succ]
    refine take_J 1 _ _ (v := ?_) rfl (by kernel_rfl) (by kernel_rfl) (by kernel_rfl) (by kernel_rfl) (fun _ _ _ h => h) rfl hC0 ?_ ?_
    rotate_left
    · intro W hC; go_simp; try with_reducible rfl
    simp only [Act.put, List.setIfInBounds_toArray, List.set_cons_zero, List.set_cons_succ]
    refine take_J 2 _ _ (v := ?_) rfl (by kernel_rfl) (by kernel_rfl) (by kernel_rfl) (by kernel_rfl) (fun _ _ _ h => h) rfl hC0 ?_ ?_
    rotate_left
    · intro W hC; go_simp; try with_reducible rfl
    simp only [Act.put, List.setIfInBounds_toArray, List.set_cons_zero, List.set_cons_succ]
    refine take_J 3 _ _ (v := ?_) rfl (by kernel_rfl) (by kernel_rfl) (by kernel_rfl) (by kernel_rfl) (fun _ _ _ h => h) rfl hC0 ?_ ?_
    rotate_left
    · intro W hC; go_simp; try with_reducible rfl
    simp only [Act.put, List.setIfInBounds_toArray, List.set_cons_zero, List.set_cons_succ]
    refine take_J 4 _ _ (v := ?_) rfl (by kernel_rfl) (by kernel_rfl) (by kernel_rfl) (by kernel_rfl) (fun _ _ _ h => h) rfl hC0 ?_ ?_
    rotate_left
    · intro W hC; go_simp; try with_reducible rfl
    simp only [Act.put, List.setIfInBounds_toArray, List.set_cons_zero, List.set_cons_succ]
    refine take_J 5 _ _ (v := ?_) rfl (by kernel_rfl) (by kernel_rfl) (by kernel_rfl) (by kernel_rfl) (fun _ _ _ h => h) rfl hC0 ?_ ?_
    rotate_left
    · intro W hC; go_simp; try with_reducible rfl
    simp only [Act.put, List.setIfInBounds_toArray, List.set_cons_zero, List.set_cons_succ]
    refine ready_J 6 _ _ rfl (by kernel_rfl) rfl (fun K hK => ?_)
    go_simp
    with_reducible refine (hSu.out _ HBd).mono ?_
    rintro e wq ⟨rfl, rfl⟩
    refine hK _ _ (fun _ => hC0) ?_
    clear hK K
    refine ready_J 7 _ _ rfl (by kernel_rfl) rfl (fun K hK => ?_)
    go_simp
    with_reducible refine (hWo.out _).mono ?_
    rintro e w7 ⟨q7, rfl, HO7, HB7⟩
    have hSc := hSm.out w7 q7 (bel_trans HBd HB7) HO7.rd
    refine hK _ _ (fun _ => trivial) ?_
    clear hK K
    refine ready_J 8 _ _ rfl (by kernel_rfl) rfl (fun K hK => ?_)
    go_simp
    with_reducible refine hSc.mono ?_
    rintro e wq ⟨rfl, rfl⟩
    refine hK _ _ (fun _ => trivial) ?_
    clear hK K
    refine ready_J 9 _ _ rfl (by kernel_rfl) rfl (fun K hK => ?_)
    go_simp
    refine hK _ _ (fun _ => trivial) ?_
    clear hK K
    refine wpAnyJ_done (by kernel_rfl) ?_ _
    have HB9 := bel_trans HBd HB7
    cases hb
    · rw [if_pos rfl] at hR
      subst hR
      have hb0c := hb0.out.keep HB9
      go_wp2_with (refine store_box rfl 36 _ _ rfl w.heap.size _ #[.int .i64 0, .slice none 0 0] (stC 0 (.slice none 0 0)) rfl rfl hb0c infoSt rfl (stC_one _ _ _ _) ?_; intro w3 hb3 hg3)
      refine bodyPost_ret (results_cell2 rfl _ _ _ rfl (run_load_box _ _ _ _ _ hb3 Try.underlying36 rfl infoSt)) rfl ?_
      exact hErr.out 93 _ HB9 rfl w3 hg3
    · rw [if_neg (by simp)] at hR
      obtain ⟨A5, c5, hu5, _⟩ := hR5.out.form
      subst hu5
      have hRw := hR5.out
      have hold := rd_oldI hRw
      obtain ⟨s, a1, e1, h1⟩ : ∃ s a1 e1, rInt C 0 0 1152921504606846976 = (s, a1, e1) := ⟨_, _, _, rfl⟩
      obtain ⟨n0, a2, e2, h2⟩ : ∃ n a2 e2, rInt C a1 e1 1048576 = (n, a2, e2) := ⟨_, _, _, rfl⟩
      have ha1 : a1 ≤ C.length := by have := (rInt_on C hCb.out 0 (Nat.zero_le _) 0 1152921504606846976 (by decide)).2.1; rw [h1] at this; exact this
      have hnn : ∃ n : Nat, n0 = (n : Int) ∧ n ≤ 1048576 := by
        by_cases h0 : e2 = 0
        · obtain ⟨_, N, hN, hN2, _⟩ := int_parts hCb.out ha1 (by decide) (show (rInt C a1 e1 1048576).2.2 = 0 by rw [h2]; exact h0)
          rw [h2] at hN
          exact ⟨N, hN, by omega⟩
        · have : (rInt C a1 e1 1048576).1 = 0 := by
            unfold rInt
            by_cases h9 : e1 = 0
            · rw [if_neg (fun h => h h9)]
              by_cases h8 : (uptoA C a1 1048576).2.2 = 0
              · exfalso
                have : (rInt C a1 e1 1048576).2.2 = 0 := by unfold rInt; rw [if_neg (fun h => h h9), if_neg (fun h => h h8)]; exact h8
                rw [h2] at this
                exact h0 this
              · rw [if_pos h8]
            · rw [if_pos h9]
          rw [h2] at this
          exact ⟨0, this, by decide⟩
      obtain ⟨n, rfl, hn⟩ := hnn
      have hDA : docA C = if e2 ≠ 0 then none else match rdD C n a2 [] with | none => none | some (a, l) => if a < C.length ∨ chkA s l ≠ 0 then none else some (s, l) := by
        unfold docA
        rw [h1]
        simp only
        rw [h2]
        simp only [Int.toNat_natCast]
        rfl
      rw [hDA] at hR
      obtain ⟨X, hX⟩ : ∃ X, X = rdD C n a2 [] := ⟨_, rfl⟩
      rw [← hX] at hR
      have hRe := hd_ (show (e2 ≠ 0 → R = (92, 0, [])) ∧ (e2 = 0 → (X = none → R = (92, 0, [])) ∧ ∀ a l, X = some (a, l) → ((a < C.length ∨ chkA s l ≠ 0) → R = (92, 0, [])) ∧ (¬ (a < C.length ∨ chkA s l ≠ 0) → R = (0, s, l))) from
        ⟨fun h => by rw [hR, if_pos h], fun h => ⟨fun h3 => by rw [hR, if_neg (fun h4 => h4 h), h3], fun a l h3 => ⟨fun h4 => by rw [hR, if_neg (fun h5 => h5 h), h3]; simp only; rw [if_pos h4], fun h4 => by rw [hR, if_neg (fun h5 => h5 h), h3]; simp only; rw [if_neg h4]⟩⟩⟩)
      have hXH := hd_ hX
      have hn0 := hd_ (show e2 ≠ 0 → n = 0 from fun h0 => by
        have : (rInt C a1 e1 1048576).1 = 0 := by
          unfold rInt
          by_cases h9 : e1 = 0
          · rw [if_neg (fun h => h h9)]
            by_cases h8 : (uptoA C a1 1048576).2.2 = 0
            · exfalso
              have : (rInt C a1 e1 1048576).2.2 = 0 := by unfold rInt; rw [if_neg (fun h => h h9), if_neg (fun h => h h8)]; exact h8
              rw [h2] at this
              exact h0 this
            · rw [if_pos h8]
          · rw [if_pos h9]
        rw [h2] at this
        simpa using this)
      have hnH := hd_ hn
      -- the reader and the state's box
      have hbr := (Box.new w7 #[.slice A5 C.length c5, .int .i64 0, .int .i64 0] 88).keep (al1 (Below.refl _ _) (.cells #[.int .i64 0, .slice none 0 0] 36))
      have hbs := Box.new (w7.alloc (.cells #[.slice A5 C.length c5, .int .i64 0, .int .i64 0] 88)) #[.int .i64 0, .slice none 0 0] 36
      have hzs : (w7.alloc (.cells #[.slice A5 C.length c5, .int .i64 0, .int .i64 0] 88)).heap.size = w7.heap.size + 1 := by simp
      rw [hzs] at hbs
      have HB79 := al1 (al1 (Below.refl w7.heap.size w7) (.cells #[.slice A5 C.length c5, .int .i64 0, .int .i64 0] 88)) (.cells #[.int .i64 0, .slice none 0 0] 36)
      have hz79 := HB9.size
      have hzw := hB0.out.size
      have hL0 : Ld W0 ((w7.alloc (.cells #[.slice A5 C.length c5, .int .i64 0, .int .i64 0] 88)).alloc (.cells #[.int .i64 0, .slice none 0 0] 36)) w7.heap.size (w7.heap.size + 1) (.slice A5 C.length c5) C 0 0 0 (.slice none 0 0) [] :=
        ⟨⟨hbr, (hRw.keep hB0.out).keep (bel_trans HB9 HB79), hold.imp id (fun h e => by have := h _ e; omega), Nat.zero_le _⟩, hbs, World.ownsRow_nil _ _ _ _, hz79, by omega, bel_trans HB9 HB79, hRw.keep hB0.out⟩
      have hI := hd_ (fun W g (h : Qr W g (.slice A5 C.length c5) C 0 0) => show Calls Try.prog 41 #[.pointer (some ⟨g, 0, none⟩), .int .i64 1152921504606846976] W (QRet W g (.slice A5 C.length c5) C (.int .i64 s) a1 e1) from by have := Q_Int_any g (.slice A5 C.length c5) C 0 0 1152921504606846976 W h (by decide); rw [h1] at this; exact this)
      have hI2 := hd_ (fun W g (h : Qr W g (.slice A5 C.length c5) C a1 e1) => show Calls Try.prog 41 #[.pointer (some ⟨g, 0, none⟩), .int .i64 1048576] W (QRet W g (.slice A5 C.length c5) C (.int .i64 (n : Int)) a2 e2) from by have := Q_Int_any g (.slice A5 C.length c5) C a1 e1 1048576 W h (by decide); rw [h2] at this; exact this)
      have hIc := hd_ (hI.out _ _ hL0.1)
      have hL0 := hd_ hL0
      clear hR hX hDA hold hRw hbr hbs hzs HB79 hz79 h1 h2 ha1 hn hI hR5 hSu hWo hSm hSc HO7
      clear hs6 hs7 hs hstr
      go_upto_region 10 with fail
      generalize ((w7.alloc (.cells #[.slice A5 C.length c5, .int .i64 0, .int .i64 0] 88)).alloc (.cells #[.int .i64 0, .slice none 0 0] 36)) = Wa at *
      generalize w7.heap.size = gr at *
      generalize gr + 1 = gs at *
      generalize Value.slice A5 C.length c5 = vr at *
      go_upto_region 12 with (first
        | (go_at_call 41; (with_reducible refine hIc.out.mono ?_); rintro e w8 ⟨rfl, P8⟩; have hL8 := hL0.out.post P8; have q0 := hL8.2.1.cell 0 (v := .int .i64 0) rfl; have z0 := hL8.2.1.frozen 0; have hL9 := hd_ (hL8.num (s := s)); have hI3 := hI2.out _ gr hL9.out.1; clear hIc)
        | (go_at_call 41; (with_reducible refine hI3.mono ?_); rintro e w10 ⟨rfl, P10⟩; have hL10 := hd_ (hL9.out.post P10)))
      clear hL0 hL8 hL9 hI3 hI2 P8 P10 q0 z0 HB9 HB7
      go_upto_region 13 with fail
      have hne := hd_ (show ¬ gs = gr from fun e => box_box hL10.out.2.1 hL10.out.1.1 (by decide) e)
      go_loopw [8] (fun vi wr => ∃ (k a : Nat) (err : Int) (u : Value) (l : List RowT), k ≤ n ∧ vi = .int .i64 (k : Int) ∧ Ld W0 wr gr gs vr C a err s u l ∧ l.length = k ∧ (err ≠ 0 → R = (92, 0, [])) ∧ (err = 0 → e2 = 0 ∧ rdD C (n - k) a l = X)) (fun vi _ => n - (intOf vi).toNat)
      case atStart => exact ⟨0, a2, e2, _, [], Nat.zero_le _, rfl, hL10.out, rfl, fun h => hRe.out.1 h, fun h => ⟨h, hXH.out.symm⟩⟩
      case round =>
        clear hL10 hXH
        obtain ⟨k, a, err, u, l, hk, rfl, hX, hlk, hErr0, hT⟩ := hrel
        have c2 : wr.cell? ⟨gr, 2, none⟩ = some (.int .i64 err) := hX.1.1.cell 2 rfl
        have hErr0 := hd_ hErr0
        have hT := hd_ hT
        have hlk := hd_ hlk
        have hX := hd_ hX
        by_cases hlt : k < n
        · have hkI : (k : Int) < (n : Int) := by omega
          have hkx := hd_ hlt
          have he2 := hd_ (show e2 = 0 from Classical.byContradiction fun h => by have := hn0.out h; have := hkx.out; omega)
          by_cases h0 : err = 0
          · subst h0
            have hT := hd_ (hT.out rfl).2
            have hrow := hd_ (fun W (h : Qr W gr vr C a 0) => Q_Row_any gr vr C a 0 W h)
            have hXn := hd_ (show (rRow C a 0).2.2 ≠ 0 → X = none from fun h => by
              have hT := hT.out
              have hnk : n - k = (n - (k + 1)) + 1 := by have := hkx.out; omega
              rw [hnk] at hT
              unfold rdD at hT
              rw [if_pos h] at hT
              exact hT.symm)
            have hXy := hd_ (show (rRow C a 0).2.2 = 0 → rdD C (n - (k + 1)) (rRow C a 0).2.1 (l ++ [rowOf C a]) = X from fun h => by
              have hT := hT.out
              have hnk : n - k = (n - (k + 1)) + 1 := by have := hkx.out; omega
              rw [hnk] at hT
              unfold rdD at hT
              rw [if_neg (fun h2 => h2 h)] at hT
              exact hT)
            have hI1 : (Value.int IntKind.i64 (wrap64 ((k : Int) + 1))) = .int .i64 ((k : Int) + 1) := congrArg _ (wrap_k1 k (by have := hnH.out; have := hkx.out; omega))
            have hl40 := hd_ (show (l.length + 1) * 40 ≤ 140737488355328 by have := hnH.out; have := hkx.out; have := hlk.out; omega)
            obtain ⟨ro, hro⟩ : ∃ ro, ro = rowOf C a := ⟨_, rfl⟩
            rw [← hro] at hXy
            have hrow : Hid (∀ W, Qr W gr vr C a 0 → Calls Try.prog 56 #[.pointer (some ⟨gr, 0, none⟩)] W (QRet W gr vr C (.agg (rowC ro.1 ro.2.1 ro.2.2)) (rRow C a 0).2.1 (rRow C a 0).2.2)) := by rw [hro]; exact hrow
            generalize (rRow C a 0).2.1 = a3 at *
            generalize (rRow C a 0).2.2 = e3 at *
            clear hro hlt
            obtain ⟨ky, vu, m⟩ := ro
            simp only at hrow hXy
            have hrz : (rowC ky vu m).size = 3 := rfl
            go_upto_region 15 with fail
            have hXd := hd_ (hX.out.keep (Below.refl wr.heap.size wr).drew)
            have hC0 : (fun W : World => W.cell? ⟨gs, 1, none⟩ = some u) wr.drew := hXd.out.2.1.cell 1 rfl
            refine region_J [7] (fun W : World => W.cell? ⟨gs, 1, none⟩ = some u) (by kernel_rfl) ?_
            generalize wr.drew = W2 at *
            clear c2 hX
            have hX1 := hXd.out.1
            have hrow1 := hrow.out _ hX1
            refine take_J 0 _ _ (v := ?_) rfl (by kernel_rfl) (by kernel_rfl) (by kernel_rfl) (by kernel_rfl) (fun _ _ _ h => h) rfl hC0 ?_ ?_
            rotate_left
            · intro W hC; go_simp; try with_reducible rfl
            simp only [Act.put, List.setIfInBounds_toArray, List.set_cons_zero, List.set_cons_succ]
            refine take_J 1 _ _ (v := ?_) rfl (by kernel_rfl) (by kernel_rfl) (by kernel_rfl) (by kernel_rfl) (fun _ _ _ h => h) rfl hC0 ?_ ?_
            rotate_left
            · intro W hC; have hc8 := hC; go_simp; try with_reducible rfl
            simp only [Act.put, List.setIfInBounds_toArray, List.set_cons_zero, List.set_cons_succ]
            refine take_J 2 _ _ (v := ?_) rfl (by kernel_rfl) (by kernel_rfl) (by kernel_rfl) (by kernel_rfl) (fun _ _ _ h => h) rfl hC0 ?_ ?_
            rotate_left
            · intro W hC; go_simp; try with_reducible rfl
            simp only [Act.put, List.setIfInBounds_toArray, List.set_cons_zero, List.set_cons_succ]
            refine ready_J 3 _ _ rfl (by kernel_rfl) rfl (fun K hK => ?_)
            go_simp
            with_reducible refine hrow1.mono ?_
            rintro e w6 ⟨rfl, P6⟩
            have hL6 := hd_ (hXd.out.post P6)
            have hC1 : (fun W : World => W.cell? ⟨gs, 1, none⟩ = some u) w6 := hL6.out.2.1.cell 1 rfl
            refine hK _ _ (fun _ => hC1) ?_
            clear hK K
            refine ready_J 4 _ _ rfl (by kernel_rfl) rfl (fun K hK => ?_)
            go_simp
            have hBq := al1 (Below.refl w6.heap.size w6) (.cells (rowC ky vu m) 61)
            have hL7 := hd_ (hL6.out.keep hBq)
            have hbx := hd_ (box_row w6 (ky, vu, m))
            have hC2 : (fun W : World => W.cell? ⟨gs, 1, none⟩ = some u) (w6.alloc (.cells (rowC ky vu m) 61)) := hL7.out.2.1.cell 1 rfl
            refine hK _ _ (fun _ => hC2) ?_
            clear hK K
            try simp only [Act.put, List.setIfInBounds_toArray, List.set_cons_zero, List.set_cons_succ]
            refine ready_J 5 _ _ rfl (by kernel_rfl) rfl (fun K hK => ?_)
            refine wp_app_R W0.heap.size _ _ 34 61 (.agg #[.string ⟨#[]⟩, .string ⟨#[]⟩, .int .i64 0]) 3 40 rfl Try.underlying34 infoRowZ rfl (by omega) u _ l.length 1 (rowsV l) (rowV (ky, vu, m)) rfl rfl hL7.out.2.2.1 hbx.out (rowV_one _) hL7.out.2.2.2.2.2.1.size (by omega) hl40.out ?_
            intro u9 w9 HO9 hg9 hat9
            have k0 := hL7.out.app HO9 hg9
            have hg2 := hL7.out.2.2.2.1
            have hg3 := hL7.out.2.2.2.2.1
            have hRR := hL7.out.2.2.2.2.2.2
            obtain ⟨Au9, cu9, hu9, _⟩ := (rdr_of (l := l ++ [(ky, vu, m)]) k0.2.2.1 rfl).form
            subst hu9
            have hC3 : (fun W : World => W.cell? ⟨gs, 1, none⟩ = some u) w9 := k0.2.1.cell 1 rfl
            refine hK _ _ (fun _ => hC3) ?_
            clear hK K
            try simp only [Act.put, List.setIfInBounds_toArray, List.set_cons_zero, List.set_cons_succ]
            refine ready_J 6 _ _ rfl (by kernel_rfl) rfl (fun K hK => ?_)
            go_simp
            refine hK _ _ (fun _ => hC3) ?_
            clear hK K
            refine ready_J 7 _ _ rfl (by kernel_rfl) rfl (fun K hK => ?_)
            have d1 := k0.2.1.cell 1 (v := u) rfl
            have z1 := k0.2.1.frozen 1
            go_simp
            refine hK _ _ (fun h => by cases h) ?_
            clear hK K
            have hL9 := hd_ (Ld.store k0.1 k0.2.1 k0.2.2.1 hg2 hg3 k0.2.2.2 hRR)
            refine wpAnyJ_done (by kernel_rfl) ?_ _
            clear d1 z1 k0 hC3 hC2 hC1 hC0
            rw [show (l ++ [(ky, vu, m)]).length = k + 1 from by rw [List.length_append, hlk.out]; rfl] at hL9
            go_wp2
            go_roundw
            case rel => exact ⟨k + 1, a3, e3, _, l ++ [(ky, vu, m)], hkx.out, by first | rfl | (rw [hI1]; rfl), hL9.out, by rw [List.length_append, hlk.out]; rfl, fun h => (hRe.out.2 he2.out).1 (hXn.out h), fun h => ⟨he2.out, hXy.out h⟩⟩
            case measure => first | (rw [hI1]; exact meas_k1i _ _ hkx.out) | exact meas_k1i _ _ hkx.out
          · have hR0 := hErr0.out h0
            have hEB : (err == 0) = false := by rw [beq_eq_false_iff_ne]; exact h0
            have hE9 : rEnd C a err = err := by unfold rEnd; rw [if_neg (fun h => h0 h.1)]
            clear hT hRe hn0 hErr0
            obtain ⟨E, hEe⟩ : ∃ E, E = err := ⟨_, rfl⟩
            have hEnd := Q_End_any gr vr C a err wr hX.out.1
            rw [hE9, ← hEe] at hEnd
            have hEB2 : (E == 0) = false := by rw [hEe]; exact hEB
            have hE0 : ¬ E = 0 := by rw [hEe]; exact h0
            clear hE9 hEe
            obtain rfl := hR0
            have hEnd := hd_ hEnd
            have hbR := hd_ (hb0.out.keep hX.out.2.2.2.2.2.1)
            go_wp2_with (first
              | (go_at_call 57; (with_reducible refine hEnd.out.mono ?_); rintro e w6 ⟨rfl, HB6⟩; have hbR6 := hd_ (hbR.out.keep HB6))
              | (refine store_box rfl 36 _ _ rfl w.heap.size _ _ (stC 0 (.slice none 0 0)) rfl rfl hbR6.out infoSt rfl (stC_one _ _ _ _) ?_; intro w8 hb8 hg8))
            refine bodyPost_ret (results_cell2 rfl _ _ _ rfl (run_load_box _ _ _ _ _ hb8 Try.underlying36 rfl infoSt)) rfl ?_
            exact hErr.out 92 _ (bel_trans hX.out.2.2.2.2.2.1 HB6) rfl w8 hg8
        · have hkn : n = k := by omega
          have hEnd := Q_End_any gr vr C a err wr hX.out.1
          obtain ⟨E, hEe⟩ : ∃ E, E = rEnd C a err := ⟨_, rfl⟩
          rw [← hEe] at hEnd
          have hXs : err = 0 → e2 = 0 ∧ X = some (a, l) := fun h => by
            obtain ⟨t1, t2⟩ := hT.out h
            rw [← hkn, Nat.sub_self] at t2
            exact ⟨t1, t2.symm⟩
          by_cases hE0 : E = 0
          · have h00 : err = 0 ∧ ¬ a < C.length := by
              rw [hEe] at hE0
              unfold rEnd at hE0
              by_cases h1 : err = 0 ∧ a < C.length
              · rw [if_pos h1] at hE0; cases hE0
              · rw [if_neg h1] at hE0
                exact ⟨hE0, fun h2 => h1 ⟨hE0, h2⟩⟩
            obtain ⟨t1, t2⟩ := hXs h00.1
            obtain ⟨r1, r2⟩ := (hRe.out.2 t1).2 a l t2
            obtain ⟨Au, cu, hue, _⟩ := (rdr_of (l := l) hX.out.2.2.1 rfl).form
            rw [hlk.out] at hue
            subst hue
            have hCk := hd_ (fun W (h : RdR W (.slice Au k cu) l) => rCheck_any s (.slice Au k cu) l W h)
            have hEnd := hd_ hEnd
            by_cases hc : chkA s l = 0
            · have hR0 := r2 (fun h => h.elim (fun h => h00.2 h) (fun h => h hc))
              rw [hc] at hCk
              obtain rfl := hR0
              clear hXs hT hRe hn0 hErr0 h00 t1 t2 r1 r2 hc hEe hkn
              subst hE0
              go_wp2_with (first
                | (go_at_call 57; (with_reducible refine hEnd.out.mono ?_); rintro e w6 ⟨rfl, HB6⟩; have hL6 := hd_ (hX.out.keep HB6); have hb6 := hd_ hL6.out.2.1; have hCk6 := hd_ (hCk.out w6 (rdr_of hL6.out.2.2.1 rfl)))
                | (refine load_boxI ?hw 36 _ rfl gs 36 (stC s (.slice Au k cu)) _ rfl hb6.out Try.underlying36 rfl infoSt ?_; (case hw => first | rfl | simp [Region.wanted, yielded]))
                | (go_at_call 33; (with_reducible refine hCk6.out.mono ?_); rintro e w7 ⟨rfl, HB7⟩; have hL7 := hd_ (hL6.out.keep HB7); have hb6 := hd_ hL7.out.2.1; have hbR7 := hd_ (hb0.out.keep hL7.out.2.2.2.2.2.1))
                | (refine store_box rfl 36 _ _ rfl w.heap.size _ _ (stC s (.slice Au k cu)) rfl rfl hbR7.out infoSt rfl (stC_one _ _ _ _) ?_; intro w8 hb8 hg8))
              refine bodyPost_ret (results_cell2 rfl _ _ _ rfl (run_load_box _ _ _ _ _ hb8 Try.underlying36 rfl infoSt)) rfl ?_
              refine ⟨.slice Au k cu, rfl, ?_, below_row (hB0.out.trans (hL7.out.2.2.2.2.2.1.mono hB0.out.size)) hg8 (Nat.le_refl _) (Nat.le_trans hB0.out.size hL7.out.2.2.2.2.2.1.size), show l.length ≤ 1048576 from by have := hnH.out; have := hlk.out; omega⟩
              refine row_base (row_chg hL7.out.2.2.1 (Chg.of hg8) (fun k hk e => ?_)) hB0.out.size
              injection e with e
              subst e
              have := (hL7.out.2.2.1.lt _ hk).1
              have := hz0.out
              omega
            · have hR0 := r1 (.inr hc)
              have hEB3 : (chkA s l == 0) = false := by rw [beq_eq_false_iff_ne]; exact hc
              generalize chkA s l = cc at *
              obtain rfl := hR0
              clear hXs hT hRe hn0 hErr0 h00 t1 t2 r1 r2 hc hEe hkn
              subst hE0
              go_wp2_with (first
                | (go_at_call 57; (with_reducible refine hEnd.out.mono ?_); rintro e w6 ⟨rfl, HB6⟩; have hL6 := hd_ (hX.out.keep HB6); have hb6 := hd_ hL6.out.2.1; have hCk6 := hd_ (hCk.out w6 (rdr_of hL6.out.2.2.1 rfl)))
                | (refine load_boxI ?hw 36 _ rfl gs 36 (stC s (.slice Au k cu)) _ rfl hb6.out Try.underlying36 rfl infoSt ?_; (case hw => first | rfl | simp [Region.wanted, yielded]))
                | (go_at_call 33; (with_reducible refine hCk6.out.mono ?_); rintro e w7 ⟨rfl, HB7⟩; have hL7 := hd_ (hL6.out.keep HB7); have hb6 := hd_ hL7.out.2.1; have hbR7 := hd_ (hb0.out.keep hL7.out.2.2.2.2.2.1))
                | (refine store_box rfl 36 _ _ rfl w.heap.size _ _ (stC 0 (.slice none 0 0)) rfl rfl hbR7.out infoSt rfl (stC_one _ _ _ _) ?_; intro w8 hb8 hg8))
              refine bodyPost_ret (results_cell2 rfl _ _ _ rfl (run_load_box _ _ _ _ _ hb8 Try.underlying36 rfl infoSt)) rfl ?_
              exact hErr.out 92 _ hL7.out.2.2.2.2.2.1 rfl w8 hg8
          · have hR0 : R = (92, 0, []) := by
              by_cases h1 : err = 0
              · obtain ⟨t1, t2⟩ := hXs h1
                refine ((hRe.out.2 t1).2 a l t2).1 (.inl ?_)
                rw [hEe] at hE0
                unfold rEnd at hE0
                by_cases h2 : err = 0 ∧ a < C.length
                · exact h2.2
                · rw [if_neg h2] at hE0; exact absurd h1 hE0
              · exact hErr0.out h1
            have hEB2 : (E == 0) = false := by rw [beq_eq_false_iff_ne]; exact hE0
            clear hEe hT hRe hn0 hErr0 hXs
            obtain rfl := hR0
            have hEnd := hd_ hEnd
            have hbR := hd_ (hb0.out.keep hX.out.2.2.2.2.2.1)
            go_wp2_with (first
              | (go_at_call 57; (with_reducible refine hEnd.out.mono ?_); rintro e w6 ⟨rfl, HB6⟩; have hbR6 := hd_ (hbR.out.keep HB6))
              | (refine store_box rfl 36 _ _ rfl w.heap.size _ _ (stC 0 (.slice none 0 0)) rfl rfl hbR6.out infoSt rfl (stC_one _ _ _ _) ?_; intro w8 hb8 hg8))
            refine bodyPost_ret (results_cell2 rfl _ _ _ rfl (run_load_box _ _ _ _ _ hb8 Try.underlying36 rfl infoSt)) rfl ?_
            exact hErr.out 92 _ (bel_trans hX.out.2.2.2.2.2.1 HB6) rfl w8 hg8
  · rw [decide_eq_false hM] at hcmp
    rw [if_pos (show B.length < 10 ∨ B.take 4 ≠ hwi from .inr hM)] at hR
    subst hR
    clear HR hRu
    generalize strOfNums (B.take 4) = S at *
    go_enter Try.func31, Try.ntmps31
    go_upto_region 1 with fail
    rw [← hW0]
    clear hW0
    go_wp2_with (refine store_box rfl 36 _ _ rfl w.heap.size _ #[.int .i64 0, .slice none 0 0] (stC 0 (.slice none 0 0)) rfl rfl hb0.out infoSt rfl (stC_one _ _ _ _) ?_; intro w3 hb3 hg3)
    refine bodyPost_ret (results_cell2 rfl _ _ _ rfl (run_load_box _ _ _ _ _ hb3 Try.underlying36 rfl infoSt)) rfl ?_
    exact hErr.out 92 W0 (Below.refl _ _) rfl w3 hg3
theorem own_store {W : World} {base n : Nat} {v : Value} {xs : List Value} (h : W.ownsRow base 61 3 v n xs) (k : Nat) (hk : k < n) :
    ∃ g, v.ownBlock = some g ∧ (∀ W, Sem.run Try.prog (Instr.indexAt 34 v (.int .i64 (k : Int))) W = .ok (.pointer (some ⟨g, k * 3, none⟩)) W) ∧ (∃ x, W.cell? ⟨g, k * 3, none⟩ = some x) ∧ W.frozen? ⟨g, k * 3, none⟩ = false ∧
      ∀ u, (∃ ys, (W.setCell ⟨g, k * 3, none⟩ u).ownsRow base 61 3 v n ys) ∧ W.grownBy (W.setCell ⟨g, k * 3, none⟩ u) (some g) := by
  have hl := h.1
  rcases h.2 with ⟨_, hn⟩ | ⟨g, cap, cur, rfl, _⟩
  · omega
  have hel : Try.prog.elem 34 = 61 := by simp [Program.elem, Try.underlying34]
  refine ⟨g, rfl, fun W => ?_, ⟨xs[k * 3]'(by omega), ?_⟩, h.frozenAt _, fun u => ⟨⟨_, (h.stored (k * 3) u).1⟩, (h.stored _ u).2⟩⟩
  · rw [run_indexAt_slice (P := Try.prog) W _ _ _ _ .i64 _ (by rw [hel]; exact Try.underlying34), hel, if_pos (by omega), run_size infoRowZ]
    simp [Result.andThen, Addr.add_lit]
  · have := h.cells (g := g) rfl (k * 3) (xs[k * 3]'(by omega)) (List.getElem?_eq_getElem _)
    rw [← this]
    unfold Addr.add
    split <;> simp_all
set_option maxHeartbeats 4000000 in
theorem same_any (s : Int) (v u : Value) (l : List RowT) (w : World) (HR : RdR w v l) (HS : RdR w u l) (hl : l.length ≤ 9000000000000) :
    Calls Try.prog 32 #[.agg (stC s v), .agg (stC s u)] w fun e w' => e = .returned (.bool true) ∧ Below w.heap.size w w' := by
  obtain ⟨A0, c0, hv0, _⟩ := HR.form
  subst hv0
  obtain ⟨A1, c1, hv1, _⟩ := HS.form
  subst hv1
  have hB0 := al1 (Below.refl w.heap.size w) (.cells (stC s (.slice A0 l.length c0)) 36)
  have hb0 := Box.new w (stC s (.slice A0 l.length c0)) 36
  obtain ⟨W0, hW0⟩ : ∃ W0, W0 = w.alloc (.cells (stC s (.slice A0 l.length c0)) 36) := ⟨_, rfl⟩
  rw [← hW0] at hB0 hb0
  have hB1 := al1 (Below.refl W0.heap.size W0) (.cells (stC s (.slice A1 l.length c1)) 36)
  have hb1 := Box.new W0 (stC s (.slice A1 l.length c1)) 36
  obtain ⟨W1, hW1⟩ : ∃ W1, W1 = W0.alloc (.cells (stC s (.slice A1 l.length c1)) 36) := ⟨_, rfl⟩
  rw [← hW1] at hB1 hb1
  have hz : W0.heap.size = w.heap.size + 1 := by rw [hW0]; simp
  rw [hz] at hb1
  have hb0 := hb0.keep hB1
  clear hz
  have HB := hd_ (bel_trans hB0 hB1)
  have hS := hd_ (Same07_any _ _ l W1 (HR.keep HB.out) (HS.keep HB.out) hl)
  have q0 := hb0.cell 0 (v := .int .i64 s) rfl
  have q1 := hb0.cell 1 (v := .slice A0 l.length c0) rfl
  have p0 := hb1.cell 0 (v := .int .i64 s) rfl
  have p1 := hb1.cell 1 (v := .slice A1 l.length c1) rfl
  clear HR HS hB0 hB1 hb0 hb1
  unfold stC at hW0 hW1
  go_enter Try.func32, Try.ntmps32
  go_upto_region 1 with fail
  try unfold stC
  rw [← hW0, ← hW1]
  clear hW0 hW1
  go_wp2_with (go_at_call 38; (with_reducible refine hS.out.mono ?_); rintro e w2 ⟨rfl, HB2⟩)
  go_ret
  exact ⟨rfl, bel_trans HB.out HB2⟩
/-- the three states that the law holds -/
def Dk (w W : World) (s : Int) (l : List RowT) (u1 u2 u3 : Value) (g5 g7 g9 : Nat) : Prop :=
  (∃ ys, W.ownsRow w.heap.size 61 3 u1 l.length ys) ∧ Box W g5 36 (stC s u1) ∧ W.ownsRow 0 61 3 u2 l.length (rowsV l) ∧ Box W g7 36 (stC s u2) ∧ W.ownsRow 0 61 3 u3 l.length (rowsV l) ∧ Box W g9 36 (stC s u3) ∧ Below w.heap.size w W
/-- what lies apart from the first list -/
def Ap (u1 u2 u3 : Value) (g5 g7 g9 : Nat) : Prop := ∀ g, u1.ownBlock = some g → u2.ownBlock ≠ some g ∧ u3.ownBlock ≠ some g ∧ g5 ≠ g ∧ g7 ≠ g ∧ g9 ≠ g
theorem Dk.keep {w W W1 : World} {s : Int} {l : List RowT} {u1 u2 u3 : Value} {g5 g7 g9 : Nat} (t : Dk w W s l u1 u2 u3 g5 g7 g9) (h : Below W.heap.size W W1) : Dk w W1 s l u1 u2 u3 g5 g7 g9 := by
  obtain ⟨⟨ys, t1⟩, t2, t3, t4, t5, t6, t7⟩ := t
  exact ⟨⟨ys, row_keep t1 h⟩, t2.keep h, row_keep t3 h, t4.keep h, row_keep t5 h, t6.keep h, bel_trans t7 h⟩
theorem Dk.grown {w W W1 : World} {s : Int} {l : List RowT} {u1 u2 u3 : Value} {g5 g7 g9 : Nat} {row : Option Nat} (t : Dk w W s l u1 u2 u3 g5 g7 g9) (hA : Ap u1 u2 u3 g5 g7 g9) (hr : row = u1.ownBlock) (hg : W.grownBy W1 row) :
    Box W1 g5 36 (stC s u1) ∧ W1.ownsRow 0 61 3 u2 l.length (rowsV l) ∧ Box W1 g7 36 (stC s u2) ∧ W1.ownsRow 0 61 3 u3 l.length (rowsV l) ∧ Box W1 g9 36 (stC s u3) ∧ Below w.heap.size w W1 := by
  obtain ⟨⟨ys, t1⟩, t2, t3, t4, t5, t6, t7⟩ := t
  subst hr
  refine ⟨t2.grown hg (fun e => (hA _ e.symm).2.2.1 rfl), row_chg t3 (Chg.of hg) (fun k hk e => (hA k e.symm).1 hk), t4.grown hg (fun e => (hA _ e.symm).2.2.2.1 rfl), row_chg t5 (Chg.of hg) (fun k hk e => (hA k e.symm).2.1 hk), t6.grown hg (fun e => (hA _ e.symm).2.2.2.2 rfl), below_grown t7 t1 hg t7.size⟩
theorem lit_more (W : World) : RdC 3 (W.alloc (.cells #[.string ⟨#[109, 111, 114, 101]⟩, .string ⟨#[]⟩, .int .i64 0, .string ⟨#[97, 110, 100, 32, 109, 111, 114, 101]⟩, .string ⟨#[]⟩, .int .i64 0] 61)) (.slice (some ⟨W.heap.size, 0, none⟩) 2 2) 2 (rowsV [(⟨#[109, 111, 114, 101]⟩, ⟨#[]⟩, 0), (⟨#[97, 110, 100, 32, 109, 111, 114, 101]⟩, ⟨#[]⟩, 0)]) :=
  ⟨rfl, _, _, rfl, Nat.le_refl _, by decide, (fun h => by cases h), fun j hj => ⟨_, 0, rfl, by rw [Nat.zero_add, World.cell?_alloc_new]; show _ = ([.string ⟨#[109, 111, 114, 101]⟩, .string ⟨#[]⟩, .int .i64 0, .string ⟨#[97, 110, 100, 32, 109, 111, 114, 101]⟩, .string ⟨#[]⟩, .int .i64 0] : List Value)[j]?; simp⟩⟩
set_option maxHeartbeats 8000000 in
theorem law_ImageDecodes (w : World) (v : Value) (B : List Int) (HR : Rd w v B) (hl : B.length ≤ 140737488351232) :
    Calls Try.prog 7 #[v] w fun e w' => e = .returned (.bool true) ∧ Below w.heap.size w w' := by
  have hIn := hd_ (And.intro HR hl)
  have hP : Hid (∀ W u, Rd W u B → Calls Try.prog 30 #[u] W (DecRet W (decA B))) := hd_ (fun W u h => Decode_any u B W h (by omega))
  have hX : Hid (∀ W u, Rd W u B → Calls Try.prog 31 #[u] W (DecRet W (decA B))) := hd_ (fun W u h => rDecode_any u B W h (by omega))
  generalize decA B = R at *
  obtain ⟨E, s, l⟩ := R
  have hP : Hid (∀ W u, Rd W u B → Calls Try.prog 30 #[u] W (fun e w' => ∃ q, e = .returned (.tuple #[.agg (stC s q), .int .i64 E]) ∧ w'.ownsRow W.heap.size 61 3 q l.length (rowsV l) ∧ Below W.heap.size W w' ∧ l.length ≤ 1048576)) := hP
  have hX : Hid (∀ W u, Rd W u B → Calls Try.prog 31 #[u] W (fun e w' => ∃ q, e = .returned (.tuple #[.agg (stC s q), .int .i64 E]) ∧ w'.ownsRow W.heap.size 61 3 q l.length (rowsV l) ∧ Below W.heap.size W w' ∧ l.length ≤ 1048576)) := hX
  clear HR hl
  go_enter Try.func7, Try.ntmps7
  go_upto_region 3 with (first
    | (go_at_call 13; (with_reducible refine (Lend_any v B _ hIn.out.1 hIn.out.2).mono ?_); rintro e w1 ⟨g1, c1, q1, rfl, HOw, HRq, hqb, HB1⟩; have hPc := hP.out w1 q1 HRq)
    | (go_at_call 30; (with_reducible refine hPc.mono ?_); rintro e w2 ⟨u1, rfl, HO1, HB2, hll⟩; obtain ⟨Au, cu, hu, _⟩ := (rdr_of (l := l) HO1 rfl).form; subst hu)
    | (refine store_box rfl 36 _ _ rfl _ _ _ (stC s (.slice Au l.length cu)) rfl rfl (Box.new _ _ _) infoSt rfl (stC_one _ _ _ _) ?_; intro w3 hb5 hg3))
  have HB3 := below_row (al1 (Below.refl w2.heap.size w2) _) hg3 (Nat.le_refl _) (size_al _ _)
  have hO1 := hd_ (row_keep HO1 HB3)
  have hlt1 := hd_ (fun k h => HO1.lt k h)
  have hlen1 := (rdr_of (l := l) HO1 rfl).len
  have hsz2 := hd_ (And.intro HB1.size (And.intro HB2.size hb5.lt))
  have hb5 := hd_ hb5
  have hll := hd_ hll
  have HB13 := hd_ (bel_trans HB2 HB3)
  have HB03 := hd_ (bel_trans HB1 HB13.out)
  have hOw := hd_ HOw
  have hRq := hd_ HRq
  try simp only [Act.put]
  clear HB1 HB2 HB3 HO1 hg3 hPc HOw HRq
  generalize Value.slice Au l.length cu = u1 at *
  generalize Value.slice (some ⟨g1, 0, none⟩) (B.length + 9) c1 = wh at *
  generalize w2.heap.size = g5 at *
  have hXc := hd_ (hX.out w3 v (hIn.out.1.keep HB03.out))
  go_upto_region 4 with (first
    | (go_at_call 31; (with_reducible refine hXc.out.mono ?_); rintro e w4 ⟨u2, rfl, HO2, HB4, _⟩; obtain ⟨Au, cu, hu, _⟩ := (rdr_of (l := l) HO2 rfl).form; subst hu)
    | (refine store_box rfl 36 _ _ rfl _ _ _ (stC s (.slice Au l.length cu)) rfl rfl (Box.new _ _ _) infoSt rfl (stC_one _ _ _ _) ?_; intro w5 hb7 hg5))
  have HB5 := below_row (al1 (Below.refl w4.heap.size w4) _) hg5 (Nat.le_refl _) (size_al _ _)
  have hO2 := hd_ (row_keep HO2 HB5)
  have hlt2 := hd_ (fun k h => HO2.lt k h)
  have hsz4 := hd_ (And.intro HB4.size hb7.lt)
  have hb7 := hd_ hb7
  have HB35 := hd_ (bel_trans HB4 HB5)
  have hO1 := hd_ (row_keep hO1.out HB35.out)
  have hb5 := hd_ (hb5.out.keep HB35.out)
  have HB15 := hd_ (bel_trans HB13.out HB35.out)
  have HB05 := hd_ (bel_trans HB03.out HB35.out)
  try simp only [Act.put]
  clear HB4 HB5 HO2 hg5 hXc HB35 hX HB13 HB03
  generalize Value.slice Au l.length cu = u2 at *
  generalize w4.heap.size = g7 at *
  have hl9 : l.length ≤ 9000000000000 := by have := hll.out; omega
  have hSm := hd_ (same_any s u1 u2 l w5 (rdr_of hO1.out rfl) (rdr_of hO2.out rfl) hl9)
  have hK := hd_ (fun W (h : Below w5.heap.size w5 W) => Kept_true wh v B W ((hOw.out.keep (bel_trans HB15.out h)).rd) (hIn.out.1.keep (bel_trans HB05.out h)) hIn.out.2)
  clear hl9
  go_upto_region 6 with (first
    | (refine load_boxI ?hw 36 _ rfl g5 36 (stC s u1) _ rfl hb5.out Try.underlying36 rfl infoSt ?_; (case hw => first | rfl | simp [Region.wanted, yielded]))
    | (refine load_boxI ?hw 36 _ rfl g7 36 (stC s u2) _ rfl hb7.out Try.underlying36 rfl infoSt ?_; (case hw => first | rfl | simp [Region.wanted, yielded]))
    | (go_at_call 32; (with_reducible refine hSm.out.mono ?_); rintro e w6 ⟨rfl, HB6⟩; have hKc := hK.out w6 HB6)
    | (go_at_call 18; (with_reducible refine hKc.mono ?_); rintro e w7 ⟨rfl, HB7⟩))
  have HB57 := hd_ (bel_trans HB6 HB7)
  have hPc := hd_ (hP.out w7 q1 (hRq.out.keep (bel_trans HB15.out HB57.out)))
  clear HB6 HB7 hKc hK hSm hP
  go_upto_region 7 with (first
    | (go_at_call 30; (with_reducible refine hPc.out.mono ?_); rintro e w8 ⟨u3, rfl, HO3, HB8, _⟩; obtain ⟨Au, cu, hu, _⟩ := (rdr_of (l := l) HO3 rfl).form; subst hu)
    | (refine store_box rfl 36 _ _ rfl _ _ _ (stC s (.slice Au l.length cu)) rfl rfl (Box.new _ _ _) infoSt rfl (stC_one _ _ _ _) ?_; intro w9 hb9 hg9))
  have HB9 := below_row (al1 (Below.refl w8.heap.size w8) _) hg9 (Nat.le_refl _) (size_al _ _)
  have HB79 := bel_trans HB8 HB9
  have HB59 := bel_trans HB57.out HB79
  have hO3 := row_keep HO3 HB9
  have hlt3 := fun k h => HO3.lt k h
  have z2 := hsz2.out
  have z4 := hsz4.out
  have z5 := HB57.out.size
  have z8 := HB8.size
  generalize Value.slice Au l.length cu = u3 at *
  have hAp := hd_ (show Ap u1 u2 u3 g5 g7 w8.heap.size from fun g h => by
    have k1 := hlt1.out g h
    refine ⟨fun e => ?_, fun e => ?_, fun e => ?_, fun e => ?_, fun e => ?_⟩
    · have := hlt2.out g e; omega
    · have := hlt3 g e; omega
    · omega
    · omega
    · omega)
  have hD0 := hd_ (show Dk w w9 s l u1 u2 u3 g5 g7 w8.heap.size from ⟨⟨_, row_base (row_keep hO1.out HB59) z2.1⟩, hb5.out.keep HB59, row_base (row_keep hO2.out HB59) (Nat.zero_le _), hb7.out.keep HB59, row_base hO3 (Nat.zero_le _), hb9, bel_trans HB05.out HB59⟩)
  have hne := hd_ (show g5 ≠ g7 ∧ g5 ≠ w8.heap.size ∧ w.heap.size ≤ g5 from ⟨by omega, by omega, by omega⟩)
  have q1 := hD0.out.2.1.cell 1 (v := u1) rfl
  try simp only [Act.put]
  generalize w8.heap.size = g9 at *
  clear HB79 HB59 hO3 hlt3 z2 z4 z5 z8 HB8 HB9 HO3 hg9 hb9 hlt1 hlt2 hO1 hO2 hb5 hb7 hsz2 hsz4 hPc HB57 HB05 HB15 hOw hRq hqb
  go_upto_region 8 with fail
  clear q1
  have hl40 := hd_ (show (l.length + 2) * 40 ≤ 140737488355328 by have := hll.out; omega)
  go_loopw [50] (fun vi wr => ∃ k, k ≤ l.length ∧ vi = .int .i64 (k : Int) ∧ Dk w wr s l u1 u2 u3 g5 g7 g9) (fun vi _ => l.length - (intOf vi).toNat)
  case atStart => exact ⟨0, Nat.zero_le _, rfl, hD0.out⟩
  case round =>
    clear hD0
    obtain ⟨k, hk, rfl, hD⟩ := hrel
    have hDh := hd_ hD
    have q1 := hD.2.1.cell 1 (v := u1) rfl
    have z1 := hD.2.1.frozen 1
    clear hD
    by_cases hlt : k < l.length
    · have hkI : (k : Int) < (l.length : Int) := by omega
      have hkx := hd_ hlt
      have hI1 : (Value.int IntKind.i64 (wrap64 ((k : Int) + 1))) = .int .i64 ((k : Int) + 1) := congrArg _ (wrap_k1 k (by have := hll.out; omega))
      obtain ⟨ys, hys⟩ := hDh.out.1
      obtain ⟨g, hg, hix, ⟨x, hx⟩, hz, hst⟩ := own_store hys k hlt
      have hst := hd_ (hst (.string ⟨#[115, 112, 111, 105, 108, 116]⟩))
      have hDn := hd_ (show Dk w (wr.setCell ⟨g, k * 3, none⟩ (.string ⟨#[115, 112, 111, 105, 108, 116]⟩)) s l u1 u2 u3 g5 g7 g9 from ⟨hst.out.1, hDh.out.grown hAp.out hg.symm hst.out.2⟩)
      clear hys hst hg hlt hk z1
      generalize k * 3 = off at *
      go_wp2
      go_roundw
      case rel => exact ⟨k + 1, hkx.out, by first | rfl | (rw [hI1]; rfl), hDn.out⟩
      case measure => first | (rw [hI1]; exact meas_k1i _ _ hkx.out) | exact meas_k1i _ _ hkx.out
    · have hkI : ¬ (k : Int) < (l.length : Int) := by omega
      clear hlt hk
      obtain ⟨ys, hys⟩ := hDh.out.1
      have hys := hd_ hys
      go_upto_region 13 with (at_builtin; have HBq := al1 (Below.refl wr.heap.size wr) (.cells #[.string ⟨#[109, 111, 114, 101]⟩, .string ⟨#[]⟩, .int .i64 0, .string ⟨#[97, 110, 100, 32, 109, 111, 114, 101]⟩, .string ⟨#[]⟩, .int .i64 0] 61); have hD8 := hd_ (hDh.out.keep HBq); refine app_rd w.heap.size rfl _ _ 34 61 (.agg #[.string ⟨#[]⟩, .string ⟨#[]⟩, .int .i64 0]) 3 40 rfl Try.underlying34 infoRowZ rfl (by omega) u1 _ l.length 2 ys _ rfl rfl (row_keep hys.out HBq) (lit_more wr) (rowsV_one _) hD8.out.2.2.2.2.2.2.size (by omega) hl40.out ?_; intro u9 w9 HO9 hg9 hat9; have hD9 := hd_ (hD8.out.grown hAp.out rfl hg9); obtain ⟨_, A9, c9, rfl, _⟩ := RdC.own HO9; have d1 := hD9.out.1.cell 1 (v := u1) rfl; have e1 := hD9.out.1.frozen 1)
      obtain ⟨b1, gr1⟩ := hD9.out.1.put 1 (.slice A9 (l.length + 2) c9)
      have r2 := row_chg hD9.out.2.1 (Chg.of gr1) (fun k hk e => by
        injection e with e
        subst e
        rcases own_ne hD9.out.2.1 hD9.out.1 (by decide) with h2 | h2
        · rw [h2] at hk; cases hk
        · exact h2 hk)
      have r3 := row_chg hD9.out.2.2.2.1 (Chg.of gr1) (fun k hk e => by
        injection e with e
        subst e
        rcases own_ne hD9.out.2.2.2.1 hD9.out.1 (by decide) with h2 | h2
        · rw [h2] at hk; cases hk
        · exact h2 hk)
      have b7 := hd_ (hD9.out.2.2.1.grown gr1 (fun e => by injection e with e; exact hne.out.1 e.symm))
      have b9 := hd_ (hD9.out.2.2.2.2.1.grown gr1 (fun e => by injection e with e; exact hne.out.2.1 e.symm))
      have HBz := hd_ (below_row hD9.out.2.2.2.2.2 gr1 hne.out.2.2 hD9.out.2.2.2.2.2.size)
      have hSm := hd_ (same_any s u3 u2 l _ (rdr_of r3 rfl) (rdr_of r2 rfl) (by have := hll.out; omega))
      clear r2 r3 b1 gr1 hD9 hD8 HBq hys hDh d1 e1 q1 z1 HO9 hg9 hat9
      go_wp2_with (first
        | (refine load_boxI ?hw 36 _ rfl g9 36 (stC s u3) _ rfl b9.out Try.underlying36 rfl infoSt ?_; (case hw => first | rfl | simp [Region.wanted, yielded]))
        | (refine load_boxI ?hw 36 _ rfl g7 36 (stC s u2) _ rfl b7.out Try.underlying36 rfl infoSt ?_; (case hw => first | rfl | simp [Region.wanted, yielded]))
        | (go_at_call 32; (with_reducible refine hSm.out.mono ?_); rintro e w6 ⟨rfl, HB6⟩)
        | (go_at_call 19; (with_reducible refine (lives_any _).mono ?_); rintro e w7 ⟨rfl, HB7⟩))
      go_ret
      exact ⟨rfl, bel_trans (bel_trans HBz.out HB6) HB7⟩
end Go.Proofs.Ytdmogbkfmeihfaa
