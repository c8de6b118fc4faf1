/- A state as bytes: the program's laid, Size, Encode, Check. -/
import Derived.Test.YtdmogbkfmeihfaaIeB
import Derived.Test.YtdmogbkfmeihfaaPwX
import Derived.Test.YtdmogbkfmeihfaaOwB
import Derived.Test.YtdmogbkfmeihfaaCrcI
namespace Go.Proofs.Ytdmogbkfmeihfaa
open Go.RowKit
set_option maxRecDepth 100000
set_option linter.unusedVariables false
def rowV (r : RowT) : List Value := [.string r.1, .string r.2.1, .int .i64 r.2.2]
def rowsV (l : List RowT) : List Value := l.flatMap rowV
/-- a list of rows, read -/
def RdR (w : World) (v : Value) (l : List RowT) : Prop := RdC 3 w v l.length (rowsV l)
theorem RdR.keep {w w1 : World} {v : Value} {l : List RowT} (h : RdR w v l) (hb : Below w.heap.size w w1) : RdR w1 v l := RdC.keep h hb
theorem rowsV_length : ∀ l : List RowT, (rowsV l).length = l.length * 3
  | [] => rfl
  | r :: t => by
    have := rowsV_length t
    have e : rowsV (r :: t) = rowV r ++ rowsV t := rfl
    rw [e, List.length_append, this, List.length_cons]
    show 3 + _ = _
    omega
theorem rowsV_at : ∀ (l : List RowT) (k : Nat) (h : k < l.length), ((rowsV l).drop (k * 3)).take 3 = rowV (l[k]'h)
  | [], k, h => absurd h (by simp)
  | r :: t, 0, h => rfl
  | r :: t, k + 1, h => by
    have e : rowsV (r :: t) = rowV r ++ rowsV t := rfl
    have e2 : (k + 1) * 3 = (rowV r).length + k * 3 := by show _ = 3 + _; omega
    rw [e, e2, List.drop_append, List.drop_of_length_le (by omega), List.nil_append]
    simp only [Nat.add_sub_cancel_left, List.getElem_cons_succ]
    exact rowsV_at t k (by simpa using h)
theorem rowsV_append (a b : List RowT) : rowsV (a ++ b) = rowsV a ++ rowsV b := List.flatMap_append
theorem rowsV_one : ∀ (l : List RowT), ∀ u ∈ rowsV l, u.oneCell' = true
  | [], u, h => by cases h
  | r :: t, u, h => by
    have e : rowsV (r :: t) = rowV r ++ rowsV t := rfl
    rw [e] at h
    rcases List.mem_append.1 h with h1 | h1
    · simp only [rowV, List.mem_cons, List.not_mem_nil, or_false] at h1
      rcases h1 with rfl | rfl | rfl <;> rfl
    · exact rowsV_one t u h1
theorem infoRowZ : (Try.prog.info? 61).map (fun i => (i.zero, i.size, i.bytes)) = some (some (.agg #[.string ⟨#[]⟩, .string ⟨#[]⟩, .int .i64 0]), 3, 40) := by kernel_rfl
theorem RdR.at {w : World} {v : Value} {l : List RowT} (h : RdR w v l) (k : Nat) (hk : k < l.length) :
    ∃ bl off, (∀ W, Sem.run Try.prog (Instr.indexAt 34 v (.int .i64 (k : Int))) W = .ok (.pointer (some ⟨bl, off, none⟩)) W) ∧ ∀ i, i < (rowC (l[k]'hk).1 (l[k]'hk).2.1 (l[k]'hk).2.2).size → w.cell? ⟨bl, off + i, none⟩ = (rowC (l[k]'hk).1 (l[k]'hk).2.1 (l[k]'hk).2.2)[i]? :=
  RdC.whole (P := Try.prog) Try.underlying34 infoRowZ h .i64 k hk (by decide) (rowC (l[k]'hk).1 (l[k]'hk).2.1 (l[k]'hk).2.2) (rowsV_at l k hk) rfl
theorem RdR.form {w : World} {v : Value} {l : List RowT} (h : RdR w v l) : ∃ A c, v = .slice A l.length c ∧ l.length ≤ c := by
  obtain ⟨_, A, c, hv, h1, _⟩ := h
  exact ⟨A, c, hv, h1⟩
theorem RdR.len {w : World} {v : Value} {l : List RowT} (h : RdR w v l) : ∀ W, Sem.run Try.prog (Builtin.len_ #[34] 3 #[v]) W = .ok (.int .i64 (l.length : Int)) W := RdC.len (P := Try.prog) h 34 61 3 Try.underlying34
/-- a state's cells -/
def stC (seq : Int) (v : Value) : Array Value := #[.int .i64 seq, v]
theorem stC_one (seq : Int) (A : Option Addr) (n c : Nat) : (stC seq (.slice A n c)).all (·.oneCell') = true := by unfold stC; simp [Value.oneCell']
theorem infoSt : (Try.prog.info? 36).map (·.size) = some 2 := by kernel_rfl
/-- a writer without an error over a world -/
def Wi (w0 W : World) (g : Nat) (v : Value) (L : List Int) : Prop := Wr W g v (0, L) ∧ w0.heap.size ≤ g ∧ (∀ b, v.ownBlock = some b → w0.heap.size ≤ b) ∧ Below w0.heap.size w0 W
theorem Wi.step {w0 W W1 : World} {g : Nat} {v : Value} {L M : List Int} (t : Wi w0 W g v L) (p : WrPost W g v (0, M) W1) : ∃ v', Wi w0 W1 g v' M := by
  obtain ⟨v', h1, hC, ho⟩ := p
  refine ⟨v', h1, t.2.1, fun b e => ?_, hC.then t.2.2.2 (fun k e => ?_) t.2.2.2.size⟩
  · rcases ho with h2 | ⟨k, h2, h3⟩
    · exact t.2.2.1 b (h2 ▸ e)
    · rw [h2] at e; injection e with e; have := t.2.2.2.size; omega
  · rcases e with e | e
    · rw [e]; exact t.2.1
    · exact t.2.2.1 k e.symm
theorem Wi.keep {w0 W W1 : World} {g : Nat} {v : Value} {L : List Int} (t : Wi w0 W g v L) (hb : Below W.heap.size W W1) : Wi w0 W1 g v L :=
  ⟨⟨t.1.1.keep hb, t.1.2.keep hb⟩, t.2.1, t.2.2.1, bel_trans t.2.2.2 hb⟩
/-- bytes and an error answered -/
def ImRet (w : World) (R : Int × List Int) (e : Ending) (w' : World) : Prop := ∃ u, e = .returned (.tuple #[u, .int .i64 R.1]) ∧ (OwnN w' u R.2 ∧ ∀ k, u.ownBlock = some k → w.heap.size ≤ k) ∧ Below w.heap.size w w'
theorem im_nil (w w' : World) : OwnN w' (.slice none 0 0) [] ∧ ∀ k, (Value.slice none 0 0).ownBlock = some k → w.heap.size ≤ k := ⟨OwnN.nil _, fun k e => absurd e (by simp [Value.ownBlock])⟩
section
variable {P : Program} {ops : Array Oper} {rest : List Oper} {o : Oper} {a : Act} {Q : Exit → Act → World → Prop}
theorem app_fullI {W : World} (hw : Region.wanted o (yielded ops a.tmps) = true) (s x : Operand) (t e : TypeId)
    (ho : o.op = .call { callee := .builtin .append, args := #[s, x], argTypes := #[t, t] })
    (ht : P.underlying t = some (.slice e)) (hinfo : (P.info? e).map (fun i => (i.zero, i.size, i.bytes)) = some (some (.int .u8 0), 1, 1))
    (A : Option Addr) (n : Nat) (y : Value) (xs ys : List Int) (hs : a.eval s = .slice A n n) (hx : a.eval x = y)
    (HX : Rd W (.slice A n n) xs) (HR : Rd W y ys) (hy : ys ≠ []) (hl : xs.length + ys.length ≤ 140737488355328)
    (h : ∀ v1 w1, OwnN w1 v1 (xs ++ ys) → (∀ k, v1.ownBlock = some k → W.heap.size ≤ k) → Below W.heap.size W w1 → wpList P ops Q rest (a.put o.dst v1) w1) :
    wpList P ops Q (o :: rest) a W := by
  unfold wpList
  rw [if_pos hw]
  exact .inl (wp_app_full s x t e ho ht hinfo A n y xs ys hs hx HX HR hy hl h)
end
theorem wRow_ok {k u : ByteArray} {n : Int} {L : List Int} (h : tabC (k, u, n) = 0) : wRow (0, L) (byL k) (byL u) n = (0, L ++ rowL (k, u, n)) := by
  obtain ⟨h1, h2, h3, h4, h5⟩ := tabC_zero h
  simp only at h1 h2 h3 h4 h5
  unfold wRow rowL
  rw [if_neg (by simp), if_neg (by rw [byL_nil]; omega), if_neg (by rw [byL_length, byL_length]; omega), byL_length, byL_length]
  simp only [List.append_assoc]
theorem rowL_le {k u : ByteArray} {n : Int} (h : tabC (k, u, n) = 0) : (rowL (k, u, n)).length ≤ 66600 := by
  obtain ⟨h1, h2, h3, h4, h5⟩ := tabC_zero h
  simp only at h1 h2 h3 h4 h5
  have b1 := lebB_10 (v := k.size) (by omega)
  have b2 := lebB_10 (v := u.size) (by omega)
  have b3 := lebB_10 (v := n.toNat) (by omega)
  rw [rowL_length]
  simp only
  omega
theorem wrap_addI (a b : Nat) (h : a + b ≤ 1000000000000) : wrap64 ((a : Int) + (b : Int)) = ((a + b : Nat) : Int) := by unfold wrap64; omega
theorem wrap_addJ (a b : Nat) (h : a + b ≤ 1000000000000) : IntKind.i64.wrap ((a : Int) + (b : Int)) = ((a + b : Nat) : Int) := by rw [IntKind.wrap_i64]; omega
theorem wrap_k1 (k : Nat) (h : k ≤ 1000000000000) : wrap64 ((k : Int) + 1) = (k : Int) + 1 := by unfold wrap64; omega
theorem wrap_seq (s : Int) (h0 : 0 ≤ s) (h1 : s ≤ 1152921504606846976) : IntKind.u64.wrap s = s := by rw [IntKind.wrap_u64]; omega
theorem wrap_len (n : Nat) (h : n ≤ 1000000000000) : IntKind.u64.wrap (n : Int) = (n : Int) := by rw [IntKind.wrap_u64]; omega
theorem hwi_b : IsBytes hwi := by intro b hb; simp at hb; omega
theorem lit_hwi (W : World) : Rd (W.alloc (.cells #[.int .u8 104, .int .u8 119, .int .u8 105, .int .u8 49] 5 (4, 5))) (.slice (some ⟨W.heap.size, 0, none⟩) 4 4) hwi := rd_new _ rfl rfl hwi_b (by decide)
theorem meas_k1i (k n : Nat) (h : k < n) : n - ((k : Int) + 1).toNat < n - (k : Int).toNat := by omega
theorem laid_sums (n : Nat) (h : n ≤ 100000000000) : wrap64 (4 + (n : Int)) = ((4 + n : Nat) : Int) ∧ wrap64 (((4 + n : Nat) : Int) + 4) = ((4 + n + 4 : Nat) : Int) ∧ IntKind.i64.wrap (4 + (n : Int)) = ((4 + n : Nat) : Int) ∧ IntKind.i64.wrap (((4 + n : Nat) : Int) + 4) = ((4 + n + 4 : Nat) : Int) :=
  ⟨by have := wrap_addI 4 n (by omega); exact this, by have := wrap_addI (4 + n) 4 (by omega); exact this, by have := wrap_addJ 4 n (by omega); exact this, by have := wrap_addJ (4 + n) 4 (by omega); exact this⟩
set_option maxHeartbeats 8000000 in
theorem laid_any (seq : Int) (v : Value) (l : List RowT) (w : World) (HR : RdR w v l) :
    Calls Try.prog 47 #[.agg (stC seq v)] w (ImRet w (laidA seq l)) := by
  obtain ⟨A0, c0, hv0, hc0⟩ := HR.form
  subst hv0
  have hlen := HR.len
  have hbS := Box.new w (stC seq (.slice A0 l.length c0)) 36
  have hB0 := al1 (Below.refl w.heap.size w) (.cells (stC seq (.slice A0 l.length c0)) 36)
  by_cases hbig : 1048576 < l.length
  · have hR : laidA seq l = (90, []) := by unfold laidA; rw [if_pos hbig]
    rw [hR]
    have hbI : 1048576 < (l.length : Int) := by omega
    have q1 := hbS.cell 1 rfl
    have hB0 := hd_ hB0
    unfold stC at *
    clear hR HR hbS
    go_enter Try.func47, Try.ntmps47
    go_wp2
    go_ret2
    exact ⟨_, rfl, im_nil _ _, hB0.out⟩
  have hbI : ¬ 1048576 < (l.length : Int) := by omega
  by_cases hs : seq < 0 ∨ 1152921504606846976 < seq
  · have hR : laidA seq l = (91, []) := by unfold laidA; rw [if_neg hbig, if_pos hs]
    rw [hR]
    have q0 := hbS.cell 0 rfl
    have q1 := hbS.cell 1 rfl
    have hB0 := hd_ hB0
    unfold stC at *
    clear hR HR hbS
    by_cases hs0 : seq < 0
    · go_enter Try.func47, Try.ntmps47
      go_wp2
      go_ret2
      exact ⟨_, rfl, im_nil _ _, hB0.out⟩
    · have hs1 : 1152921504606846976 < seq := hs.resolve_left hs0
      clear hs
      go_enter Try.func47, Try.ntmps47
      go_wp2
      go_ret2
      exact ⟨_, rfl, im_nil _ _, hB0.out⟩
  have hR : laidA seq l = ldR seq l true ⟨#[]⟩ 0 (lebB seq.toNat ++ lebB l.length) := by unfold laidA; rw [if_neg hbig, if_neg hs]
  rw [hR]
  clear hR
  have hs0 : ¬ seq < 0 := fun h => hs (.inl h)
  have hs1 : ¬ 1152921504606846976 < seq := fun h => hs (.inr h)
  obtain ⟨R, hRd⟩ : ∃ R, R = ldR seq l true ⟨#[]⟩ 0 (lebB seq.toNat ++ lebB l.length) := ⟨_, rfl⟩
  rw [← hRd]
  obtain ⟨W0, hW0⟩ : ∃ W0, W0 = w.alloc (.cells (stC seq (.slice A0 l.length c0)) 36) := ⟨_, rfl⟩
  rw [← hW0] at hbS hB0
  have hbS := hd_ hbS
  have hB0 := hd_ hB0
  have hz0 : W0.heap.size = w.heap.size + 1 := by rw [hW0]; simp
  have hRH := hd_ (HR.keep hB0.out)
  have hB1 := al1 (Below.refl W0.heap.size W0) (.cells #[.int .i64 0, .slice none 0 0] 126)
  have hb1 := Box.new W0 #[.int .i64 0, .slice none 0 0] 126
  have hz0H := hd_ hz0
  clear hz0
  have hws := wrap_seq seq (by omega) (by omega)
  have hwl := wrap_len l.length (by omega)
  have hSn : ((seq.toNat : Nat) : Int) = seq := Int.toNat_of_nonneg (by omega)
  have hWi0 := hd_ (show Wi W0 (W0.alloc (.cells #[.int .i64 0, .slice none 0 0] 126)) W0.heap.size (.slice none 0 0) [] from ⟨⟨hb1, own_nil8 _ _ _⟩, Nat.le_refl _, fun b e => absurd e (by simp [Value.ownBlock]), hB1⟩)
  have hU1 := hd_ (show Calls Try.prog 74 #[.pointer (some ⟨W0.heap.size, 0, none⟩), .int .u64 seq] (W0.alloc (.cells #[.int .i64 0, .slice none 0 0] 126)) (WrRet (W0.alloc (.cells #[.int .i64 0, .slice none 0 0] 126)) W0.heap.size (.slice none 0 0) (0, lebB seq.toNat)) from by have := W_Uint_any W0.heap.size (.slice none 0 0) (0, []) seq.toNat _ hWi0.out.1 (by omega) (by decide); rw [hSn] at this; exact this)
  have h10 := lebB_10 (v := seq.toNat) (by omega)
  have h10b := lebB_10 (v := l.length) (by omega)
  have hU2 := hd_ (fun W u (h : Wi W0 W W0.heap.size u (lebB seq.toNat)) => show Calls Try.prog 74 #[.pointer (some ⟨W0.heap.size, 0, none⟩), .int .u64 (l.length : Int)] W (WrRet W W0.heap.size u (0, lebB seq.toNat ++ lebB l.length)) from by have := W_Uint_any W0.heap.size u (0, lebB seq.toNat) l.length W h.1 (by omega) (by simp only; omega); exact this)
  have hRH2 := hd_ hRd
  have hL0 := hd_ (show (lebB seq.toNat ++ lebB l.length).length ≤ 20 by rw [List.length_append]; omega)
  clear hb1 hB1 hs hRd HR hSn h10 h10b
  have q0 := hbS.out.cell 0 (v := .int .i64 seq) rfl
  have q1 := hbS.out.cell 1 (v := .slice A0 l.length c0) rfl
  have hsk := hd_ (fun W u (h : Wi W0 W W0.heap.size u (lebB seq.toNat)) => And.intro (cell_keep (h.2.2.2) q0) (cell_keep (h.2.2.2) q1))
  have q0a := cell_keep (w1 := W0.alloc (.cells #[.int .i64 0, .slice none 0 0] 126)) (hWi0.out.2.2.2) q0
  have hQ := hd_ (fun W (h : Below W0.heap.size W0 W) => And.intro (cell_keep h q0) (cell_keep h q1))
  unfold stC at hW0
  unfold stC
  go_enter Try.func47, Try.ntmps47
  go_upto_region 1 with fail
  rw [← hW0]
  clear hW0
  go_upto_region 9 with (first
    | (go_at_call 74; (with_reducible refine hU1.out.mono ?_); rintro e w1 ⟨rfl, P1⟩; obtain ⟨v1, hW1⟩ := hWi0.out.step P1; have hU2c := hU2.out w1 v1 hW1; obtain ⟨q0b, q1b⟩ := hsk.out w1 v1 hW1)
    | (go_at_call 74; (with_reducible refine hU2c.mono ?_); rintro e w2 ⟨rfl, P2⟩))
  obtain ⟨v2, hW2⟩ := hW1.step P2
  obtain ⟨q0c, q1c⟩ := hQ.out w2 hW2.2.2.2
  have hW2 := hd_ hW2
  clear hU1 hU2 hU2c P1 P2 hW1 q0a q0b q1b hWi0 hsk q0 q1
  go_upto_region 10 with fail
  clear hws hwl
  go_loopw [5, 6, 35] (fun va vs vi wr => ∃ (k size : Nat) (ahead : ByteArray) (L : List Int) (vw : Value), k ≤ l.length ∧ va = .string ahead ∧ vs = .int .i64 (size : Int) ∧ vi = .int .i64 (k : Int) ∧ Wi W0 wr W0.heap.size vw L ∧ ldR seq (l.drop k) (decide (k = 0)) ahead size L = R ∧ size ≤ 66560 * k ∧ L.length ≤ 20 + 66600 * k ∧ 1 ≤ L.length) (fun _ _ vi _ => l.length - (intOf vi).toNat)
  case atStart => exact ⟨0, 0, ⟨#[]⟩, _, v2, Nat.zero_le _, rfl, rfl, rfl, hW2.out, hRH2.out.symm, by omega, by have := hL0.out; omega, by have := lebB_pos seq.toNat; rw [List.length_append]; omega⟩
  case round =>
    clear hW2 hRH2 hL0 q0c q1c
    obtain ⟨k, size, ahead, L, vw, hk, rfl, rfl, rfl, hX, hT, hsz, hLl, hL1⟩ := hrel
    by_cases hlt : k < l.length
    · have hkI : (k : Int) < (l.length : Int) := by omega
      obtain ⟨bl, off, hix, hcell0⟩ := hRH.out.at k hlt
      rw [List.drop_eq_getElem_cons hlt] at hT
      generalize l[k] = r at *
      obtain ⟨ky, vu, n⟩ := r
      simp only at hcell0
      have hcell := hd_ (cells_keep hcell0 hX.2.2.2)
      have hXH := hd_ hX
      have hkx := hd_ hlt
      have hI1 : (Value.int IntKind.i64 (wrap64 ((k : Int) + 1))) = .int .i64 ((k : Int) + 1) := congrArg _ (wrap_k1 k (by omega))
      have hT : (if mayB (ky, vu, n) ahead (decide (k = 0)) seq = false then (91, []) else ldR seq (l.drop (k + 1)) false ky (size + ky.size + vu.size) (if size + ky.size + vu.size ≤ 268435456 then L ++ rowL (ky, vu, n) else L)) = R := hT
      obtain ⟨f, hf⟩ : ∃ f, f = decide (k = 0) := ⟨_, rfl⟩
      have hkf : ((k : Int) == 0) = f := by
        rw [hf]
        by_cases h0 : k = 0
        · rw [decide_eq_true h0, beq_iff_eq]; omega
        · rw [decide_eq_false h0, beq_eq_false_iff_ne]; omega
      rw [← hf] at hT
      have hmay := hd_ (fun W => may_any ky vu n ahead f seq W)
      have hbz := hd_ (And.intro hsz (And.intro hLl (And.intro hk hL1)))
      clear hcell0 hX hlt hf hsz hLl hk hL1
      go_upto_region 12 with (first
        | (refine load_at rfl 61 _ rfl bl off (rowC ky vu n) _ rfl hcell.out Try.underlying61 rfl infoRow ?_)
        | (refine store_box rfl 61 _ _ rfl _ _ _ (rowC ky vu n) rfl rfl (Box.new _ _ _) infoRow rfl (rowC_one' _ _ _) ?_; intro w5 hb5 hg5))
      have HB5 := below_row (al1 (Below.refl wr.heap.size wr) _) hg5 (Nat.le_refl _) (size_al _ _)
      have P5 := hXH.out.keep HB5
      obtain ⟨s0, s1⟩ := hQ.out w5 P5.2.2.2
      have P5 := hd_ P5
      have hb5 := hd_ hb5
      simp only [Act.put]
      clear hg5 HB5 hXH hcell
      cases hm : mayB (ky, vu, n) ahead f seq
      · rw [hm, if_pos rfl] at hT
        subst hT
        rw [hm] at hmay
        clear hm
        go_wp2_with (first
          | (refine load_boxI ?hw 61 _ rfl wr.heap.size 61 (rowC ky vu n) _ rfl hb5.out Try.underlying61 rfl infoRow ?_; (case hw => first | rfl | simp [Region.wanted, yielded]))
          | (go_at_call 75; (with_reducible refine (hmay.out _).mono ?_); rintro e w6 ⟨rfl, HB6⟩))
        go_ret2
        exact ⟨_, rfl, im_nil _ _, hB0.out.trans ((bel_trans P5.out.2.2.2 HB6).mono hB0.out.size)⟩
      · rw [hm, if_neg (by simp)] at hT
        rw [hm] at hmay
        have htab := (mayB_parts hm).1
        obtain ⟨z1, z2, z3, z4, z5⟩ := tabC_zero htab
        simp only at z1 z2 z3 z4 z5
        obtain ⟨kv, hkv⟩ : ∃ kv, kv = ky.size + vu.size := ⟨_, rfl⟩
        obtain ⟨sz2, hsz2⟩ : ∃ sz2, sz2 = size + kv := ⟨_, rfl⟩
        have hsum : size + ky.size + vu.size = sz2 := by omega
        rw [hsum] at hT
        obtain ⟨y1, y2, y3, y4⟩ := hbz.out
        have hkv9 : ky.size + vu.size ≤ 1000000000000 := by omega
        have hsz9 : size + kv ≤ 1000000000000 := by omega
        have hrl := rowL_le htab
        have hRow := hd_ (fun W (h : Wi W0 W W0.heap.size vw L) => show Calls Try.prog 76 #[.pointer (some ⟨W0.heap.size, 0, none⟩), .agg (rowC ky vu n)] W (WrRet W W0.heap.size vw (0, L ++ rowL (ky, vu, n))) from by have := W_Row_any W0.heap.size vw (0, L) ky vu n W h.1 (by omega) (by omega) (by simp only; omega); rw [wRow_ok htab] at this; exact this)
        have hnx := hd_ (show sz2 ≤ 66560 * (k + 1) ∧ ((L ++ rowL (ky, vu, n)).length ≤ 20 + 66600 * (k + 1) ∧ 1 ≤ (L ++ rowL (ky, vu, n)).length) ∧ (L.length ≤ 20 + 66600 * (k + 1) ∧ 1 ≤ L.length) by rw [List.length_append]; omega)
        generalize hRL : L ++ rowL (ky, vu, n) = L2 at *
        have a1 : wrap64 ((ky.size : Int) + (vu.size : Int)) = (kv : Int) := by rw [hkv]; exact wrap_addI _ _ hkv9
        have a2 : wrap64 ((size : Int) + (kv : Int)) = (sz2 : Int) := by rw [hsz2]; exact wrap_addI _ _ hsz9
        have a3 : IntKind.i64.wrap ((ky.size : Int) + (vu.size : Int)) = (kv : Int) := by rw [hkv]; exact wrap_addJ _ _ hkv9
        have a4 : IntKind.i64.wrap ((size : Int) + (kv : Int)) = (sz2 : Int) := by rw [hsz2]; exact wrap_addJ _ _ hsz9
        clear hm htab z1 z2 z3 z4 z5 hkv hsz2 hsum y1 y2 y3 y4 hkv9 hsz9 hrl hRL hbz
        go_upto_region 16 with (first
          | (refine load_boxI ?hw 61 _ rfl wr.heap.size 61 (rowC ky vu n) _ rfl hb5.out Try.underlying61 rfl infoRow ?_; (case hw => first | rfl | simp [Region.wanted, yielded]))
          | (go_at_call 75; (with_reducible refine (hmay.out _).mono ?_); rintro e w6 ⟨rfl, HB6⟩; have hb6 := hb5.out.keep HB6; have c0 := hb6.cell 0 (v := .string ky) rfl; have c1 := hb6.cell 1 (v := .string vu) rfl))
        have P6 := P5.out.keep HB6
        have hRc := hd_ (hRow.out w6 P6)
        have P6 := hd_ P6
        have hb6 := hd_ hb6
        clear HB6 P5 hb5 hRow c0 c1 hmay s0 s1
        by_cases hmx : sz2 ≤ 268435456
        · rw [if_pos hmx] at hT
          have hmI : (sz2 : Int) ≤ 268435456 := by omega
          have hTH := hd_ hT
          clear hT hmx
          go_wp2_with (first
            | (refine load_boxI ?hw 61 _ rfl wr.heap.size 61 (rowC ky vu n) _ rfl hb6.out Try.underlying61 rfl infoRow ?_; (case hw => first | rfl | simp [Region.wanted, yielded]))
            | (go_at_call 76; (with_reducible refine hRc.out.mono ?_); rintro e w7 ⟨rfl, P7⟩; obtain ⟨v7, hW7⟩ := P6.out.step P7))
          go_roundw
          case rel => exact ⟨k + 1, sz2, ky, L2, v7, hkx.out, rfl, rfl, by first | rfl | (rw [hI1]; rfl), hW7, by rw [decide_eq_false (by omega)]; exact hTH.out, hnx.out.1, hnx.out.2.1⟩
          case measure => first | (rw [hI1]; exact meas_k1i _ _ hkx.out) | exact meas_k1i _ _ hkx.out
        · rw [if_neg hmx] at hT
          have hmI : ¬ (sz2 : Int) ≤ 268435456 := by omega
          have hTH := hd_ hT
          clear hT hmx
          go_wp2
          go_roundw
          case rel => exact ⟨k + 1, sz2, ky, L, vw, hkx.out, rfl, rfl, by first | rfl | (rw [hI1]; rfl), P6.out, by rw [decide_eq_false (by omega)]; exact hTH.out, hnx.out.1, hnx.out.2.2⟩
          case measure => first | (rw [hI1]; exact meas_k1i _ _ hkx.out) | exact meas_k1i _ _ hkx.out
    · obtain rfl : k = l.length := by omega
      rw [List.drop_length] at hT
      have hT : (if 268435456 < size ∨ 268435456 < L.length + 8 then (90, []) else (0, hwi ++ L)) = R := hT
      have hBy := hd_ (show Calls Try.prog 77 #[.pointer (some ⟨W0.heap.size, 0, none⟩)] wr (fun e w' => ∃ u, e = .returned (.tuple #[u, .int .i64 0]) ∧ Own w' wr.heap.size 5 u L ∧ Below wr.heap.size wr w') from W_Bytes_any W0.heap.size vw (0, L) wr hX.1 (by simp only; omega))
      have hXB := hd_ hX.2.2.2
      have hL9 : L.length ≤ 100000000000 := by omega
      have hLne := hd_ (show L ≠ [] from fun h => by rw [h] at hL1; simp at hL1)
      have hLH0 : L.length ≤ 100000000000 ∧ 4 + L.length + 4 = L.length + 8 := ⟨hL9, by omega⟩
      have hEc : (268435456 < size ∨ 268435456 < L.length + 8) ∨ ¬ (268435456 < size ∨ 268435456 < L.length + 8) := Decidable.em _
      obtain ⟨hadd1, hadd2, hadd1J, hadd2J⟩ := laid_sums L.length hL9
      obtain ⟨n1, hn1⟩ : ∃ n1, n1 = 4 + L.length := ⟨_, rfl⟩
      obtain ⟨n2, hn2⟩ : ∃ n2, n2 = 4 + L.length + 4 := ⟨_, rfl⟩
      rw [← hn2] at hadd2 hadd2J hLH0
      rw [← hn1] at hadd1 hadd2 hadd1J hadd2J
      have hLH := hd_ hLH0
      have hA1 := hd_ hadd1
      have hA2 := hd_ hadd2
      have hA3 := hd_ hadd1J
      have hA4 := hd_ hadd2J
      clear hadd1 hadd2 hadd1J hadd2J
      clear hX hsz hLl hk hn1 hn2 hL9 hLH0 hL1
      by_cases hE : 268435456 < size ∨ 268435456 < L.length + 8
      · rw [if_pos hE] at hT
        subst hT
        by_cases hE1 : 268435456 < size
        · have hI : 268435456 < (size : Int) := by omega
          clear hE hE1
          go_wp2_with (go_at_call 77; (with_reducible refine hBy.out.mono ?_); rintro e w8 ⟨u8, rfl, HO8, HB8⟩)
          go_ret2
          exact ⟨_, rfl, im_nil _ _, hB0.out.trans ((bel_trans hXB.out HB8).mono hB0.out.size)⟩
        · have hI : ¬ 268435456 < (size : Int) := by omega
          have hI2 : 268435456 < (n2 : Int) := by have := hLH.out.2; omega
          clear hE hE1 hEc
          have hadd1 := hA1.out
          have hadd2 := hA2.out
          have hadd1J := hA3.out
          have hadd2J := hA4.out
          go_wp2_with (go_at_call 77; (with_reducible refine hBy.out.mono ?_); rintro e w8 ⟨u8, rfl, HO8, HB8⟩; have hl8 := HO8.rd.2.len (P := Try.prog) 22 5 3 Try.underlying22)
          go_ret2
          exact ⟨_, rfl, im_nil _ _, hB0.out.trans ((bel_trans hXB.out HB8).mono hB0.out.size)⟩
      · rw [if_neg hE] at hT
        subst hT
        have hI : ¬ 268435456 < (size : Int) := by omega
        have hI2 : ¬ 268435456 < (n2 : Int) := by have := hLH.out.2; omega
        clear hE hEc
        have hadd1 := hA1.out
        have hadd2 := hA2.out
        have hadd1J := hA3.out
        have hadd2J := hA4.out
        have kc := fun (w : World) (C : Array Value) (n c : Nat) => Lib.run_convert_bytes_const (P := Try.prog) w 22 5 C n c Try.underlying22 Try.underlying5
        have hLb := hd_ (show hwi.length + L.length ≤ 140737488355328 by have := hLH.out.1; have : hwi.length = 4 := rfl; omega)
        clear hT
        go_wp2_with (first
          | (go_at_call 77; (with_reducible refine hBy.out.mono ?_); rintro e w8 ⟨u8, rfl, HO8, HB8⟩; have hl8 := HO8.rd.2.len (P := Try.prog) 22 5 3 Try.underlying22; have HBl := al1 (Below.refl w8.heap.size w8) (.cells #[.int .u8 104, .int .u8 119, .int .u8 105, .int .u8 49] 5 (4, 5)); have HR8 := HO8.rd.keep HBl)
          | (at_builtin; refine app_fullI ?hw _ _ 22 5 rfl Try.underlying22 infoB (some ⟨w8.heap.size, 0, none⟩) 4 u8 hwi L rfl rfl (lit_hwi w8) HR8 hLne.out hLb.out ?_; (case hw => first | rfl | simp [Region.wanted, yielded]); intro v9 w9 HN9 hf9 HB9))
        go_ret2
        have hB8 := hXB.out.trans ((HB8.mono hXB.out.size))
        exact ⟨_, rfl, ⟨HN9, fun k e => by have := hf9 k e; have h2 := HBl.size; have h3 := HB8.size; have h4 := hXB.out.size; have h5 := hB0.out.size; omega⟩, hB0.out.trans ((bel_trans hXB.out (bel_trans HB8 (bel_trans HBl HB9))).mono hB0.out.size)⟩
end Go.Proofs.Ytdmogbkfmeihfaa
