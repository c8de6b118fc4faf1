/- The document's side: rows that follow, a state's head, a state checked. -/
import Derived.Test.YtdmogbkfmeihfaaIeF
namespace Go.Proofs.Ytdmogbkfmeihfaa
open Go.RowKit
set_option maxRecDepth 100000
set_option linter.unusedVariables false
set_option maxHeartbeats 1000000 in
theorem follows_any (k u : ByteArray) (n : Int) (ahead : ByteArray) (first : Bool) (seq : Int) (w : World) :
    Calls Try.prog 58 #[.agg (rowC k u n), .bool first, .string ahead, .int .i64 seq] w fun e w' => e = .returned (.bool (mayB (k, u, n) ahead first seq)) ∧ Below w.heap.size w w' := by
  have hB0 := hd_ (al1 (Below.refl w.heap.size w) (.cells (rowC k u n) 61))
  have hbR := hd_ (Box.new w (rowC k u n) 61)
  have hT := hd_ (fun W => ref_Check_any k u n W)
  by_cases h0 : tabC (k, u, n) = 0
  · rw [h0] at hT
    have hm : mayB (k, u, n) ahead first seq = ((first || !lqI k ahead) && decide (n ≤ seq)) := by unfold mayB; rw [h0]; rfl
    rw [hm]
    clear hm h0
    cases first
    · cases hq : lqI k ahead
      · have hq2 : (Op.bytesLess k.toList ahead.toList || k.toList == ahead.toList) = false := hq
        clear hq
        go_enter Try.func58, Try.ntmps58
        go_wp2_with (first
          | (refine load_boxI ?hw 61 _ rfl w.heap.size 61 (rowC k u n) _ rfl hbR.out Try.underlying61 rfl infoRow ?_; (case hw => first | rfl | simp [Region.wanted, yielded]))
          | (go_at_call 86; (with_reducible refine (hT.out _).mono ?_); rintro e w1 ⟨rfl, HB1⟩; have hb1 := hbR.out.keep HB1; have q0 := hb1.cell 0 (v := .string k) rfl; have q2 := hb1.cell 2 (v := .int .i64 n) rfl))
        all_goals
          go_ret
          exact ⟨by simp, bel_trans hB0.out HB1⟩
      · have hq2 : (Op.bytesLess k.toList ahead.toList || k.toList == ahead.toList) = true := hq
        clear hq
        go_enter Try.func58, Try.ntmps58
        go_wp2_with (first
          | (refine load_boxI ?hw 61 _ rfl w.heap.size 61 (rowC k u n) _ rfl hbR.out Try.underlying61 rfl infoRow ?_; (case hw => first | rfl | simp [Region.wanted, yielded]))
          | (go_at_call 86; (with_reducible refine (hT.out _).mono ?_); rintro e w1 ⟨rfl, HB1⟩; have hb1 := hbR.out.keep HB1; have q0 := hb1.cell 0 (v := .string k) rfl; have q2 := hb1.cell 2 (v := .int .i64 n) rfl))
        all_goals
          go_ret
          exact ⟨by simp, bel_trans hB0.out HB1⟩
    · go_enter Try.func58, Try.ntmps58
      go_wp2_with (first
        | (refine load_boxI ?hw 61 _ rfl w.heap.size 61 (rowC k u n) _ rfl hbR.out Try.underlying61 rfl infoRow ?_; (case hw => first | rfl | simp [Region.wanted, yielded]))
        | (go_at_call 86; (with_reducible refine (hT.out _).mono ?_); rintro e w1 ⟨rfl, HB1⟩; have hb1 := hbR.out.keep HB1; have q0 := hb1.cell 0 (v := .string k) rfl; have q2 := hb1.cell 2 (v := .int .i64 n) rfl))
      all_goals
        go_ret
        exact ⟨by simp, bel_trans hB0.out HB1⟩
  · rw [mayB_tab h0]
    have hE : (tabC (k, u, n) == 0) = false := by rw [beq_eq_false_iff_ne]; exact h0
    generalize tabC (k, u, n) = E at *
    go_enter Try.func58, Try.ntmps58
    go_wp2_with (first
      | (refine load_boxI ?hw 61 _ rfl w.heap.size 61 (rowC k u n) _ rfl hbR.out Try.underlying61 rfl infoRow ?_; (case hw => first | rfl | simp [Region.wanted, yielded]))
      | (go_at_call 86; (with_reducible refine (hT.out _).mono ?_); rintro e w1 ⟨rfl, HB1⟩))
    all_goals
      go_ret
      exact ⟨rfl, bel_trans hB0.out HB1⟩
/-- append onto what has no room left: a new row of one's own -/
theorem run_app_fullO {P : Program} {W : World} (t ty e : TypeId) (ht : P.underlying t = some (.slice e)) (hinfo : (P.info? e).map (fun i => (i.zero, i.size, i.bytes)) = some (some (.int .u8 0), 1, 1))
    {ad0 : Addr} {n : Nat} {y : Value} {xs ys : List Int} (HX : Rd W (.slice (some ad0) n n) xs) (HR : Rd W y ys) (hy : ys ≠ []) (hl : xs.length + ys.length ≤ 140737488355328) :
    ∃ v1 w1, (Builtin.append_ #[t, t] ty #[.slice (some ad0) n n, y]).run P W = .ok v1 w1 ∧ Own w1 W.heap.size e v1 (xs ++ ys) ∧ Below W.heap.size W w1 := by
  have hy1 : 0 < ys.length := List.length_pos_iff.2 hy
  obtain ⟨i0, hi, hz0, hz1, hz2⟩ := info_parts hinfo
  obtain ⟨hbx, hlx, Ax, capx, hvx, q1, q2, q3, q4⟩ := HX
  obtain ⟨hby, hlen, A, capy, rfl, hc1, hc2, hc3, hc4⟩ := HR
  injection hvx with e1 e2 e3
  subst e1; subst e3
  rw [nums8_length, Nat.mul_one] at hlen hlx
  cases A with
  | none => have := hc3 rfl; omega
  | some ad =>
    have hcells : ∀ j u, (nums8 ys)[j]? = some u → W.cell? (ad.add j) = some u := by
      intro j u hu
      have hj := (List.getElem?_eq_some_iff.1 hu).1
      obtain ⟨b, off, ha, hc⟩ := hc4 j hj
      injection ha with ha
      subst ha
      rw [Addr.add_lit, hc, hu]
    have hcellx : ∀ j u, (nums8 xs)[j]? = some u → W.cell? (ad0.add j) = some u := by
      intro j u hu
      have hj := (List.getElem?_eq_some_iff.1 hu).1
      obtain ⟨b, off, ha, hc⟩ := q4 j hj
      injection ha with ha
      subst ha
      rw [Addr.add_lit, hc, hu]
    have hn : n = xs.length := e2
    subst hn
    obtain ⟨v', w', hr2, ho, hg⟩ := run_append_arg_grows (P := P) W t ty e i0 (.int .u8 0) 1 1 ht hi hz0 hz1 hz2 rfl (by omega) ad0 xs.length xs.length (nums8 xs) (by rw [nums8_length, Nat.mul_one]) hcellx
      ad ys.length capy (nums8 ys) (by rw [nums8_length, Nat.mul_one]) hcells (by omega) (by simp only [maxLen]; omega) (by omega)
    have hO : Own w' W.heap.size e v' (xs ++ ys) := ⟨bytes_append hbx hby, by rw [nums8_append, List.length_append]; exact ho⟩
    exact ⟨v', w', hr2, hO, ((Chg.of hg).mono (S' := fun _ => False) (fun b _ e => by cases e)).to_below (fun b h => h.elim) (Nat.le_refl _)⟩
section
variable {P : Program} {ops : Array Oper} {rest : List Oper} {o : Oper} {a : Act} {Q : Exit → Act → World → Prop}
theorem app_fullO {W : World} (hw : Region.wanted o (yielded ops a.tmps) = true) (s x : Operand) (t e : TypeId)
    (ho : o.op = .call { callee := .builtin .append, args := #[s, x], argTypes := #[t, t] })
    (ht : P.underlying t = some (.slice e)) (hinfo : (P.info? e).map (fun i => (i.zero, i.size, i.bytes)) = some (some (.int .u8 0), 1, 1))
    (ad0 : Addr) (n : Nat) (y : Value) (xs ys : List Int) (hs : a.eval s = .slice (some ad0) n n) (hx : a.eval x = y)
    (HX : Rd W (.slice (some ad0) n n) xs) (HR : Rd W y ys) (hy : ys ≠ []) (hl : xs.length + ys.length ≤ 140737488355328)
    (h : ∀ v1 w1, Own w1 W.heap.size e v1 (xs ++ ys) → Below W.heap.size W w1 → wpList P ops Q rest (a.put o.dst v1) w1) :
    wpList P ops Q (o :: rest) a W := by
  obtain ⟨v1, w1, hr, h2, h3⟩ := run_app_fullO (P := P) t o.type e ht hinfo HX HR hy hl
  unfold wpList
  rw [if_pos hw]
  refine .inl ?_
  unfold Oper.wp execOp
  simp only [ho, resolve, invoke, builtin, Sem.run_bind, Sem.run_pure, Result.andThen_ok, List.map_toArray, List.map_cons, List.map_nil, hs, hx, hr]
  exact h v1 w1 h2 h3
end
def HeadRet (w : World) (L : List Int) (e : Ending) (w' : World) : Prop := ∃ u, e = .returned u ∧ Own w' w.heap.size 5 u L ∧ Below w.heap.size w w'
set_option maxHeartbeats 2000000 in
theorem head_any (seq : Int) (v : Value) (l : List RowT) (w : World) (HR : RdR w v l) (h0 : 0 ≤ seq) (h1 : seq ≤ 1152921504606846976) (hl : l.length ≤ 1048576) :
    Calls Try.prog 43 #[.agg (stC seq v)] w (HeadRet w (hdI seq l)) := by
  obtain ⟨A0, c0, hv0, hc0⟩ := HR.form
  subst hv0
  have hlen := HR.len
  have hbS := Box.new w (stC seq (.slice A0 l.length c0)) 36
  have hB0 := al1 (Below.refl w.heap.size w) (.cells (stC seq (.slice A0 l.length c0)) 36)
  have c1 := wrap_seq seq h0 h1
  have c2 := wrap_n64 l.length (by omega)
  have hSn : ((seq.toNat : Nat) : Int) = seq := Int.toNat_of_nonneg h0
  have b1 := lebB_10 (v := seq.toNat) (by omega)
  have b2 := lebB_10 (v := l.length) (by omega)
  have p1 := lebB_pos seq.toNat
  have hY1 := hd_ (fun W => show Calls Try.prog 67 #[.int .u64 seq] W (RetOwn 5 W (lebB seq.toNat)) from by have := ref_Bytes_any seq.toNat (by omega) W; rw [hSn] at this; exact this)
  have hY2 := hd_ (fun W => ref_Bytes_any l.length (by omega) W)
  have hne := hd_ (show lebB seq.toNat ≠ [] from fun h => by rw [h] at p1; simp at p1)
  have hl1 := hd_ (show hwi.length + (lebB seq.toNat).length ≤ 140737488355328 by have : hwi.length = 4 := rfl; omega)
  have hl2 := hd_ (show (hwi ++ lebB seq.toNat).length + (lebB l.length).length ≤ 140737488355328 by rw [List.length_append]; have : hwi.length = 4 := rfl; omega)
  have q0 := hbS.cell 0 (v := .int .i64 seq) rfl
  have q1 := hbS.cell 1 (v := .slice A0 l.length c0) rfl
  have kc := fun (w : World) (C : Array Value) (n c : Nat) => Lib.run_convert_bytes_const (P := Try.prog) w 22 5 C n c Try.underlying22 Try.underlying5
  have hHd : hdI seq l = (hwi ++ lebB seq.toNat) ++ lebB l.length := by unfold hdI; rw [List.append_assoc]
  rw [hHd]
  obtain ⟨W0, hW0⟩ : ∃ W0, W0 = w.alloc (.cells (stC seq (.slice A0 l.length c0)) 36) := ⟨_, rfl⟩
  rw [← hW0] at hB0 q0 q1
  have hQ := hd_ (fun W (h : Below W0.heap.size W0 W) => And.intro (cell_keep h q0) (cell_keep h q1))
  have hB0 := hd_ hB0
  unfold stC at hW0
  unfold stC
  have HBl := al1 (Below.refl W0.heap.size W0) (.cells #[.int .u8 104, .int .u8 119, .int .u8 105, .int .u8 49] 5 (4, 5))
  have q0a := cell_keep HBl q0
  have hLt := hd_ (lit_hwi W0)
  have HBl := hd_ HBl
  clear hbS h0 h1 hl hSn b1 b2 p1 hHd HR
  go_enter Try.func43, Try.ntmps43
  go_upto_region 1 with fail
  rw [← hW0]
  clear hW0
  go_upto_region 2 with (first
    | (go_at_call 67; (with_reducible refine (hY1.out _).mono ?_); rintro e w1 ⟨v1, rfl, HO1, HB1⟩)
    | (at_builtin; refine app_fullO ?hw _ _ 22 5 rfl Try.underlying22 infoB ⟨W0.heap.size, 0, none⟩ 4 v1 hwi (lebB seq.toNat) rfl rfl (hLt.out.keep HB1) HO1.rd hne.out hl1.out ?_; (case hw => first | rfl | simp [Region.wanted, yielded]); intro v2 w2 HO2 HB2))
  have hB02 := bel_trans HBl.out (bel_trans HB1 HB2)
  obtain ⟨q0b, q1b⟩ := hQ.out w2 hB02
  have hO2 := hd_ (show Own w2 W0.heap.size 5 v2 (hwi ++ lebB seq.toNat) from ⟨HO2.1, row_base HO2.2 (Nat.le_trans HBl.out.size HB1.size)⟩)
  have hB02 := hd_ hB02
  clear HO1 HB1 HB2 HO2 hLt HBl q0a
  go_wp2_with (first
    | (go_at_call 67; (with_reducible refine (hY2.out _).mono ?_); rintro e w3 ⟨v3, rfl, HO3, HB3⟩; have hO23 := hO2.out.keep HB3; have hB03 := bel_trans hB02.out HB3; have hR3 := HO3.rd)
    | (at_builtin; refine app_bytes (w0 := W0) W0.heap.size rfl _ _ 22 5 rfl Try.underlying22 infoB v2 v3 (hwi ++ lebB seq.toNat) (lebB l.length) rfl rfl hO23 hR3 hB03 hB03.size hl2.out ?_; intro v4 w4 HO4 HB4 hg4 hat4))
  go_ret
  exact ⟨v4, rfl, ⟨HO4.1, row_base HO4.2 hB0.out.size⟩, hB0.out.trans (HB4.mono hB0.out.size)⟩
end Go.Proofs.Ytdmogbkfmeihfaa
