/- The law PackMade (bounded). -/
import Derived.Test.YtlaeiipiboabaaaMdF
namespace Go.Proofs.Ytlaeiipiboabaaa
open Go.RowKit
set_option maxRecDepth 100000
set_option linter.unusedVariables false
section
variable {P : Program} {ops : Array Oper} {rest : List Oper} {o : Oper} {a : Act} {Q : Exit → Act → World → Prop}
/-- a guarded load of a whole variable -/
theorem load_boxG {W : World} (hw : Region.wanted o (yielded ops a.tmps) = true) (ty : TypeId) (x : Operand) (ho : o.op = .load ty x) (g : Nat) (t : TypeId) (cs : Array Value) (d : TypeDesc)
    (hx : a.eval x = .pointer (some ⟨g, 0, none⟩)) (hb : Box W g t cs) (hu : P.underlying ty = some d) (hd : (match d with | .struct _ | .array _ _ => true | _ => false) = true) (hi : (P.info? ty).map (·.size) = some cs.size)
    (h : wpList P ops Q rest (a.put o.dst (.agg cs)) W) : wpList P ops Q (o :: rest) a W := by
  unfold wpList
  rw [if_pos hw]
  refine .inl ?_
  unfold Oper.wp execOp
  simp only [ho, hx, Instr.loadAt, Instr.sureAddr, Sem.run_bind, Sem.run_pure, Result.andThen_ok, run_load_box ty g t cs d hb hu hd hi]
  exact h
end
def opSz (a : OpT) : Nat := a.2.2.2.2.1.size + a.2.2.2.2.2.2.2.1.1.size + a.2.2.2.2.2.2.2.1.2.1.size
theorem sz_sum : ∀ x : List OpT, (x.map opSz).sum + x.length ≤ (x.map (fun a : OpT => 1 + (1 + (1 + (1 + (a.2.2.2.2.1.size + 1 + (1 + (1 + (a.2.2.2.2.2.2.2.1.1.size + 1 + (a.2.2.2.2.2.2.2.1.2.1.size + 1 + (1 + 0)) + 1 + 0))))))) + 1)).sum
  | [] => by simp
  | a :: x => by
    have := sz_sum x
    simp only [List.map_cons, List.sum_cons, List.length_cons]
    have e : opSz a = a.2.2.2.2.1.size + a.2.2.2.2.2.2.2.1.1.size + a.2.2.2.2.2.2.2.1.2.1.size := rfl
    omega
theorem sz_take (x : List OpT) (k : Nat) (h : k < x.length) (a : OpT) (ha : x[k]? = some a) : ((x.take (k + 1)).map opSz).sum = ((x.take k).map opSz).sum + opSz a := by
  rw [List.take_add_one, ha, List.map_append, List.sum_append]
  simp
theorem sz_take_le (x : List OpT) (k : Nat) : ((x.take k).map opSz).sum ≤ (x.map opSz).sum := by
  have : (x.map opSz).sum = ((x.take k).map opSz).sum + ((x.drop k).map opSz).sum := by rw [← List.sum_append, ← List.map_append, List.take_append_drop]
  omega
theorem opC_one (call V n most : Int) (S : ByteArray) (F : Bool) (ds : List Int) (k u : ByteArray) (m : Int) : (opC call V n most S F ds k u m).all (·.oneCell') = true := by
  unfold opC
  rw [Array.all_append, Array.all_append, u8A_one, rowC_one]
  simp [Value.oneCell']
theorem infoOp : (Try.prog.info? 53).map (fun i => (i.zero.isSome, i.size)) = some (true, 41) := by kernel_rfl
theorem infoOpZ : ∃ z b, (Try.prog.info? 53).map (fun i => (i.zero, i.size, i.bytes)) = some (some z, 41, b) := by
  have h := infoOp
  cases hi : Try.prog.info? 53 with
  | none => rw [hi] at h; cases h
  | some i =>
    rw [hi] at h
    simp only [Option.map_some, Option.some.injEq, Prod.mk.injEq] at h
    obtain ⟨h1, h2⟩ := h
    obtain ⟨z, hz⟩ := Option.isSome_iff_exists.1 h1
    exact ⟨z, i.bytes, by simp [hz, h2]⟩
theorem infoOp2 : (Try.prog.info? 53).map (·.size) = some 41 := by kernel_rfl
theorem wrap_k1 (k : Nat) (h : k ≤ 1048576) : wrap64 ((k : Int) + 1) = (k : Int) + 1 := by unfold wrap64; omega
theorem meas_k1 (k n : Nat) (h : k < n) : n - ((k : Int) + 1).toNat < n - k := by omega
set_option maxHeartbeats 4000000 in
theorem law_PackMade (w : World) (v : Value) (x : List OpT) (r : RSl 41 128 ROp w [v] x) (t : (x.map (fun a : OpT => 1 + (1 + (1 + (1 + (a.2.2.2.2.1.size + 1 + (1 + (1 + (a.2.2.2.2.2.2.2.1.1.size + 1 + (a.2.2.2.2.2.2.2.1.2.1.size + 1 + (1 + 0)) + 1 + 0))))))) + 1)).sum + 1 ≤ 1048576) :
    Calls Try.prog 13 #[v] w fun e w' => e = .returned (.bool true) ∧ Below w.heap.size w w' := by
  have hsz := hd_ (show (x.map opSz).sum + x.length ≤ 1048576 by have := sz_sum x; omega)
  obtain ⟨v', vs, hv, hR, hBB, hx⟩ := r
  injection hv with hv
  subst hv
  have hRH := hd_ hR
  have hxH := hd_ hx
  obtain ⟨hvl, A, cap, rfl, hc1, hc2, _, _⟩ := hR
  clear hx hBB t
  go_enter Try.func13, Try.ntmps13
  go_upto_region 6 with fail
  have hbz := (Box.new w #[.int .i64 0, .slice none 0 0, .int .i64 0, .bool false] 86).keep (al1 (Below.refl _ _) (.cells #[.slice none 0 0, .int .i64 0] 48))
  have hbw := Box.new (w.alloc (.cells #[.int .i64 0, .slice none 0 0, .int .i64 0, .bool false] 86)) #[.slice none 0 0, .int .i64 0] 48
  have hBB := al1 (al1 (Below.refl w.heap.size w) (.cells #[.int .i64 0, .slice none 0 0, .int .i64 0, .bool false] 86)) (.cells #[.slice none 0 0, .int .i64 0] 48)
  rw [World.size_alloc] at hbw
  generalize (w.alloc (.cells #[.int .i64 0, .slice none 0 0, .int .i64 0, .bool false] 86)).alloc (.cells #[.slice none 0 0, .int .i64 0] 48) = W0 at *
  obtain ⟨gx, hgx⟩ : ∃ gx, gx = w.heap.size + 1 := ⟨_, rfl⟩
  rw [← hgx] at hbw ⊢
  have hX0 := hd_ (show Xr W0 gx (.slice none 0 0) (0, []) from ⟨hbw, own_nil8 _ _ _⟩)
  have hst := hd_ (And.intro hbz hBB)
  have hgH := hd_ hgx
  clear hbz hbw hBB hgx
  go_loopw [15] (fun vi wr => ∃ (k : Nat) (vx : Value) (s : WS), k ≤ x.length ∧ vi = .int .i64 (k : Int) ∧ Xr wr gx vx s ∧ s.2.length ≤ 64 * k + ((x.take k).map opSz).sum ∧ (∀ b, vx.ownBlock = some b → w.heap.size + 1 < b) ∧ Box wr w.heap.size 86 #[.int .i64 0, .slice none 0 0, .int .i64 0, .bool false] ∧ Below w.heap.size w wr) (fun vi _ => x.length - (intOf vi).toNat)
  case atStart => exact ⟨0, _, _, Nat.zero_le _, rfl, hX0.out, by simp, fun b hb => absurd hb (by simp [Value.ownBlock]), hst.out.1, hst.out.2⟩
  case round =>
    clear hX0 hst
    obtain ⟨k, vx, s, hk, rfl, hX, hs, hvx, hbz, hB⟩ := hrel
    by_cases hlt : k < x.length
    · have hkI : (k : Int) < (x.length : Int) := by omega
      obtain ⟨a, ha, hal, hra⟩ := hxH.out k hlt
      obtain ⟨V, hV, hVe, hcs, hd, hdb, hn, hm0, hm⟩ := op_cells hra hal
      have hsa := sz_take x k hlt a ha
      have hsl := sz_take_le x (k + 1)
      have hea : opSz a = a.2.2.2.2.1.size + a.2.2.2.2.2.2.2.1.1.size + a.2.2.2.2.2.2.2.1.2.1.size := rfl
      obtain ⟨call, V0, n, most, S, F, ds, ⟨kk, u, m, u1⟩, u2⟩ := a
      simp only at hVe hcs hd hdb hn hm0 hm hea
      subst hVe
      have hszz := hsz.out
      have hlen := wStep_len s call n most m V hV S kk u F ds hd hn hm (by omega) (by omega) (by omega)
      obtain ⟨C, hC⟩ : ∃ C, C = opC call (V : Int) n most S F ds kk u m := ⟨_, rfl⟩
      rw [← hC] at hcs
      have hCz : C.size = 41 := by rw [hC]; exact opC_size _ _ _ _ _ _ _ hd _ _ _
      obtain ⟨zO, bO, hzO⟩ := infoOpZ
      obtain ⟨bl, off, hix, hcell⟩ := hRH.out.whole Try.underlying39 hzO .i64 k hlt (by omega) C hcs hCz
      have hce := hd_ (cells_keep hcell hB)
      have hiO : (Try.prog.info? 53).map (·.size) = some C.size := by rw [hCz]; exact infoOp2
      have hC1 : C.all (·.oneCell') = true := by rw [hC]; exact opC_one _ _ _ _ _ _ _ _ _ _
      have hC0 : C[0]? = some (.int .i64 call) := by rw [hC]; exact opC_lo _ _ _ _ _ _ _ _ _ _ 0 (by decide)
      have hC2 : C[2]? = some (.int .i64 n) := by rw [hC]; exact opC_lo _ _ _ _ _ _ _ _ _ _ 2 (by decide)
      have hC3 : C[3]? = some (.int .i64 most) := by rw [hC]; exact opC_lo _ _ _ _ _ _ _ _ _ _ 3 (by decide)
      have hwr := hd_ (fun W (h : Xr W gx vx s) => show Calls Try.prog 25 #[.pointer none, .pointer (some ⟨gx, 0, none⟩), .agg C] W (XrRet W gx vx (wStep s call V n most S F ds kk u m)) by rw [hC]; exact Z_write gx vx s call n most m V S kk u F ds W h hV hn hd hdb hm0 hm (by omega))
      have hno := hd_ (fun W r (h : NoR W r) => N_none r C call n most W h hC0 hC2 hC3)
      obtain ⟨s2, hs2⟩ : ∃ s2, s2 = wStep s call V n most S F ds kk u m := ⟨_, rfl⟩
      rw [← hs2] at hwr hlen
      have hnx := hd_ (show s2.2.length ≤ 64 * (k + 1) + ((x.take (k + 1)).map opSz).sum by omega)
      have hcur := hd_ (And.intro hX (And.intro hvx (And.intro hbz hB)))
      have hkx := hd_ hlt
      clear hcs hcell hX hs hvx hbz hB hlen hs2 hsa hsl hea hszz ha hal hra hC hC0 hC2 hC3 hd hdb hn hm0 hm hV hzO hk
      go_upto_region 8 with (first
        | (refine load_at rfl 53 _ rfl bl off C _ rfl hce.out Try.underlying53 rfl hiO ?_)
        | (refine store_box rfl 53 _ _ rfl _ _ _ C rfl rfl (Box.new _ _ _) hiO (by rw [hCz]; rfl) hC1 ?_; intro w5 hb5 hg5))
      have HB5 := below_row (al1 (Below.refl wr.heap.size wr) _) hg5 (Nat.le_refl _) (size_al _ _)
      have hX5 := hd_ (hcur.out.1.keep HB5)
      have hz5 := hd_ (hcur.out.2.2.1.keep HB5)
      have HW5 := hd_ (bel_trans hcur.out.2.2.2 HB5)
      have hlts := hd_ (And.intro hcur.out.1.1.lt (fun kk e => (own_lt hcur.out.1.2 kk e).2 : ∀ kk, vx.ownBlock = some kk → kk < wr.heap.size))
      simp only [Act.put]
      clear hg5 HB5
      go_upto_region 9 with (first
        | (refine load_box rfl 53 _ rfl wr.heap.size 53 C _ rfl hb5 Try.underlying53 rfl hiO ?_)
        | (go_at_call 25; (with_reducible refine (hwr.out _ hX5.out).mono ?_); rintro e w6 ⟨rfl, v6, hX6, hC6, ho6⟩))
      have hb6 := hb5.chg hC6 (fun e => by
        rcases e with e | e
        · have := hlts.out.1; omega
        · have := hlts.out.2 _ e.symm; omega)
      have hz6 := hd_ (hz5.out.chg hC6 (fun e => by
        rcases e with e | e
        · have := hgH.out; omega
        · have := hcur.out.2.1 _ e.symm; omega))
      have HW6 := hd_ (Chg.then HW5.out hC6 (fun b e => by
        rcases e with e | e
        · have := hgH.out; omega
        · have := hcur.out.2.1 _ e.symm; omega) HW5.out.size)
      have hv6 := hd_ (show ∀ b, v6.ownBlock = some b → w.heap.size + 1 < b from fun b e => by
        rcases ho6 with h | ⟨kk, h, h2⟩
        · exact hcur.out.2.1 b (h ▸ e)
        · rw [h] at e
          injection e with e
          have := hgH.out
          have := hX5.out.1.lt
          omega)
      have hX6H := hd_ hX6
      have hnil := hd_ (fun W => (show NoR W (.pointer none) from .inl rfl))
      have hzN := hd_ (fun W (h : Below w6.heap.size w6 W) => (show NoR W (.pointer (some ⟨w.heap.size, 0, none⟩)) from .inr ⟨_, rfl, hz6.out.keep h⟩))
      clear hb5 hX6 hC6 ho6
      go_wp2_with (first
        | (refine load_box rfl 53 _ rfl wr.heap.size 53 C _ rfl hb6 Try.underlying53 rfl hiO ?_)
        | (go_at_call 48; (with_reducible refine (hno.out _ _ (hnil.out _)).mono ?_); rintro e w7 ⟨rfl, HB7⟩; have hb7 := hb6.keep HB7)
        | (refine load_boxG rfl 53 _ rfl wr.heap.size 53 C _ rfl hb7 Try.underlying53 rfl hiO ?_)
        | (go_at_call 48; (with_reducible refine (hno.out _ _ (hzN.out _ HB7)).mono ?_); rintro e w8 ⟨rfl, HB8⟩))
      have HB78 := bel_trans HB7 HB8
      have hxl : x.length ≤ 1048576 := by have := hsz.out; omega
      have hw1 : wrap64 ((k : Int) + 1) = (k : Int) + 1 := wrap_k1 k (by omega)
      have hI1 : (Value.int IntKind.i64 (wrap64 ((k : Int) + 1))) = .int .i64 ((k : Int) + 1) := congrArg _ hw1
      go_roundw
      case rel => exact ⟨k + 1, v6, s2, hkx.out, by first | (rw [hw1]; push_cast; rfl) | (simp only [hw1, IntKind.wrap_i64]; push_cast; rfl), hX6H.out.keep HB78, hnx.out, hv6.out, hz6.out.keep HB78, bel_trans HW6.out HB78⟩
      case measure => rw [hI1]; exact meas_k1 _ _ hkx.out
    · obtain rfl : k = x.length := by omega
      have hBH := hd_ hB
      clear hX hs hvx hbz hB
      go_wp2_with (first
        | (go_at_call 23; (with_reducible refine (Z_Bytes _).mono ?_); rintro e w1 ⟨rfl, HB1⟩)
        | (go_at_call 47; (with_reducible refine (Z_Size _).mono ?_); rintro e w2 ⟨rfl, HB2⟩))
      go_ret
      exact ⟨rfl, bel_trans hBH.out (bel_trans HB1 HB2)⟩
end Go.Proofs.Ytlaeiipiboabaaa
