import Derived.Test.YtilmmohkdgmhnaaSpB
namespace Go.Proofs.Ytilmmohkdgmhnaa
open Go.RowKit
set_option maxRecDepth 100000
set_option linter.unusedVariables false
theorem FzRow.grown {W W1 : World} {g n cap : Nat} {l : List Int} {row : Option Nat} (h : FzRow W g n cap l) (hg : W.grownBy W1 row) (hne : some g ≠ row) : FzRow W1 g n cap l := by
  obtain ⟨h1, h2, h3, h4, C, h5, h6⟩ := h
  exact ⟨h1, h2, h3, h4, C, (hg.block g (Array.getElem?_eq_some_iff.1 h5).1 hne).trans h5, h6⟩
theorem FzRow.lt {W : World} {g n cap : Nat} {l : List Int} (h : FzRow W g n cap l) : g < W.heap.size := by
  obtain ⟨h1, h2, h3, h4, C, h5, h6⟩ := h
  exact (Array.getElem?_eq_some_iff.1 h5).1
section
variable {P : Program} {ops : Array Oper} {o : Oper} {a : Act} {K : Act → World → Prop} {Q : Exit → Act → World → Prop} {E : Prop}
theorem step_app_frames {w0 W : World} (base : Nat) (hgd : o.guard = none) (s x : Operand) (t e e8 : TypeId) (z : Value)
    (ho : o.op = .call { callee := .builtin .append, args := #[s, x], argTypes := #[t, t] })
    (ht : P.underlying t = some (.slice e)) (hinfo : (P.info? e).map (fun i => (i.zero, i.size, i.bytes)) = some (some z, 2, 32)) (hzs : z.cells.size = 2) (hne : e ≠ e8)
    (v y : Value) (fs gs : List (Int × List Int)) (hs : a.eval s = v) (hx : a.eval x = y)
    (HF : FrL W base e e8 v fs) (HG : FrL W base e e8 y gs) (HB : Below base w0 W) (hbase : base ≤ W.heap.size) (hl : (fs.length + gs.length) * 32 ≤ 140737488355328)
    (h : ∀ v1 w1, FrL w1 base e e8 v1 (fs ++ gs) → Below base w0 w1 → W.grownBy w1 v.ownBlock → (∀ b cur ty fr, W.heap[b]? = some (.cells cur ty fr) → e ≠ ty → some b ≠ v.ownBlock) → K (a.put o.dst v1) w1) :
    if Region.wanted o (yielded ops a.tmps) = true then Oper.wp P o a W K Q else E := by
  have hw : Region.wanted o (yielded ops a.tmps) = true := by simp [Region.wanted, hgd]
  rw [if_pos hw]
  obtain ⟨us, h1, h2, h3⟩ := HF
  obtain ⟨vs, g1, g2, g3⟩ := HG
  obtain ⟨v1, w1, hr, k1, k2, k3⟩ := run_app (P := P) base t o.type e z 2 32 ht hinfo hzs (by omega) h2 (RdC.own g2) (frCells_one gs vs g1 g3) hbase (by omega) hl
  have hnb : ∀ {v' : Value} {xs : List Int}, Own W base e8 v' xs → Own w1 base e8 v' xs := fun ho => ho.kept k2 (own_types ho.2 h2 (fun e => hne e.symm))
  unfold Oper.wp execOp
  simp only [ho, resolve, invoke, builtin, Sem.run_bind, Sem.run_pure, Result.andThen_ok, List.map_toArray, List.map_cons, List.map_nil, hs, hx, hr]
  refine h v1 w1 ⟨us ++ vs, by simp [h1, g1], ?_, fun i hi => ?_⟩ (HB.grown k2 hbase fun k hk => (h2.lt k hk).1) k2 (fun b cur ty fr hb hn => ?_)
  · rw [frCells_append2 fs gs us vs h1, List.length_append]
    exact k1
  · rw [List.length_append] at hi
    by_cases hlt : i < fs.length
    · rw [getD_left (by omega), getD_left hlt]
      exact hnb (h3 i hlt)
    · have e1 : (us ++ vs).getD i undef = vs.getD (i - fs.length) undef := by
        rw [List.getD_eq_getElem?_getD, List.getD_eq_getElem?_getD, List.getElem?_append_right (by omega), h1]
      have e2 : (fs ++ gs).getD i (0, []) = gs.getD (i - fs.length) (0, []) := by
        rw [List.getD_eq_getElem?_getD, List.getD_eq_getElem?_getD, List.getElem?_append_right (by omega)]
      rw [e1, e2]
      exact hnb (g3 _ (by omega))
  · intro he
    rcases h2.2 with ⟨rfl, _⟩ | ⟨g', cap, cur', rfl, _, hh, _⟩
    · simp [Value.ownBlock] at he
    · have he : b = g' := by simpa [Value.ownBlock] using he
      subst he
      rw [hh] at hb
      injection hb with hb
      injection hb with _ hb
      exact hn hb
end
theorem own_ne_fr {W : World} {base : Nat} {e : TypeId} {size n : Nat} {v : Value} {xs : List Value} (h : W.ownsRow base e size v n xs) {b : Nat} {cur : Array Value} {ty : TypeId} {fr : Nat × Nat} (hb : W.heap[b]? = some (.cells cur ty fr)) (hn : e ≠ ty) : some b ≠ v.ownBlock := by
  intro he
  rcases h.2 with ⟨rfl, _⟩ | ⟨g', cap, cur', rfl, _, hh, _⟩
  · simp [Value.ownBlock] at he
  · have he : b = g' := by simpa [Value.ownBlock] using he
    subst he
    rw [hh] at hb
    injection hb with hb
    injection hb with _ hb
    exact hn hb
def RTurn := RAnd 0 1 (RInt .i64) (RAnd 1 1 (RInt .u32) (RAnd 2 1 (RSl 1 8 (RInt .i64)) RNil))
theorem turn_of {w : World} {cs : Array Value} (hs : cs.size = 3) {x : Int × Int × List Int × Unit} (r : RTurn w cs.toList x) :
    ∃ (at_ mask : Int) (mv : Value) (ms : List Int), cs = #[.int .i64 at_, .int .u32 mask, mv] ∧ (Lit.int .i64 at_).wf = true ∧ (Lit.int .u32 mask).wf = true ∧ RdC 1 w mv ms.length (ms.map (Value.int .i64)) ∧ ∀ x ∈ ms, (Lit.int .i64 x).wf = true := by
  obtain ⟨c0, c1, c2, rfl⟩ := Go.Joins.array3 hs
  obtain ⟨⟨h0, w0⟩, ⟨h1, w1⟩, ⟨v, vs, h2, hR, _, hv⟩, _⟩ := r
  simp at h0 h1 h2
  subst h0; subst h1; subst h2
  refine ⟨_, _, _, x.2.2.1, rfl, w0, w1, ?_, ?_⟩
  · have e : vs = x.2.2.1.map (Value.int .i64) := by
      apply List.ext_getElem?
      intro j
      by_cases hj : j < x.2.2.1.length
      · obtain ⟨a, ha, _, hr, _⟩ := hv j hj
        rw [Nat.mul_one] at hr
        have := congrArg (·[0]?) hr
        simp only [List.getElem?_take_of_lt (by omega : 0 < 1), List.getElem?_drop, Nat.add_zero] at this
        rw [this, List.getElem?_map, ha]; rfl
      · have hl := hR.1
        rw [List.getElem?_eq_none (by omega), List.getElem?_eq_none (by rw [List.length_map]; omega)]
    rw [← e]; exact hR
  · intro y hy
    obtain ⟨j, hj, rfl⟩ := List.mem_iff_getElem.1 hy
    obtain ⟨a, ha, _, _, hw⟩ := hv j hj
    rw [List.getElem?_eq_getElem hj] at ha
    injection ha with ha
    rw [ha]; exact hw
theorem spoilt_joined {w w4 wd w5 w6 : World} {g : Nat} {l1 l2 : List Int} {j1 lo1 : Nat} {lv1 lv2 : Value} {fs1 fs2 : List (Int × List Int)}
    (HS4 : Spl w4 g 1048576 [] 0 0) (hd : Below w4.heap.size w4 wd) (hB4 : Below w.heap.size w w4) (hgw : w.heap.size ≤ g) (HS5 : Spl w5 g 1048576 l1 j1 lo1) (HL5 : FrL w5 wd.heap.size 28 5 lv1 fs1) (HG5 : wd.grownBy w5 (some g))
    (HL6 : FrL w6 w5.heap.size 28 5 lv2 fs2) (HG6 : w5.grownBy w6 (some g)) :
    FrL w6 w.heap.size 28 5 lv1 fs1 ∧ FrL w6 w.heap.size 28 5 lv2 fs2 ∧ Below w.heap.size w w6 := by
  have hBd := bel_trans hB4 hd
  have hB5 := below_row hBd HG5 hgw hBd.size
  refine ⟨?_, HL6.base hB5.size, below_row hB5 HG6 hgw hB5.size⟩
  obtain ⟨v', hbx, _⟩ := HS5
  exact (HL5.boxed hbx HG6 (by decide) (by decide)).base hBd.size
set_option maxHeartbeats 600000 in
theorem law_WholeSpoilt (w : World) (kind : Int) (hkind : (Lit.int .i64 kind).wf = true) (v : Value) (body : List Int) (HR : Rd w v body) (hl : body.length ≤ 140737488351232) (cs : Array Value) (hs : cs.size = 3) (x : Int × Int × List Int × Unit) (r : RTurn w cs.toList x) :
    Calls Try.prog 6 #[.int .i64 kind, v, .agg cs] w fun e w' => e = .returned (.bool true) ∧ Below w.heap.size w w' := by
  obtain ⟨at_, mask, mv, ms, rfl, hat, hmask, HM, hms⟩ := turn_of hs r
  clear r x hs
  obtain ⟨Am, cm, rfl, _⟩ : ∃ A c, mv = .slice A ms.length c ∧ True := by obtain ⟨_, A, c, h, _⟩ := HM; exact ⟨A, c, h, trivial⟩
  obtain ⟨Ab, cb, rfl, hcb⟩ : ∃ A c, v = .slice A body.length c ∧ body.length ≤ 9223372036854775807 := by obtain ⟨A, c, h, _⟩ := HR.form; exact ⟨A, c, h, HR.lt63⟩
  have hb0 := Box.new w #[.int .i64 at_, .int .u32 mask, .slice Am ms.length cm] 46
  have hal := al1 (Below.refl w.heap.size w) (.cells #[.int .i64 at_, .int .u32 mask, .slice Am ms.length cm] 46)
  go_enter Try.func6, Try.ntmps6
  go_upto_region 1 with fail
  generalize w.alloc (.cells #[.int .i64 at_, .int .u32 mask, .slice Am ms.length cm] 46) = W0 at *
  by_cases hbig : 1048576 < body.length
  · have hbI : (1048576 : Int) < (body.length : Int) := by omega
    go_wp2_with (go_at_call 26; refine (top_put_any kind 255 hkind (by omega) (by omega) _).mono ?_; rintro e w' ⟨K, rfl, hK, rfl⟩)
    go_ret
    exact ⟨rfl, hal⟩
  have hbI : ¬ (1048576 : Int) < (body.length : Int) := by omega
  have hb20 : body.length ≤ 1048576 := by omega
  have hbf := Box.new W0 #[.int .i64 0, .slice none 0 0] 28
  have half := al1 (Below.refl W0.heap.size W0) (.cells #[.int .i64 0, .slice none 0 0] 28)
  go_upto_region 5 with (first
    | (go_at_call 26; refine (top_put_any kind 255 hkind (by omega) (by omega) _).mono ?_; rintro e w' ⟨K, rfl, hK, rfl⟩)
    | (refine store_box rfl 28 _ _ rfl W0.heap.size 28 _ #[.int .i64 ((K : Int) + 1), .slice Ab body.length cb] rfl rfl hbf infoF rfl (one2 _ _ _ _ _) ?_; intro w1 hb1 hg1))
  have hlt0 := hb0.lt
  have s0 := hal.size
  have hBf := bel_trans hal half
  have hBW1 := below_row hBf hg1 s0 hBf.size
  have hbT1 := (hb0.keep half).grown hg1 (fun e => by injection e with e; omega)
  have q0 := hb1.cell 0 rfl
  have q1 := hb1.cell 1 rfl
  have hk1 : 1 ≤ (K : Int) + 1 := by omega
  have hk2 : (K : Int) + 1 ≤ 255 := by omega
  clear hb0 hal half hBf hbf hg1 hlt0 s0 hb1 hK
  generalize (K : Int) + 1 = kk at *
  have e1 : encE kk body = 0 := by unfold encE; rw [if_neg (by omega), if_neg (by omega)]
  have e2 : encL kk body = encB kk body := by unfold encL; rw [if_neg (by omega), if_neg (by omega)]
  go_wp2_with fail
  refine (frame_Encode_any kk _ body _ (HR.keep hBW1)).mono ?_
  rintro e w2 ⟨v2, rfl, HO2, HB2⟩
  rw [e1]
  rw [e2] at HO2
  have hL := encB_length kk body
  have hEB := enc_bytes HR.1 hk1 hk2 hb20
  have hbT2 := hbT1.keep HB2
  have hB2 := bel_trans hBW1 HB2
  have hpure : Hid (∀ C, TurnS (encB kk body) C → C ≠ encB kk body → decE C ≠ 0) := hd_ (by
    intro C hC hne
    rcases hC with ⟨s, rfl, h1, h2, h3⟩ | ⟨f, x, m, rfl, h1, h2⟩
    · exact flips_dec HR.1 hk1 hk2 hb20 (by rw [hL] at h1; exact h1) h2 h3 hne
    · exact runs_dec HR.1 hk1 hk2 hb20 h1 (by rw [hL] at h2; exact h2) hne)
  have hlaid : Hid (encB kk body = laidB [(kk, body)]) := hd_ (laidB_one (kk, body)).symm
  have hdecB : Hid (decE (encB kk body) = 0) := hd_ (by have := (dec_enc kk body [] hk1 hb20).1; rwa [List.append_nil] at this)
  have hmayk : Hid (mayB 1048576 (kk, body) = true) := hd_ (by unfold mayB; rw [decide_eq_true ⟨hk1, hk2, hb20⟩, decide_eq_true (by show (body.length : Int) ≤ 1048576; omega)]; rfl)
  generalize encB kk body = B at *
  obtain ⟨A2, c2, rfl, _⟩ := own_slice HO2
  clear e1 e2 hbT1 q0 q1 HB2 hBW1
  have hB14 : Hid (14 ≤ B.length) := hd_ (by omega)
  have hB15 : Hid (B.length ≤ 1048590) := hd_ (by omega)
  rw [hL] at HO2 ⊢
  have HLL := hd_ hL
  clear hL
  have cT0 := hbT2.cell 0 rfl
  have cT1 := hbT2.cell 1 rfl
  have cT2 := hbT2.cell 2 rfl
  go_wp2_with fail
  refine (turned_any _ B at_ mask _ ms _ HO2.rd hB14.out hB15.out hat hmask (HM.keep hB2) hms).mono ?_
  rintro e w3 ⟨gc, cap, C, rfl, HF3, HT3, HB3⟩
  rw [HLL.out] at HF3 ⊢
  have hB3 := bel_trans hB2 HB3
  have HOB3 := HO2.keep HB3
  have hbT3 := hbT2.keep HB3
  obtain ⟨V, hV⟩ : ∃ V, V = Value.slice (some ⟨gc, 0, none⟩) (body.length + 14) cap := ⟨_, rfl⟩
  have hRV : ∀ W, FzRow W gc (body.length + 14) cap C → Rd W V C := fun W h => by rw [hV]; exact h.rd
  have hCl : C.length = body.length + 14 := HF3.2.1
  have hlenV := (hRV _ HF3).2.len (P := Try.prog) 24 5 3 Try.underlying24
  rw [hCl] at hlenV
  have HCL := hd_ hCl
  have HVV := hd_ hV
  have HRV := hd_ hRV
  rw [← hV]
  clear hV hRV hCl HO2 hbT2 cT0 cT1 cT2 hB2 HB3
  go_wp2_with (go_at_call 28; refine (New_ok 1048576 (by decide) (by decide) _).mono ?_; rintro e w4 ⟨rfl, HX4, HB4⟩; have cT0 := (hbT3.keep HB4).cell 0 rfl)
  refine (top_put_any at_ ((body.length : Int) + 14 + 1) hat (by omega) (by omega) _).mono ?_
  rintro e w' ⟨kp, rfl, hkp, rfl⟩
  have hkpC : kp ≤ C.length := by rw [HCL.out]; omega
  have HF4 := HF3.keep HB4
  have HR4 := HRV.out _ HF4
  obtain ⟨u1, hs1, hR1⟩ := HR4.sl_h Try.underlying24 info8 kp hkpC
  obtain ⟨u2, hs2, hR2⟩ := HR4.sl_l Try.underlying24 info8 kp hkpC
  have HS4 : Spl w4 w3.heap.size 1048576 [] 0 0 := ⟨_, HX4, RdB.own (own_nil8 _ 0 _)⟩
  have hgc := HF3.lt
  have hgw := hB3.size
  have hB4 := bel_trans hB3 HB4
  have HOB4 := HOB3.keep HB4
  have hl12 : (C.take kp).length + (C.drop kp).length = body.length + 14 := by rw [List.length_take, List.length_drop, HCL.out]; rw [HCL.out] at hkpC; omega
  have hfl : [C.take kp, C.drop kp].flatten = C := by simp
  have hfe := feedA_all 1048576 [C.take kp, C.drop kp] (by intro p hp; simp only [List.mem_cons, List.not_mem_nil, or_false] at hp; exact hp.elim (fun e => by rw [e]; exact bytes_take HF4.1 _) (fun e => by rw [e]; exact bytes_drop HF4.1 _))
  rw [hfl] at hfe
  generalize w3.heap.size = g at *
  clear HX4 HB4 HF3 hbT3 HOB3 hfl cT0 HR4 hkpC
  have hR2s : ∀ W, FzRow W gc (body.length + 14) cap C → Rd W u2 (C.drop kp) := fun W h => by
    obtain ⟨u', h1, h2⟩ := (HRV.out W h).sl_l Try.underlying24 info8 kp (by rw [HCL.out]; omega)
    have := (hs2 W).symm.trans (h1 W)
    injection this with this
    rw [this]; exact h2
  have HR2S := hd_ hR2s
  clear hR2s
  generalize C.take kp = P1 at *
  generalize C.drop kp = P2 at *
  have hdr := (Below.refl w4.heap.size w4).drew
  have hFd1 := Feed_any g 1048576 [] P1 0 0 u1 w4.drew (HS4.keep hdr) (hR1.keep hdr) (by decide) (by rw [List.length_nil]; omega) (by rw [List.length_nil]; omega) (by rw [List.length_nil]; omega)
  have hb1 := scanA_bounds 1048576 false ([] ++ P1).length ([] ++ P1) [] 0 0 (by rw [List.nil_append]; exact hR1.1)
  have hfe2 : feedA 1048576 [P1, P2] ([], [], 0, 0) = ([] ++ (scanA 1048576 false ([] ++ P1).length ([] ++ P1) [] 0 0).1 ++ (scanA 1048576 false ((scanA 1048576 false ([] ++ P1).length ([] ++ P1) [] 0 0).2.1 ++ P2).length ((scanA 1048576 false ([] ++ P1).length ([] ++ P1) [] 0 0).2.1 ++ P2) [] (scanA 1048576 false ([] ++ P1).length ([] ++ P1) [] 0 0).2.2.1 (scanA 1048576 false ([] ++ P1).length ([] ++ P1) [] 0 0).2.2.2).1, (scanA 1048576 false ((scanA 1048576 false ([] ++ P1).length ([] ++ P1) [] 0 0).2.1 ++ P2).length ((scanA 1048576 false ([] ++ P1).length ([] ++ P1) [] 0 0).2.1 ++ P2) [] (scanA 1048576 false ([] ++ P1).length ([] ++ P1) [] 0 0).2.2.1 (scanA 1048576 false ([] ++ P1).length ([] ++ P1) [] 0 0).2.2.2).2) := rfl
  rw [hfe2] at hfe
  clear hfe2
  simp only [List.nil_append, List.length_nil, Nat.zero_mul, Nat.zero_add] at hb1 hfe
  simp only [List.nil_append] at hFd1
  generalize scanA 1048576 false P1.length P1 [] 0 0 = R1 at *
  obtain ⟨fs1, l1, j1, lo1⟩ := R1
  simp only at hb1 hfe
  have hbR : Hid (fs1.length * 14 + l1.length ≤ P1.length ∧ j1 + l1.length ≤ P1.length ∧ lo1 + l1.length ≤ P1.length) := hd_ hb1
  have hFE := hd_ hfe
  have hL12 := hd_ hl12
  have HDR := hd_ hdr
  clear hb1 hfe hl12 hdr
  have hs1 : ∀ (W : World), Sem.run Try.prog (Instr.slice 24 V none (some (Value.int IntKind.i64 (kp : Int))) none) W = Result.ok u1 W := hs1
  obtain ⟨R2, hR2e⟩ : ∃ R2, scanA 1048576 false (l1 ++ P2).length (l1 ++ P2) [] j1 lo1 = R2 := ⟨_, rfl⟩
  rw [hR2e] at hFE
  have hFd2 : ∀ w5, Spl w5 g 1048576 l1 j1 lo1 → Rd w5 u2 P2 → Calls Try.prog 29 #[.pointer (some ⟨g, 0, none⟩), u2] w5 (SplRet w5 g 1048576 R2) := fun w5 a b => by
    have := Feed_any g 1048576 l1 P2 j1 lo1 u2 w5 a b (by decide) (by have := hbR.out; have := hL12.out; omega) (by have := hbR.out; have := hL12.out; omega) (by have := hbR.out; have := hL12.out; omega)
    rw [hR2e] at this
    exact this
  have hb2 : ∀ w5, Spl w5 g 1048576 l1 j1 lo1 → R2.1.length * 14 + R2.2.1.length ≤ body.length + 14 ∧ R2.2.2.1 + R2.2.1.length ≤ body.length + 14 ∧ R2.2.2.2 + R2.2.1.length ≤ body.length + 14 := fun w5 a => by
    have := scanA_bounds 1048576 false (l1 ++ P2).length (l1 ++ P2) [] j1 lo1 (bytes_append (by obtain ⟨_, _, hr⟩ := a; exact hr.1.1) hR2.1)
    rw [hR2e, List.length_append, List.length_nil] at this
    have h1 := hbR.out
    have h2 := hL12.out
    omega
  have HB2' := hd_ hb2
  have HFD2 := hd_ hFd2
  clear hb2 hFd2 hR2e
  obtain ⟨fs2, l2, j2, lo2⟩ := R2
  go_upto_region 13 with fail
  go_region_law (first
    | (go_simp; go_at_call 29; (with_reducible refine hFd1.mono ?_); intro e w5 hret; obtain ⟨lv1, he, HS5, HL5, HG5⟩ := id hret; subst he; clear hret; (try simp only at HS5 HL5); have HF5 := (HF4.keep HDR.out).grown HG5 (fun e => by injection e with e; omega))
    | (refine step_app_frames (w0 := w) w.heap.size rfl _ _ 52 28 5 (.agg #[.int .i64 0, .slice none 0 0]) rfl Try.underlying52 infoFr rfl (by decide) lv1 lv2 fs1 fs2 (by simp [Act.eval, Act.put]) (by simp [Act.eval, Act.put]) HL16 HL26 hB6 hB6.size (by have := hbR.out; have := hL12.out; have := HB2'.out _ HS5; omega) ?_; intro v7 w7 HF7 HB7 hg7 hk7)
    | (go_simp; go_at_call 29; (with_reducible refine (HFD2.out _ HS5 (HR2S.out _ HF5)).mono ?_); intro e w6 hret; obtain ⟨lv2, he, HS6, HL6, HG6⟩ := id hret; subst he; clear hret; (try simp only at HS6 HL6); have hBd5 := bel_trans hB4 HDR.out; have hB5 := below_row hBd5 HG5 hgw hBd5.size; have hB6 := below_row hB5 HG6 hgw hB5.size; have HL26 := HL6.base hB5.size; obtain ⟨v', hbx, _⟩ := id HS5; have HL16 := (HL5.boxed hbx HG6 (by decide) (by decide)).base hBd5.size))
  have hne7 : some g ≠ lv1.ownBlock := by obtain ⟨_, hb, _⟩ := id HS6; exact hk7 g _ _ _ hb (by decide)
  have HS7 : Spl w7 g 1048576 l2 j2 lo2 := HS6.grown hg7 hne7 (fun b cur h => hk7 b cur _ _ h (by decide))
  have HF7c : FzRow w7 gc (body.length + 14) cap C := (HF5.grown HG6 (fun e => by injection e with e; omega)).grown hg7 (by obtain ⟨_, _, _, _, Cc, h5, _⟩ := HF5.grown HG6 (fun e => by injection e with e; omega); exact hk7 gc _ _ _ h5 (by decide))
  have hbb := HB2'.out _ HS5
  have HOB7 : Own w7 w1.heap.size 5 (.slice A2 (body.length + 14) c2) B := by
    obtain ⟨_, hb4, _⟩ := HS4.keep HDR.out
    obtain ⟨_, hb5, _⟩ := id HS5
    have k4 := HOB4.keep HDR.out
    have k5 := k4.kept HG5 (own_ne k4.2 hb4 (by decide))
    have k6 := k5.kept HG6 (own_ne k5.2 hb5 (by decide))
    obtain ⟨us, _, h2, _⟩ := id HL16
    exact k6.kept hg7 (own_types k6.2 h2 (by decide))
  clear HS5 HL5 HG5 HF5 HS6 HL6 HG6 hBd5 hB5 hB6 HL26 HL16 hbx hg7 hk7 hne7 HS4 hB4 hR1 hR2 hFd1
  have hEn := End_any g 1048576 l2 j2 lo2 w7 HS7 (by decide) (by omega) (by omega) (by omega)
  have hEb := scanA_bounds 1048576 true l2.length l2 [] j2 lo2 (by obtain ⟨_, _, hr⟩ := id HS7; exact hr.1.1)
  obtain ⟨E, hE⟩ : ∃ E, scanA 1048576 true l2.length l2 [] j2 lo2 = E := ⟨_, rfl⟩
  rw [hE] at hEn hEb
  rw [List.length_nil] at hEb
  have hl32 : Hid (((fs1 ++ fs2).length + E.1.length) * 32 ≤ 140737488355328) := hd_ (by have := hbR.out; have := hL12.out; rw [List.length_append]; omega)
  have HE := hd_ hE
  clear hE hEb hbb
  go_wp2_with fail
  refine hEn.mono ?_
  rintro e w8 ⟨lv8, rfl, HS8, HL8, HG8⟩
  have HF78 : FrL w8 w.heap.size 28 5 v7 (fs1 ++ fs2) := by
    obtain ⟨v', hbx, _⟩ := HS7
    exact HF7.boxed hbx HG8 (by decide) (by decide)
  have HL8b := HL8.base HB7.size
  have hB8 : Below w.heap.size w w8 := below_row HB7 HG8 hgw HB7.size
  have HFz8 := HF7c.grown HG8 (fun e => by injection e with e; omega)
  have HOB8 : Own w8 w1.heap.size 5 (.slice A2 (body.length + 14) c2) B := by
    obtain ⟨_, hb7, _⟩ := id HS7
    exact HOB7.kept HG8 (own_ne HOB7.2 hb7 (by decide))
  clear HS7 HF7 HL8 HS8 HG8 HF7c HB7 hEn
  clear HOB7 HOB4
  go_upto_region 15 with (at_builtin; (refine app_frames (w0 := w) w.heap.size rfl _ _ 52 28 5 (.agg #[.int .i64 0, .slice none 0 0]) rfl Try.underlying52 infoFr rfl (by decide) v7 lv8 (fs1 ++ fs2) E.1 rfl rfl HF78 HL8b hB8 hB8.size hl32.out ?_); intro v9 w9 HF9 HB9 hg9 hk9)
  have HFz9 : FzRow w9 gc (body.length + 14) cap C := by
    obtain ⟨us, _, h2, _⟩ := id HF78
    obtain ⟨_, _, _, _, Cc, h5, _⟩ := id HFz8
    exact HFz8.grown hg9 (own_ne_fr h2 h5 (by decide))
  have HOB9 : Own w9 w1.heap.size 5 (.slice A2 (body.length + 14) c2) B := by
    obtain ⟨us, _, h2, _⟩ := id HF78
    exact HOB8.kept hg9 (own_types HOB8.2 h2 (by decide))
  clear HF78 HL8b hB8 HFz8 HOB8 hg9 hk9 hl32
  go_wp2_with fail
  refine (frame_Decode_any V C w9 (HRV.out _ HFz9)).mono ?_
  rintro e w10 ⟨v10, rfl, HO10, HB10⟩
  have HF10 := HF9.keep HB10
  have hB10 := bel_trans HB9 HB10
  have hLL : ∀ i, i < ((fs1 ++ fs2) ++ E.1).length → True := fun _ _ => trivial
  clear hLL HO10
  go_wp2_with fail
  refine (top_Same_any _ V B C w10 (HOB9.rd.keep HB10) (HRV.out _ (HFz9.keep HB10))).mono ?_
  rintro e w' ⟨rfl, rfl⟩
  by_cases hBC : B = C
  · have hp : (fs1 ++ fs2) ++ E.1 = [(kk, body)] := by
      have h := (scanA_frames 1048576 [(kk, body)] [] 0 0 (by intro f hf; rw [List.mem_singleton] at hf; rw [hf]; exact ⟨hmayk.out, HR.1⟩)).2
      rw [← hlaid.out, hBC, ← hFE.out] at h
      simp only [List.nil_append, Prod.mk.injEq] at h
      obtain ⟨h1, h2, h3, h4⟩ := h
      have hE := HE.out
      rw [h2] at hE
      rw [h1, ← hE]
      rfl
    have hd0 : decE C = 0 := by rw [← hBC]; exact hdecB.out
    rw [hp] at HF10
    obtain ⟨bl, o1, A1, c1, i1, p1, q1, r1⟩ := HF10.at 0 (by simp)
    simp only [List.getD_cons_zero] at p1 q1 r1
    have hlenL : ∀ W', Sem.run Try.prog (Builtin.len_ #[52] 3 #[v9]) W' = Result.ok (.int .i64 1) W' := HF10.rdf.len
    have i1 : ∀ W', Sem.run Try.prog (Instr.indexAt 52 v9 (.int .i64 0)) W' = .ok (.pointer (some ⟨bl, o1, none⟩)) W' := i1
    rw [decide_eq_true hBC, hd0]
    have hRb := HR.keep hB10
    clear hp hBC hd0
    go_wp2_with (go_at_call 31; refine (top_Same_any _ _ body body _ r1 hRb).mono ?_; rintro e w' ⟨rfl, rfl⟩; rw [decide_eq_true rfl])
    go_ret
    exact ⟨rfl, hB10⟩
  · have hD := hpure.out C HT3 (fun e => hBC e.symm)
    have hsh : ∀ f ∈ (fs1 ++ fs2) ++ E.1, f.2.length < body.length := by
      have h := found_short (n := body.length) HFz9.1 HCL.out hD
      unfold foundIn at h
      rw [← hFE.out] at h
      simp only at h
      rw [HE.out] at h
      exact h
    rw [decide_eq_false hBC]
    generalize (fs1 ++ fs2) ++ E.1 = L at *
    have hDb : (decE C != 0) = true := by simpa using hD
    generalize decE C = dE at *
    have hlenL := HF10.rdf.len
    go_wp2
    have hLsz := HF10.rdf.size
    go_loopw [108] (fun vi wr => ∃ k : Nat, k ≤ L.length ∧ vi = .int .i64 k ∧ Below w10.heap.size w10 wr) (fun i _ => L.length - (intOf i).toNat)
    case atStart => exact ⟨0, Nat.zero_le _, rfl, Below.refl _ _⟩
    case round =>
      obtain ⟨k, hk, rfl, HB⟩ := hrel
      by_cases hlt : k < L.length
      · obtain ⟨bl, o1, A1, c1, i1, p1, q1, r1⟩ := HF10.at k hlt
        have hfm := hsh (L.getD k (0, [])) (by rw [List.getD_eq_getElem?_getD, List.getElem?_eq_getElem hlt]; exact List.getElem_mem hlt)
        have p2 := cell_keep HB p1
        have q2 := cell_keep HB q1
        generalize L.getD k (0, []) = f at *
        obtain ⟨fk, fb⟩ := f
        simp only at hfm p2 q2
        have hlI : (k : Int) < (L.length : Int) := by omega
        have hfmI : (fb.length : Int) < (body.length : Int) := by omega
        have hne1 : ((fb.length : Int) == (body.length : Int)) = false := by rw [beq_eq_false_iff_ne]; omega
        have hbf := Box.new wr #[.int .i64 0, .slice none 0 0] 28
        have half := al1 (Below.refl wr.heap.size wr) (.cells #[.int .i64 0, .slice none 0 0] 28)
        go_upto_region 21 with (refine store_box rfl 28 _ _ rfl wr.heap.size 28 _ #[.int .i64 fk, .slice A1 fb.length c1] rfl rfl hbf infoF rfl (one2 _ _ _ _ _) ?_; intro w11 hb11 hg11)
        have b0 := hb11.cell 0 rfl
        have b1 := hb11.cell 1 rfl
        have hBh := bel_trans HB half
        have hB11 : Below w10.heap.size w10 w11 := below_row hBh hg11 HB.size hBh.size
        clear hbf half hg11 hb11
        by_cases hfk : fk = kk
        · go_wp2
          go_roundw
          case rel => exact ⟨k + 1, by omega, by go_num, hB11⟩
          case measure => (simp [intOf]; try omega)
        · have hfkb : (fk == kk) = false := by rw [beq_eq_false_iff_ne]; exact hfk
          go_wp2
          go_roundw
          case rel => exact ⟨k + 1, by omega, by go_num, hB11⟩
          case measure => (simp [intOf]; try omega)
      · obtain rfl : k = L.length := by omega
        go_wp2
        go_ret
        exact ⟨rfl, bel_trans hB10 HB⟩
end Go.Proofs.Ytilmmohkdgmhnaa
