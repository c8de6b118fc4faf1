/- The law FrameSplits: a splitter's whole life against the document's streams. -/
import Derived.Test.YtilmmohkdgmhnaaFrameEb
import Derived.Test.YtilmmohkdgmhnaaFrameHb
import Derived.Test.YtilmmohkdgmhnaaFrameM
import Derived.Test.YtilmmohkdgmhnaaFrameW
namespace Go.Proofs.Ytilmmohkdgmhnaa
open Go.RowKit
set_option maxRecDepth 100000
set_option linter.unusedVariables false
theorem infoStep : (Try.prog.info? 66).map (·.size) = some 3 := by kernel_rfl
theorem infoSteps : (Try.prog.info? 66).map (fun i => (i.zero, i.size, i.bytes)) = some (some (.agg #[.slice none 0 0, .bool false, .bool false]), 3, 32) := by kernel_rfl
theorem step_one (A : Option Addr) (n c : Nat) (x y : Bool) : (#[Value.slice A n c, .bool x, .bool y]).all (·.oneCell') = true := by simp [Value.oneCell']
abbrev StepT := List Int × Bool × Bool × Unit
def RStep := RAnd 0 1 RBytes (RAnd 1 1 RBool (RAnd 2 1 RBool RNil))
def stp (x : List StepT) (k : Nat) : StepT := x.getD k ([], false, false, ())
theorem step_at {w : World} {v : Value} {x : List StepT} (h : RSl 3 32 RStep w [v] x) (k : Nat) (hk : k < x.length) :
    ∃ bl off A c, (∀ W', Sem.run Try.prog (Instr.indexAt 64 v (.int .i64 (k : Int))) W' = .ok (.pointer (some ⟨bl, off, none⟩)) W') ∧ w.cell? ⟨bl, off, none⟩ = some (.slice A (stp x k).1.length c) ∧ w.cell? ⟨bl, off + 1, none⟩ = some (.bool (stp x k).2.1) ∧ w.cell? ⟨bl, off + 2, none⟩ = some (.bool (stp x k).2.2.1) ∧ Rd w (.slice A (stp x k).1.length c) (stp x k).1 := by
  obtain ⟨v', vs, hv, h1, _, h3⟩ := h
  injection hv with hv
  subst hv
  obtain ⟨bl, off, k1, k2⟩ := h1.at (P := Try.prog) Try.underlying64 infoSteps .i64 k hk (by omega)
  obtain ⟨a, ha, hln, hr⟩ := h3 k hk
  have e1 : stp x k = a := by unfold stp; rw [List.getD_eq_getElem?_getD, ha]; rfl
  rw [e1]
  obtain ⟨c, hc⟩ : ∃ c, (vs.drop (k * 3)).take 3 = c := ⟨_, rfl⟩
  rw [hc] at hr hln
  have g : ∀ j, j < 3 → vs[k * 3 + j]? = c[j]? := fun j hj => by rw [← hc, List.getElem?_take_of_lt hj, List.getElem?_drop]
  match c, hln, hr, g with
  | [c0, c1, c2], _, hr, g =>
    obtain ⟨⟨u, r2, r3, _⟩, r4, r5, _⟩ := hr
    unfold RBool at r4 r5
    simp only [List.drop_zero, List.take_succ_cons, List.take_zero, List.drop_succ_cons, List.cons.injEq, and_true] at r2 r4 r5
    obtain ⟨A, cp, hu, _⟩ := r3.form
    rw [hu] at r2 r3
    have p0 := k2 0 (by omega)
    have p1 := k2 1 (by omega)
    have p2 := k2 2 (by omega)
    rw [g 0 (by omega), Nat.add_zero] at p0
    rw [g 1 (by omega)] at p1
    rw [g 2 (by omega)] at p2
    exact ⟨bl, off, A, cp, k1, by rw [p0, r2]; rfl, by rw [p1, r4]; rfl, by rw [p2, r5]; rfl, r3⟩
def restB (x : List StepT) (k : Nat) : Nat := ((x.drop k).map fun a => a.1.length).sum
theorem restB_step {x : List StepT} {k : Nat} (hk : k < x.length) : restB x k = (stp x k).1.length + restB x (k + 1) := by
  unfold restB stp
  rw [List.drop_eq_getElem_cons hk, List.map_cons, List.sum_cons, List.getD_eq_getElem?_getD, List.getElem?_eq_getElem hk]
  rfl
theorem restB_le (x : List StepT) : restB x 0 + x.length ≤ (x.map (fun a : StepT => (a.1.length + 1 + (1 + (1 + 0))) + 1)).sum := by
  unfold restB
  rw [List.drop_zero]
  induction x with
  | nil => exact Nat.le_refl _
  | cons a x ih => simp only [List.map_cons, List.sum_cons, List.length_cons] at ih ⊢; omega
theorem FrL.old {w w1 : World} {base : Nat} {eF e8 : TypeId} {lv : Value} {fs : List (Int × List Int)} {row : Option Nat} (h : FrL w base eF e8 lv fs) (hg : w.grownBy w1 row) (hlt : ∀ k, row = some k → k < base) : FrL w1 base eF e8 lv fs := by
  obtain ⟨us, h1, h2, h3⟩ := h
  have hn : ∀ {e : TypeId} {size n : Nat} {v : Value} {xs : List Value}, w.ownsRow base e size v n xs → v.ownBlock = none ∨ v.ownBlock ≠ row := by
    intro e size n v xs ho
    cases hv : v.ownBlock with
    | none => exact .inl rfl
    | some b =>
      refine .inr fun he => ?_
      have := (ho.lt b hv).1
      have := hlt b he.symm
      omega
  exact ⟨us, h1, h2.kept hg (hn h2), fun i hi => (h3 i hi).kept hg (hn (h3 i hi).2)⟩
theorem FrL.atG {W : World} {base : Nat} {lv : Value} {fs : List (Int × List Int)} (h : FrL W base 33 5 lv fs) (i : Nat) (hi : i < fs.length) :
    ∃ bl off A c, (∀ W', Sem.run Try.prog (Instr.indexAt 67 lv (.int .i64 (i : Int))) W' = .ok (.pointer (some ⟨bl, off, none⟩)) W') ∧ W.cell? ⟨bl, off, none⟩ = some (.int .i64 (fs.getD i (0, [])).1) ∧ W.cell? ⟨bl, off + 1, none⟩ = some (.slice A (fs.getD i (0, [])).2.length c) ∧ Rd W (.slice A (fs.getD i (0, [])).2.length c) (fs.getD i (0, [])).2 := by
  obtain ⟨us, h1, h2, h3⟩ := h
  obtain ⟨bl, off, k1, k2⟩ := (RdC.own h2).at (P := Try.prog) Try.underlying67 infoGr .i64 i hi (by omega)
  obtain ⟨g1, g2⟩ := frCells_get fs us i h1 hi
  have hO := h3 i hi
  obtain ⟨A, c, hv, _⟩ := own_slice hO
  have c0 := k2 0 (by omega)
  have c1 := k2 1 (by omega)
  rw [Nat.add_zero, Nat.add_zero, g1] at c0
  rw [g2, hv] at c1
  rw [hv] at hO
  exact ⟨bl, off, A, c, k1, c0, c1, hO.rd⟩
theorem FrL.lenG {W : World} {base : Nat} {lv : Value} {fs : List (Int × List Int)} (h : FrL W base 33 5 lv fs) : ∀ W' : World, Sem.run Try.prog (Builtin.len_ #[67] 3 #[lv]) W' = Result.ok (.int .i64 fs.length) W' := by
  obtain ⟨us, hus, hrow, _⟩ := h
  exact (RdC.own hrow).len (P := Try.prog) 67 33 3 Try.underlying67
theorem FrL.lenF {W : World} {base : Nat} {lv : Value} {fs : List (Int × List Int)} (h : FrL W base 28 5 lv fs) : ∀ W' : World, Sem.run Try.prog (Builtin.len_ #[52] 3 #[lv]) W' = Result.ok (.int .i64 fs.length) W' := by
  obtain ⟨us, hus, hrow, _⟩ := h
  exact (RdC.own hrow).len (P := Try.prog) 52 28 3 Try.underlying52
/-- the splitter, the stream and what was counted -/
def SpI (w W : World) (g : Nat) (m : Int) (x : List StepT) (k : Nat) (vs : Value) (S : List Int) (F : List (Int × List Int)) (l : List Int) (j lo a bq : Nat) : Prop :=
  Own W w.heap.size 5 vs S ∧ Spl W g m l (a + j) (bq + lo) ∧ Below w.heap.size w W ∧ (scanA m false S.length S [] 0 0 = (F, l, j, lo) ∧ a + S.length + restB x k ≤ 1048576 ∧ bq + S.length + restB x k ≤ 1048576)
set_option maxHeartbeats 16000000 in
theorem law_FrameSplits (w : World) (m : Int) (hm : (Lit.int .i64 m).wf = true) (v : Value) (x : List StepT) (r : RSl 3 32 RStep w [v] x) (t : (x.map (fun a : StepT => (a.1.length + 1 + (1 + (1 + 0))) + 1)).sum + 1 ≤ 1048576) :
    Calls Try.prog 10 #[.int .i64 m, v] w fun e w' => e = .returned (.bool true) ∧ Below w.heap.size w w' := by
  clear hm
  by_cases hneg : m < 0
  · go_enter Try.func10, Try.ntmps10
    go_wp2_with (first
      | (go_at_call 28; refine (New_bad m (.inl hneg) _).mono ?_; rintro e w' ⟨rfl, rfl⟩)
      | (go_at_call 17; refine (frame_num_any _ _).mono ?_; rintro e w' ⟨rfl, rfl⟩))
    go_ret
    exact ⟨rfl, Below.refl _ _⟩
  by_cases hbig : 1048576 < m
  · go_enter Try.func10, Try.ntmps10
    go_wp2_with (first
      | (go_at_call 28; refine (New_bad m (.inr hbig) _).mono ?_; rintro e w' ⟨rfl, rfl⟩)
      | (go_at_call 17; refine (frame_num_any _ _).mono ?_; rintro e w' ⟨rfl, rfl⟩))
    go_ret
    exact ⟨rfl, Below.refl _ _⟩
  have h0 : 0 ≤ m := by omega
  have h1 : m ≤ 1048576 := by omega
  have hrb := restB_le x
  have hxl : x.length ≤ 1048576 := by omega
  have hr0 : Hid (restB x 0 ≤ 1048576) := hd_ (by omega)
  have hlen : ∀ W' : World, Sem.run Try.prog (Builtin.len_ #[64] 3 #[v]) W' = Result.ok (.int .i64 x.length) W' := by
    obtain ⟨v', vs, hv, h1, _, h3⟩ := id r
    injection hv with hv
    subst hv
    exact h1.len (P := Try.prog) 64 66 3 Try.underlying64
  have hR := hd_ r
  clear r t hrb
  go_enter Try.func10, Try.ntmps10
  go_wp2_with (first
    | (go_at_call 28; refine (New_ok m h0 h1 _).mono ?_; rintro e w1 ⟨rfl, HX1, HB1⟩; have HX1h := hd_ HX1; clear HX1)
    | (go_at_call 17; refine (frame_num_any _ _).mono ?_; rintro e w' ⟨rfl, rfl⟩))
  have hI0 : Hid (SpI w w1 w.heap.size m x 0 (.slice none 0 0) [] [] [] 0 0 0 0) := hd_ ⟨own_nil8 _ _ _, ⟨_, HX1h.out, RdB.own (own_nil8 _ 0 _)⟩, HB1, rfl, by simpa using hr0.out, by simpa using hr0.out⟩
  clear HX1h HB1 hr0
  obtain ⟨g, hg⟩ : ∃ g, w.heap.size = g := ⟨_, rfl⟩
  have hG : Hid (w.heap.size = g) := hd_ hg
  rw [hg] at hI0 ⊢
  clear hg
  go_loopw [7, 8, 9, 10, 11] (fun vs vf va vb vi wr => ∃ (k : Nat) (S : List Int) (F : List (Int × List Int)) (l : List Int) (j lo a bq : Nat), k ≤ x.length ∧ vi = .int .i64 k ∧ vf = .int .i64 (F.length : Nat) ∧ va = .int .i64 (a : Nat) ∧ vb = .int .i64 (bq : Nat) ∧ Hid (SpI w wr g m x k vs S F l j lo a bq)) (fun _ _ _ _ i _ => x.length - (intOf i).toNat)
  case atStart => exact ⟨0, [], [], [], 0, 0, 0, 0, Nat.zero_le _, rfl, rfl, rfl, rfl, hI0⟩
  case round =>
    clear hI0
    obtain ⟨k, S, F, l, j, lo, a, bq, hk, rfl, rfl, rfl, rfl, HI⟩ := hrel
    by_cases hlt : k < x.length
    · obtain ⟨bl, off, A, c, hat, c0w, c1w, c2w, hpw⟩ := step_at hR.out k hlt
      have hrs := restB_step hlt
      obtain ⟨HO, HS, HB, hsc, hbd1, hbd2⟩ := HI.out
      have c0 := cell_keep HB c0w
      have c1 := cell_keep HB c1w
      have c2 := cell_keep HB c2w
      have hSb : IsBytes S := HO.1
      have hlb : IsBytes l := by obtain ⟨v', _, hr⟩ := id HS; exact hr.1.1
      have hbb := scanA_bounds m false S.length S [] 0 0 hSb
      rw [hsc] at hbb
      simp only [List.length_nil, Nat.zero_mul, Nat.zero_add] at hbb
      rw [hrs] at hbd1 hbd2
      have HSc := hd_ hsc
      have HHO := hd_ HO
      have HHS := hd_ HS
      have HHB := hd_ HB
      have HHp := hd_ hpw
      have HBd : Hid (a + S.length + ((stp x k).1.length + restB x (k + 1)) ≤ 1048576 ∧ bq + S.length + ((stp x k).1.length + restB x (k + 1)) ≤ 1048576 ∧ F.length * 14 + l.length ≤ S.length ∧ j + l.length ≤ S.length ∧ lo + l.length ≤ S.length) := hd_ ⟨hbd1, hbd2, hbb.1, hbb.2.1, hbb.2.2⟩
      clear HI HO HS HB hsc hbd1 hbd2 hbb hrs c0w c1w c2w hpw
      obtain ⟨p, hp⟩ : ∃ p, (stp x k).1 = p := ⟨_, rfl⟩
      obtain ⟨en, hen⟩ : ∃ en, (stp x k).2.1 = en := ⟨_, rfl⟩
      obtain ⟨ask, hask⟩ : ∃ ask, (stp x k).2.2.1 = ask := ⟨_, rfl⟩
      obtain ⟨rb, hrb⟩ : ∃ rb, restB x (k + 1) = rb := ⟨_, rfl⟩
      rw [hp] at c0 HHp HBd
      rw [hen] at c1
      rw [hask] at c2
      rw [hrb] at HBd
      have HRb := hd_ hrb
      clear hp hen hask hrb
      have hkI : (k : Int) < (x.length : Int) := by omega
      have hals := hd_ (al1 (Below.refl wr.heap.size wr) (.cells #[.slice none 0 0, .bool false, .bool false] 66))
      go_upto_region 12 with (refine store_box rfl 66 _ _ rfl wr.heap.size 66 _ #[.slice A p.length c, .bool en, .bool ask] rfl rfl (Box.new _ _ _) infoStep rfl (step_one _ _ _ _ _) ?_; intro w1 hb1 hg1; have HB1 := hd_ (below_row hals.out hg1 (Nat.le_refl _) hals.out.size))
      have hbx := hd_ hb1
      have hO1 := hd_ (HHO.out.keep HB1.out)
      have hS1 := hd_ (HHS.out.keep HB1.out)
      have hBw1 := hd_ (bel_trans HHB.out HB1.out)
      have hp1 := hd_ (HHp.out.keep hBw1.out)
      have hgtg : Hid (wr.heap.size ≠ g) := hd_ (by obtain ⟨v', hb', _⟩ := HHS.out; have := hb'.lt; omega)
      have e1 := hb1.cell 1 (v := .bool en) rfl
      clear hals hg1 hb1 HHO HHS HHB HB1 c0 c1 c2 hat
      generalize wr.heap.size = gt at *
      cases en
      · -- a piece
        have e0 := hbx.out.cell 0 (v := .slice A p.length c) rfl
        go_upto_region 16 with (go_at_call 19; with_reducible refine (roomy_any _ p w1 hp1.out (by have := HBd.out.1; omega)).mono ?_; rintro e w2 ⟨gr, cr, rfl, HOr, HB2⟩)
        have HOrh := hd_ HOr
        have hO2 := hd_ (hO1.out.keep HB2)
        have hS2 := hd_ (hS1.out.keep HB2)
        have hBw2 := hd_ (bel_trans hBw1.out HB2)
        have hbx2 := hd_ (hbx.out.keep HB2)
        have hlm : (p ++ marks).length = p.length + 16 := by rw [List.length_append]; rfl
        have hF := Feed_anyB 0 g m l p (a + j) (bq + lo) (.slice (some ⟨gr, 0, none⟩) p.length cr) w2 hS2.out (HOr.rd.front hlm.symm) h1 (by have := HBd.out; omega) (by have := HBd.out; omega) (by have := HBd.out; omega)
        have hlb : IsBytes l := by obtain ⟨v', _, hr⟩ := hS2.out; exact hr.1.1
        have hbb := scanA_bounds m false (l ++ p).length (l ++ p) [] (a + j) (bq + lo) (bytes_append hlb hp1.out.1)
        obtain ⟨R, hRR⟩ : ∃ R, scanA m false (l ++ p).length (l ++ p) [] (a + j) (bq + lo) = R := ⟨_, rfl⟩
        obtain ⟨j', lo', hj', hlo', hsc'⟩ := scan_feed m S p a bq F l j lo hO2.out.1 HSc.out R hRR
        rw [hRR] at hF hbb
        obtain ⟨G, l', jj, ll⟩ := R
        simp only at hj' hlo' hsc' hbb
        subst hj'
        subst hlo'
        have hFh := hd_ hF
        have HSc' := hd_ hsc'
        have hGl : Hid (G.length * 14 ≤ S.length + p.length) := hd_ (by rw [List.length_append, List.length_nil] at hbb; have := HBd.out; omega)
        clear HOr HB2 hF hsc' hRR hbb hlb hlm e0 e1
        go_wp2_with fail
        refine hFh.out.mono ?_
        rintro e w3 ⟨lv, rfl, HS3, HF3, HG3⟩
        have HG3h := hd_ HG3
        obtain ⟨vq, hbq, hrq⟩ := id hS2.out
        have hO3 := hd_ (hO2.out.kept HG3 (own_ne hO2.out.2 hbq (by decide)))
        have hOr3 := hd_ (HOrh.out.kept HG3 (own_ne HOrh.out.2 hbq (by decide)))
        have hbx3 := hd_ (hbx2.out.grown HG3 (fun h => by injection h with h; exact hgtg.out h))
        have hBw3 := hd_ (below_row hBw2.out HG3 (by rw [hG.out]; exact Nat.le_refl _) hBw2.out.size)
        have hp3 := hd_ (HHp.out.keep hBw3.out)
        have hS3 := hd_ HS3
        have hF3 := hd_ HF3.l
        have hOlt : Hid (∀ b, u7.ownBlock = some b → b < w2.heap.size) := hd_ (fun b hb => (hO2.out.2.lt b hb).2)
        have hOg : Hid (u7.ownBlock ≠ some g) := hd_ (by
          rcases own_ne hO2.out.2 hbq (by decide) with h | h
          · rw [h]; simp
          · exact h)
        have hL : Hid (S.length + p.length ≤ 140737488355328) := hd_ (by have := HBd.out; omega)
        have d0 := hbx3.out.cell 0 (v := .slice A p.length c) rfl
        clear HG3 hbq hrq HS3 HF3 hFh hO2 hS2 hbx2 HOrh hO1 hS1 hbx hBw1 hBw2
        obtain ⟨Ag, cg, rfl⟩ := hF3.out.len
        have hlg := hF3.out.lenF
        go_upto_region 20 with (first
          | (go_at_call 22; with_reducible refine (kept_any _ p gr cr _ hp3.out hOr3.out.rd).mono ?_; rintro e w' ⟨rfl, rfl⟩)
          | (at_builtin; refine app_bytes (w0 := w) w.heap.size rfl _ _ 24 5 rfl Try.underlying24 info8 u7 (.slice A p.length c) S p rfl rfl hO3.out hp3.out hBw3.out hBw3.out.size hL.out ?_; intro v4 w4 HO4 HB4 hg4 hat4; have hO4 := hd_ HO4; have hB4 := hd_ HB4; have hbx4 := hd_ (hbx3.out.grown hg4 (kind_ne hO3.out.2 hbx3.out (by decide))); have hS4 := hd_ ((hS3.out.old hg4 (fun h => hOg.out h.symm) hOlt.out).low); have hF4 := hd_ (hF3.out.old hg4 hOlt.out); clear HO4 HB4 hg4 hat4))
        have e1 := hbx4.out.cell 1 (v := .bool false) rfl
        clear hO3 hOr3 hbx3 hS3 hF3 hBw3 hOlt hOg HG3h d0
        have hSt := hd_ (ref_Stream_any m h0 h1 false v4 (S ++ p) w4 hO4.out.rd (by (try simp only [List.length_append]); have := HBd.out; omega))
        have HSc2 := HSc'.out
        have HF2 : Hid (G.length + F.length ≤ 1048576) := hd_ (by
          have hb9 := scanA_bounds m false (S ++ p).length (S ++ p) [] 0 0 hO4.out.1
          rw [HSc2] at hb9
          simp only [List.length_append, List.length_nil] at hb9
          have := HBd.out
          omega)
        have HJ2 : Hid (j' + l'.length ≤ (S ++ p).length ∧ lo' + l'.length ≤ (S ++ p).length ∧ l'.length ≤ (S ++ p).length) := hd_ (by
          have hb9 := scanA_bounds m false (S ++ p).length (S ++ p) [] 0 0 hO4.out.1
          rw [HSc2] at hb9
          simp only [List.length_nil, Nat.zero_mul, Nat.zero_add] at hb9
          exact ⟨by omega, by omega, by omega⟩)
        rw [HSc2] at hSt
        clear HSc2
        obtain ⟨At, hAt⟩ : ∃ At, At = (S ++ p).length - l'.length := ⟨_, rfl⟩
        have hSt : Hid (Calls Try.prog 36 #[.int .i64 m, v4, .bool false] w4 (fun e w' => ∃ lv, e = .returned (.agg #[lv, .int .i64 (At : Int), .int .i64 (j' : Int), .int .i64 (lo' : Int)]) ∧ FrL w' w4.heap.size 33 5 lv (F ++ G) ∧ Below w4.heap.size w4 w')) := hd_ (by rw [hAt]; exact hSt.out)
        have hAtI : Hid ((At : Int) + (l'.length : Int) = ((S ++ p).length : Int)) := hd_ (by have := HJ2.out; omega)
        clear hAt
        obtain ⟨T, hTT⟩ : ∃ T, (F ++ G).length = T := ⟨_, rfl⟩
        have hTn : F.length + G.length = T := by rw [← hTT, List.length_append]
        go_upto_region 21 with ((go_at_call 36; with_reducible refine hSt.out.mono ?_; rintro e w5 ⟨ld, rfl, HFd, HB5⟩; obtain ⟨Ad, cd, hvd⟩ := HFd.len; rw [hTT] at hvd; subst hvd; have hFd := hd_ HFd; have hB5 := hd_ HB5; clear HFd HB5))
        have hb6h := hd_ (Box.new w5 #[.slice Ad T cd, .int .i64 (At : Int), .int .i64 (j' : Int), .int .i64 (lo' : Int)] 69)
        have HB6 := hd_ (al1 (Below.refl w5.heap.size w5) (.cells #[.slice Ad T cd, .int .i64 (At : Int), .int .i64 (j' : Int), .int .i64 (lo' : Int)] 69))
        generalize w5.alloc (.cells #[.slice Ad T cd, .int .i64 (At : Int), .int .i64 (j' : Int), .int .i64 (lo' : Int)] 69) = w6 at *
        have K6 := hd_ (bel_trans hB5.out HB6.out)
        have hB6 := hd_ (bel_trans hB4.out K6.out)
        have hO6 := hd_ (hO4.out.keep K6.out)
        have hS6 := hd_ (hS4.out.keep K6.out)
        have hF6 := hd_ (hF4.out.keep K6.out)
        have hbx6 := hd_ (hbx4.out.keep K6.out)
        have hFd6 := hd_ (hFd.out.keep HB6.out)
        have hld := hFd6.out.lenG
        rw [hTT] at hld
        have HTT := hd_ hTT
        clear hTT
        have s0 := hb6h.out.cell 0 (v := .slice Ad T cd) rfl
        clear hSt hO4 hS4 hF4 hbx4 hB4 hFd K6 hB5 HB6 e1
        generalize w5.heap.size = gs at *
        have hFG := HF2.out
        have hg63 : G.length ≤ 1048576 := by omega
        have wrS : IntKind.i64.wrap ((T : Int) - (F.length : Int)) = (G.length : Int) := by rw [IntKind.wrap_i64]; omega
        go_wp2
        go_loopw [16] (fun vk wr => ∃ k2 : Nat, k2 ≤ G.length ∧ vk = .int .i64 k2 ∧ Below w6.heap.size w6 wr) (fun i _ => G.length - (intOf i).toNat)
        case atStart => exact ⟨0, Nat.zero_le _, rfl, Below.refl _ _⟩
        case round =>
          obtain ⟨k2, hk2, rfl, HBq⟩ := hrel
          by_cases hlt2 : k2 < G.length
          · obtain ⟨bl1, o1, A1, c1, i1, p1, q1, r1⟩ := (hF6.out.keep HBq).at k2 hlt2
            obtain ⟨bl2, o2, A2, c2, i2, p2, q2, r2⟩ := (hFd6.out.keep HBq).atG (F.length + k2) (by rw [HTT.out]; omega)
            have eG : (F ++ G).getD (F.length + k2) (0, []) = G.getD k2 (0, []) := by
              rw [List.getD_eq_getElem?_getD, List.getD_eq_getElem?_getD, List.getElem?_append_right (by omega), Nat.add_sub_cancel_left]
            rw [eG] at p2 q2 r2
            clear eG
            generalize G.getD k2 (0, []) = f at *
            have s0q := cell_keep HBq s0
            have hlI : (k2 : Int) < (G.length : Int) := by omega
            have wrF : IntKind.i64.wrap ((F.length : Int) + (k2 : Int)) = (F.length : Int) + (k2 : Int) := by rw [IntKind.wrap_i64]; omega
            have i2 : ∀ W', Sem.run Try.prog (Instr.indexAt 67 (.slice Ad T cd) (.int .i64 ((F.length : Int) + (k2 : Int)))) W' = .ok (.pointer (some ⟨bl2, o2, none⟩)) W' := by
              have e : ((F.length + k2 : Nat) : Int) = (F.length : Int) + (k2 : Int) := by omega
              rw [e] at i2
              exact i2
            go_upto_region 26 with fail
            go_region_with (go_at_call 25; with_reducible refine (frame_same_true _ _ _ _ _ _ _ _ _ (r1.keep (Below.refl _ _).drew) (r2.keep (Below.refl _ _).drew)).mono ?_; rintro e wz ⟨rfl, HBz⟩)
            all_goals go_wp2
            all_goals go_roundw
            all_goals first
              | exact ⟨k2 + 1, by omega, by go_num, bel_trans HBq (bel_trans (Below.refl _ _).drew HBz)⟩
              | (simp [intOf]; try omega)
          · obtain rfl : k2 = G.length := by omega
            have hbx7 := hd_ (hbx6.out.keep HBq)
            have hb7 := hd_ (hb6h.out.keep HBq)
            have hS7 := hd_ (hS6.out.keep HBq)
            have hO7 := hd_ (hO6.out.keep HBq)
            have hB7 := hd_ (bel_trans hB6.out HBq)
            have s07 := hb7.out.cell 0 (v := .slice Ad T cd) rfl
            have s17 := hb7.out.cell 1 (v := .int .i64 (At : Int)) rfl
            have s27 := hb7.out.cell 2 (v := .int .i64 (j' : Int)) rfl
            have s37 := hb7.out.cell 3 (v := .int .i64 (lo' : Int)) rfl
            have t17 := hbx7.out.cell 1 (v := .bool false) rfl
            have t27 := hbx7.out.cell 2 (v := .bool ask) rfl
            obtain ⟨xq, bq', rq'⟩ := id hS7.out
            have g2 := bq'.cell 2 rfl
            have g3 : wr.cell? ⟨g, 3, none⟩ = some (.int .i64 ((a : Int) + (j' : Int))) := bq'.cell 3 rfl
            have g4 : wr.cell? ⟨g, 4, none⟩ = some (.int .i64 ((bq : Int) + (lo' : Int))) := bq'.cell 4 rfl
            have hlS := hO7.out.rd.2.len (P := Try.prog) 24 5 3 Try.underlying24
            have hxq := hd_ rq'.1
            clear bq' rq' hF6 hFd6 hb6h hbx6 hS6 hO6 hB6 s0 HBq
            have hwI := hAtI.out
            have hSL0 : (S ++ p).length ≤ 1048576 := by (try simp only [List.length_append]); have := HBd.out; omega
            have hlL := HJ2.out.2.2
            obtain ⟨SL, hSL⟩ : ∃ SL, (S ++ p).length = SL := ⟨_, rfl⟩
            rw [hSL] at hlS hwI hSL0 hlL
            clear hSL
            have wrA : IntKind.i64.wrap ((SL : Int) - (At : Int)) = (l'.length : Int) := by rw [IntKind.wrap_i64]; omega
            have hjb : (a : Int) + (j' : Int) ≤ 1048576 := by have := HJ2.out; (try simp only [List.length_append] at this); have := HBd.out; omega
            have hlob : (bq : Int) + (lo' : Int) ≤ 1048576 := by have := HJ2.out; (try simp only [List.length_append] at this); have := HBd.out; omega
            have wrJ : IntKind.i64.wrap ((a : Int) + (j' : Int)) = (a : Int) + (j' : Int) := by rw [IntKind.wrap_i64]; omega
            have wrL : IntKind.i64.wrap ((bq : Int) + (lo' : Int)) = (bq : Int) + (lo' : Int) := by rw [IntKind.wrap_i64]; omega
            cases ask
            · go_upto_region 29 with fail
              go_quiet (fail)
              all_goals
                have hBy := hd_ (below_drewN (Below.refl wr.heap.size wr) nq)
                generalize wr.drewN nq = wy at *
                have t17y := cell_keep hBy.out t17
                have s27y := cell_keep hBy.out s27
                have s37y := cell_keep hBy.out s37
                go_wp2
                go_roundw
                first
                  | exact ⟨k + 1, S ++ p, F ++ G, l', j', lo', a, bq, by omega, by go_num, by rw [List.length_append, hTn], rfl, rfl, hd_ ⟨hO7.out.keep hBy.out, hS7.out.keep hBy.out, bel_trans hB7.out hBy.out, HSc'.out, by rw [List.length_append, HRb.out]; have := HBd.out; omega, by rw [List.length_append, HRb.out]; have := HBd.out; omega⟩⟩
                  | (simp [intOf]; try omega)
                first
                  | exact ⟨k + 1, S ++ p, F ++ G, l', j', lo', a, bq, by omega, by go_num, by rw [List.length_append, hTn], rfl, rfl, hd_ ⟨hO7.out.keep hBy.out, hS7.out.keep hBy.out, bel_trans hB7.out hBy.out, HSc'.out, by rw [List.length_append, HRb.out]; have := HBd.out; omega, by rw [List.length_append, HRb.out]; have := HBd.out; omega⟩⟩
                  | (simp [intOf]; try omega)
            · go_upto_region 29 with fail
              refine region_J [] (fun W : World => W = wr.drew) rfl ?_
              have hBy := hd_ ((Below.refl wr.heap.size wr).drew)
              have hC0 : (fun W : World => W = wr.drew) wr.drew := rfl
              generalize wr.drew = wy at *
              have t27z := cell_keep hBy.out t27
              have s17z := cell_keep hBy.out s17
              have s27z := cell_keep hBy.out s27
              have s37z := cell_keep hBy.out s37
              have g2z := cell_keep hBy.out g2
              have g3z := cell_keep hBy.out g3
              have g4z := cell_keep hBy.out g4
              have hxz := hd_ (hxq.out.keep hBy.out)
              refine take_JW 0 _ _ (v := ?_) rfl (by kernel_rfl) (by kernel_rfl) (by kernel_rfl) (by kernel_rfl) (fun _ _ _ h => h) rfl hC0 ?_ ?_
              rotate_left
              · intro W hC; obtain rfl : W = wy := hC; go_simp; try with_reducible rfl
              simp only [Act.put, List.setIfInBounds_toArray, List.set_cons_zero, List.set_cons_succ]
              refine take_JW 1 _ _ (v := ?_) rfl (by kernel_rfl) (by kernel_rfl) (by kernel_rfl) (by kernel_rfl) (fun _ _ _ h => h) rfl hC0 ?_ ?_
              rotate_left
              · intro W hC; obtain rfl : W = wy := hC; go_simp; try with_reducible rfl
              simp only [Act.put, List.setIfInBounds_toArray, List.set_cons_zero, List.set_cons_succ]
              refine take_JW 2 _ _ (v := ?_) rfl (by kernel_rfl) (by kernel_rfl) (by kernel_rfl) (by kernel_rfl) (fun _ _ _ h => h) rfl hC0 ?_ ?_
              rotate_left
              · intro W hC; obtain rfl : W = wy := hC; go_simp; try with_reducible rfl
              simp only [Act.put, List.setIfInBounds_toArray, List.set_cons_zero, List.set_cons_succ]
              refine take_JW 3 _ _ (v := ?_) rfl (by kernel_rfl) (by kernel_rfl) (by kernel_rfl) (by kernel_rfl) (fun _ _ _ h => h) rfl hC0 ?_ ?_
              rotate_left
              · intro W hC; obtain rfl : W = wy := hC; go_simp; try with_reducible rfl
              simp only [Act.put, List.setIfInBounds_toArray, List.set_cons_zero, List.set_cons_succ]
              refine take_JW 5 _ _ (v := ?_) rfl (by kernel_rfl) (by kernel_rfl) (by kernel_rfl) (by kernel_rfl) (fun _ _ _ h => h) rfl hC0 ?_ ?_
              rotate_left
              · intro W hC; obtain rfl : W = wy := hC; go_simp; try with_reducible rfl
              simp only [Act.put, List.setIfInBounds_toArray, List.set_cons_zero, List.set_cons_succ]
              refine take_JW 6 _ _ (v := ?_) rfl (by kernel_rfl) (by kernel_rfl) (by kernel_rfl) (by kernel_rfl) (fun _ _ _ h => h) rfl hC0 ?_ ?_
              rotate_left
              · intro W hC; obtain rfl : W = wy := hC; go_simp; try with_reducible rfl
              simp only [Act.put, List.setIfInBounds_toArray, List.set_cons_zero, List.set_cons_succ]
              refine take_JW 7 _ _ (v := ?_) rfl (by kernel_rfl) (by kernel_rfl) (by kernel_rfl) (by kernel_rfl) (fun _ _ _ h => h) rfl hC0 ?_ ?_
              rotate_left
              · intro W hC; obtain rfl : W = wy := hC; go_simp; try with_reducible rfl
              simp only [Act.put, List.setIfInBounds_toArray, List.set_cons_zero, List.set_cons_succ]
              refine take_JW 8 _ _ (v := ?_) rfl (by kernel_rfl) (by kernel_rfl) (by kernel_rfl) (by kernel_rfl) (fun _ _ _ h => h) rfl hC0 ?_ ?_
              rotate_left
              · intro W hC; obtain rfl : W = wy := hC; go_simp; try with_reducible rfl
              simp only [Act.put, List.setIfInBounds_toArray, List.set_cons_zero, List.set_cons_succ]
              refine take_JW 9 _ _ (v := ?_) rfl (by kernel_rfl) (by kernel_rfl) (by kernel_rfl) (by kernel_rfl) (fun _ _ _ h => h) rfl hC0 ?_ ?_
              rotate_left
              · intro W hC; obtain rfl : W = wy := hC; go_simp; try with_reducible rfl
              simp only [Act.put, List.setIfInBounds_toArray, List.set_cons_zero, List.set_cons_succ]
              refine ready_JW 4 _ _ rfl (by kernel_rfl) rfl (fun K hK => ?_)
              go_simp
              with_reducible refine (Waits_any g xq l' _ g2z hxz.out).mono ?_
              rintro e wz ⟨rfl, rfl⟩
              refine hK _ _ (fun _ => hC0) ?_
              clear hK K
              try simp only [Act.put, List.setIfInBounds_toArray, List.set_cons_zero, List.set_cons_succ]
              refine take_JW 10 _ _ (v := ?_) rfl (by kernel_rfl) (by kernel_rfl) (by kernel_rfl) (by kernel_rfl) (fun _ _ _ h => h) rfl hC0 ?_ ?_
              rotate_left
              · intro W hC; obtain rfl : W = wy := hC; go_simp; try with_reducible rfl
              simp only [Act.put, List.setIfInBounds_toArray, List.set_cons_zero, List.set_cons_succ]
              refine take_JW 11 _ _ (v := ?_) rfl (by kernel_rfl) (by kernel_rfl) (by kernel_rfl) (by kernel_rfl) (fun _ _ _ h => h) rfl hC0 ?_ ?_
              rotate_left
              · intro W hC; obtain rfl : W = wy := hC; go_simp; try with_reducible rfl
              simp only [Act.put, List.setIfInBounds_toArray, List.set_cons_zero, List.set_cons_succ]
              refine take_JW 12 _ _ (v := ?_) rfl (by kernel_rfl) (by kernel_rfl) (by kernel_rfl) (by kernel_rfl) (fun _ _ _ h => h) rfl hC0 ?_ ?_
              rotate_left
              · intro W hC; obtain rfl : W = wy := hC; go_simp; try with_reducible rfl
              simp only [Act.put, List.setIfInBounds_toArray, List.set_cons_zero, List.set_cons_succ]
              refine take_JW 14 _ _ (v := ?_) rfl (by kernel_rfl) (by kernel_rfl) (by kernel_rfl) (by kernel_rfl) (fun _ _ _ h => h) rfl hC0 ?_ ?_
              rotate_left
              · intro W hC; obtain rfl : W = wy := hC; go_simp; try with_reducible rfl
              simp only [Act.put, List.setIfInBounds_toArray, List.set_cons_zero, List.set_cons_succ]
              refine take_JW 15 _ _ (v := ?_) rfl (by kernel_rfl) (by kernel_rfl) (by kernel_rfl) (by kernel_rfl) (fun _ _ _ h => h) rfl hC0 ?_ ?_
              rotate_left
              · intro W hC; obtain rfl : W = wy := hC; go_simp; try with_reducible rfl
              simp only [Act.put, List.setIfInBounds_toArray, List.set_cons_zero, List.set_cons_succ]
              refine take_JW 16 _ _ (v := ?_) rfl (by kernel_rfl) (by kernel_rfl) (by kernel_rfl) (by kernel_rfl) (fun _ _ _ h => h) rfl hC0 ?_ ?_
              rotate_left
              · intro W hC; obtain rfl : W = wy := hC; go_simp; try with_reducible rfl
              simp only [Act.put, List.setIfInBounds_toArray, List.set_cons_zero, List.set_cons_succ]
              refine take_JW 17 _ _ (v := ?_) rfl (by kernel_rfl) (by kernel_rfl) (by kernel_rfl) (by kernel_rfl) (fun _ _ _ h => h) rfl hC0 ?_ ?_
              rotate_left
              · intro W hC; obtain rfl : W = wy := hC; go_simp; try with_reducible rfl
              simp only [Act.put, List.setIfInBounds_toArray, List.set_cons_zero, List.set_cons_succ]
              refine ready_JW 13 _ _ rfl (by kernel_rfl) rfl (fun K hK => ?_)
              go_simp
              with_reducible refine (Junk_any g _ _ g3z).mono ?_
              rintro e wz ⟨rfl, rfl⟩
              refine hK _ _ (fun _ => hC0) ?_
              clear hK K
              try simp only [Act.put, List.setIfInBounds_toArray, List.set_cons_zero, List.set_cons_succ]
              refine take_JW 18 _ _ (v := ?_) rfl (by kernel_rfl) (by kernel_rfl) (by kernel_rfl) (by kernel_rfl) (fun _ _ _ h => h) rfl hC0 ?_ ?_
              rotate_left
              · intro W hC; obtain rfl : W = wy := hC; go_simp; try with_reducible rfl
              simp only [Act.put, List.setIfInBounds_toArray, List.set_cons_zero, List.set_cons_succ]
              refine take_JW 19 _ _ (v := ?_) rfl (by kernel_rfl) (by kernel_rfl) (by kernel_rfl) (by kernel_rfl) (fun _ _ _ h => h) rfl hC0 ?_ ?_
              rotate_left
              · intro W hC; obtain rfl : W = wy := hC; go_simp; try with_reducible rfl
              simp only [Act.put, List.setIfInBounds_toArray, List.set_cons_zero, List.set_cons_succ]
              refine take_JW 20 _ _ (v := ?_) rfl (by kernel_rfl) (by kernel_rfl) (by kernel_rfl) (by kernel_rfl) (fun _ _ _ h => h) rfl hC0 ?_ ?_
              rotate_left
              · intro W hC; obtain rfl : W = wy := hC; go_simp; try with_reducible rfl
              simp only [Act.put, List.setIfInBounds_toArray, List.set_cons_zero, List.set_cons_succ]
              refine take_JW 21 _ _ (v := ?_) rfl (by kernel_rfl) (by kernel_rfl) (by kernel_rfl) (by kernel_rfl) (fun _ _ _ h => h) rfl hC0 ?_ ?_
              rotate_left
              · intro W hC; obtain rfl : W = wy := hC; go_simp; try with_reducible rfl
              simp only [Act.put, List.setIfInBounds_toArray, List.set_cons_zero, List.set_cons_succ]
              refine take_JW 23 _ _ (v := ?_) rfl (by kernel_rfl) (by kernel_rfl) (by kernel_rfl) (by kernel_rfl) (fun _ _ _ h => h) rfl hC0 ?_ ?_
              rotate_left
              · intro W hC; obtain rfl : W = wy := hC; go_simp; try with_reducible rfl
              simp only [Act.put, List.setIfInBounds_toArray, List.set_cons_zero, List.set_cons_succ]
              refine take_JW 24 _ _ (v := ?_) rfl (by kernel_rfl) (by kernel_rfl) (by kernel_rfl) (by kernel_rfl) (fun _ _ _ h => h) rfl hC0 ?_ ?_
              rotate_left
              · intro W hC; obtain rfl : W = wy := hC; go_simp; try with_reducible rfl
              simp only [Act.put, List.setIfInBounds_toArray, List.set_cons_zero, List.set_cons_succ]
              refine take_JW 25 _ _ (v := ?_) rfl (by kernel_rfl) (by kernel_rfl) (by kernel_rfl) (by kernel_rfl) (fun _ _ _ h => h) rfl hC0 ?_ ?_
              rotate_left
              · intro W hC; obtain rfl : W = wy := hC; go_simp; try with_reducible rfl
              simp only [Act.put, List.setIfInBounds_toArray, List.set_cons_zero, List.set_cons_succ]
              refine take_JW 26 _ _ (v := ?_) rfl (by kernel_rfl) (by kernel_rfl) (by kernel_rfl) (by kernel_rfl) (fun _ _ _ h => h) rfl hC0 ?_ ?_
              rotate_left
              · intro W hC; obtain rfl : W = wy := hC; go_simp; try with_reducible rfl
              simp only [Act.put, List.setIfInBounds_toArray, List.set_cons_zero, List.set_cons_succ]
              refine ready_JW 22 _ _ rfl (by kernel_rfl) rfl (fun K hK => ?_)
              go_simp
              with_reducible refine (Lost_any g _ _ g4z).mono ?_
              rintro e wz ⟨rfl, rfl⟩
              refine hK _ _ (fun _ => hC0) ?_
              clear hK K
              try simp only [Act.put, List.setIfInBounds_toArray, List.set_cons_zero, List.set_cons_succ]
              refine take_JW 27 _ _ (v := ?_) rfl (by kernel_rfl) (by kernel_rfl) (by kernel_rfl) (by kernel_rfl) (fun _ _ _ h => h) rfl hC0 ?_ ?_
              rotate_left
              · intro W hC; obtain rfl : W = wy := hC; go_simp; try with_reducible rfl
              simp only [Act.put, List.setIfInBounds_toArray, List.set_cons_zero, List.set_cons_succ]
              refine take_JW 28 _ _ (v := ?_) rfl (by kernel_rfl) (by kernel_rfl) (by kernel_rfl) (by kernel_rfl) (fun _ _ _ h => h) rfl hC0 ?_ ?_
              rotate_left
              · intro W hC; obtain rfl : W = wy := hC; go_simp; try with_reducible rfl
              simp only [Act.put, List.setIfInBounds_toArray, List.set_cons_zero, List.set_cons_succ]
              refine take_JW 29 _ _ (v := ?_) rfl (by kernel_rfl) (by kernel_rfl) (by kernel_rfl) (by kernel_rfl) (fun _ _ _ h => h) rfl hC0 ?_ ?_
              rotate_left
              · intro W hC; obtain rfl : W = wy := hC; go_simp; try with_reducible rfl
              simp only [Act.put, List.setIfInBounds_toArray, List.set_cons_zero, List.set_cons_succ]
              refine wpAnyJ_done (by kernel_rfl) ?_ _
              clear t27z s17z s27z s37z g2z g3z g4z hxz hC0
              have t17y := cell_keep hBy.out t17
              have s27y := cell_keep hBy.out s27
              have s37y := cell_keep hBy.out s37
              go_wp2
              go_roundw
              first
                | exact ⟨k + 1, S ++ p, F ++ G, l', j', lo', a, bq, by omega, by go_num, by rw [List.length_append, hTn], rfl, rfl, hd_ ⟨hO7.out.keep hBy.out, hS7.out.keep hBy.out, bel_trans hB7.out hBy.out, HSc'.out, by rw [List.length_append, HRb.out]; have := HBd.out; omega, by rw [List.length_append, HRb.out]; have := HBd.out; omega⟩⟩
                | (simp [intOf]; try omega)
              first
                | exact ⟨k + 1, S ++ p, F ++ G, l', j', lo', a, bq, by omega, by go_num, by rw [List.length_append, hTn], rfl, rfl, hd_ ⟨hO7.out.keep hBy.out, hS7.out.keep hBy.out, bel_trans hB7.out hBy.out, HSc'.out, by rw [List.length_append, HRb.out]; have := HBd.out; omega, by rw [List.length_append, HRb.out]; have := HBd.out; omega⟩⟩
                | (simp [intOf]; try omega)
      · -- the end
        have hF := End_anyB 0 g m l (a + j) (bq + lo) w1 hS1.out h1 (by have := HBd.out; omega) (by have := HBd.out; omega) (by have := HBd.out; omega)
        have hlb : IsBytes l := by obtain ⟨v', _, hr⟩ := hS1.out; exact hr.1.1
        have hbb := scanA_bounds m true l.length l [] (a + j) (bq + lo) hlb
        obtain ⟨R, hRR⟩ : ∃ R, scanA m true l.length l [] (a + j) (bq + lo) = R := ⟨_, rfl⟩
        obtain ⟨j', lo', hj', hlo', hsc'⟩ := scan_end m S a bq F l j lo HSc.out R hRR
        rw [hRR] at hF hbb
        obtain ⟨G, l9, jj, ll⟩ := R
        simp only at hj' hlo' hsc' hbb
        subst hj'
        subst hlo'
        obtain ⟨l', hl'⟩ : ∃ l' : List Int, l' = [] := ⟨_, rfl⟩
        rw [← hl'] at hsc' hF
        have hFh := hd_ hF
        have HL9 := hd_ hl'
        have HSc' := hd_ hsc'
        have hGl : Hid (G.length * 14 ≤ S.length + p.length) := hd_ (by rw [List.length_nil] at hbb; have := HBd.out; omega)
        clear hF hsc' hRR hbb hlb hl'
        go_wp2_with fail
        refine hFh.out.mono ?_
        rintro e w4 ⟨lv, rfl, HS3, HF3, HG3⟩
        obtain ⟨vq, hbq, hrq⟩ := id hS1.out
        have hO4 := hd_ (hO1.out.kept HG3 (own_ne hO1.out.2 hbq (by decide)))
        have hbx4 := hd_ (hbx.out.grown HG3 (fun h => by injection h with h; exact hgtg.out h))
        have hB4 := hd_ (below_row hBw1.out HG3 (by rw [hG.out]; exact Nat.le_refl _) hBw1.out.size)
        have hS4 := hd_ HS3.low
        have hF4 := hd_ HF3.l
        have e1 := hbx4.out.cell 1 (v := .bool true) rfl
        clear HG3 hbq hrq HS3 HF3 hFh hO1 hS1 hbx hBw1
        obtain ⟨Ag, cg, rfl⟩ := hF4.out.len
        have hlg := hF4.out.lenF
        have hSt := hd_ (ref_Stream_any m h0 h1 true u7 (S) w4 hO4.out.rd (by (try simp only [List.length_append]); have := HBd.out; omega))
        have HSc2 := HSc'.out
        have HF2 : Hid (G.length + F.length ≤ 1048576) := hd_ (by
          have hb9 := scanA_bounds m true (S).length (S) [] 0 0 hO4.out.1
          rw [HSc2] at hb9
          simp only [List.length_append, List.length_nil] at hb9
          have := HBd.out
          omega)
        have HJ2 : Hid (j' + l'.length ≤ (S).length ∧ lo' + l'.length ≤ (S).length ∧ l'.length ≤ (S).length) := hd_ (by
          have hb9 := scanA_bounds m true (S).length (S) [] 0 0 hO4.out.1
          rw [HSc2] at hb9
          simp only [List.length_nil, Nat.zero_mul, Nat.zero_add] at hb9
          exact ⟨by omega, by omega, by omega⟩)
        rw [HSc2] at hSt
        clear HSc2
        obtain ⟨At, hAt⟩ : ∃ At, At = (S).length - l'.length := ⟨_, rfl⟩
        have hSt : Hid (Calls Try.prog 36 #[.int .i64 m, u7, .bool true] w4 (fun e w' => ∃ lv, e = .returned (.agg #[lv, .int .i64 (At : Int), .int .i64 (j' : Int), .int .i64 (lo' : Int)]) ∧ FrL w' w4.heap.size 33 5 lv (F ++ G) ∧ Below w4.heap.size w4 w')) := hd_ (by rw [hAt]; exact hSt.out)
        have hAtI : Hid ((At : Int) + (l'.length : Int) = ((S).length : Int)) := hd_ (by have := HJ2.out; omega)
        clear hAt
        obtain ⟨T, hTT⟩ : ∃ T, (F ++ G).length = T := ⟨_, rfl⟩
        have hTn : F.length + G.length = T := by rw [← hTT, List.length_append]
        go_upto_region 21 with ((go_at_call 36; with_reducible refine hSt.out.mono ?_; rintro e w5 ⟨ld, rfl, HFd, HB5⟩; obtain ⟨Ad, cd, hvd⟩ := HFd.len; rw [hTT] at hvd; subst hvd; have hFd := hd_ HFd; have hB5 := hd_ HB5; clear HFd HB5))
        have hb6h := hd_ (Box.new w5 #[.slice Ad T cd, .int .i64 (At : Int), .int .i64 (j' : Int), .int .i64 (lo' : Int)] 69)
        have HB6 := hd_ (al1 (Below.refl w5.heap.size w5) (.cells #[.slice Ad T cd, .int .i64 (At : Int), .int .i64 (j' : Int), .int .i64 (lo' : Int)] 69))
        generalize w5.alloc (.cells #[.slice Ad T cd, .int .i64 (At : Int), .int .i64 (j' : Int), .int .i64 (lo' : Int)] 69) = w6 at *
        have K6 := hd_ (bel_trans hB5.out HB6.out)
        have hB6 := hd_ (bel_trans hB4.out K6.out)
        have hO6 := hd_ (hO4.out.keep K6.out)
        have hS6 := hd_ (hS4.out.keep K6.out)
        have hF6 := hd_ (hF4.out.keep K6.out)
        have hbx6 := hd_ (hbx4.out.keep K6.out)
        have hFd6 := hd_ (hFd.out.keep HB6.out)
        have hld := hFd6.out.lenG
        rw [hTT] at hld
        have HTT := hd_ hTT
        clear hTT
        have s0 := hb6h.out.cell 0 (v := .slice Ad T cd) rfl
        clear hSt hO4 hS4 hF4 hbx4 hB4 hFd K6 hB5 HB6 e1
        generalize w5.heap.size = gs at *
        have hFG := HF2.out
        have hg63 : G.length ≤ 1048576 := by omega
        have wrS : IntKind.i64.wrap ((T : Int) - (F.length : Int)) = (G.length : Int) := by rw [IntKind.wrap_i64]; omega
        go_wp2
        go_loopw [16] (fun vk wr => ∃ k2 : Nat, k2 ≤ G.length ∧ vk = .int .i64 k2 ∧ Below w6.heap.size w6 wr) (fun i _ => G.length - (intOf i).toNat)
        case atStart => exact ⟨0, Nat.zero_le _, rfl, Below.refl _ _⟩
        case round =>
          obtain ⟨k2, hk2, rfl, HBq⟩ := hrel
          by_cases hlt2 : k2 < G.length
          · obtain ⟨bl1, o1, A1, c1, i1, p1, q1, r1⟩ := (hF6.out.keep HBq).at k2 hlt2
            obtain ⟨bl2, o2, A2, c2, i2, p2, q2, r2⟩ := (hFd6.out.keep HBq).atG (F.length + k2) (by rw [HTT.out]; omega)
            have eG : (F ++ G).getD (F.length + k2) (0, []) = G.getD k2 (0, []) := by
              rw [List.getD_eq_getElem?_getD, List.getD_eq_getElem?_getD, List.getElem?_append_right (by omega), Nat.add_sub_cancel_left]
            rw [eG] at p2 q2 r2
            clear eG
            generalize G.getD k2 (0, []) = f at *
            have s0q := cell_keep HBq s0
            have hlI : (k2 : Int) < (G.length : Int) := by omega
            have wrF : IntKind.i64.wrap ((F.length : Int) + (k2 : Int)) = (F.length : Int) + (k2 : Int) := by rw [IntKind.wrap_i64]; omega
            have i2 : ∀ W', Sem.run Try.prog (Instr.indexAt 67 (.slice Ad T cd) (.int .i64 ((F.length : Int) + (k2 : Int)))) W' = .ok (.pointer (some ⟨bl2, o2, none⟩)) W' := by
              have e : ((F.length + k2 : Nat) : Int) = (F.length : Int) + (k2 : Int) := by omega
              rw [e] at i2
              exact i2
            go_upto_region 26 with fail
            go_region_with (go_at_call 25; with_reducible refine (frame_same_true _ _ _ _ _ _ _ _ _ (r1.keep (Below.refl _ _).drew) (r2.keep (Below.refl _ _).drew)).mono ?_; rintro e wz ⟨rfl, HBz⟩)
            all_goals go_wp2
            all_goals go_roundw
            all_goals first
              | exact ⟨k2 + 1, by omega, by go_num, bel_trans HBq (bel_trans (Below.refl _ _).drew HBz)⟩
              | (simp [intOf]; try omega)
          · obtain rfl : k2 = G.length := by omega
            have hbx7 := hd_ (hbx6.out.keep HBq)
            have hb7 := hd_ (hb6h.out.keep HBq)
            have hS7 := hd_ (hS6.out.keep HBq)
            have hO7 := hd_ (hO6.out.keep HBq)
            have hB7 := hd_ (bel_trans hB6.out HBq)
            have s07 := hb7.out.cell 0 (v := .slice Ad T cd) rfl
            have s17 := hb7.out.cell 1 (v := .int .i64 (At : Int)) rfl
            have s27 := hb7.out.cell 2 (v := .int .i64 (j' : Int)) rfl
            have s37 := hb7.out.cell 3 (v := .int .i64 (lo' : Int)) rfl
            have t17 := hbx7.out.cell 1 (v := .bool true) rfl
            have t27 := hbx7.out.cell 2 (v := .bool ask) rfl
            obtain ⟨xq, bq', rq'⟩ := id hS7.out
            have g2 := bq'.cell 2 rfl
            have g3 : wr.cell? ⟨g, 3, none⟩ = some (.int .i64 ((a : Int) + (j' : Int))) := bq'.cell 3 rfl
            have g4 : wr.cell? ⟨g, 4, none⟩ = some (.int .i64 ((bq : Int) + (lo' : Int))) := bq'.cell 4 rfl
            have hlS := hO7.out.rd.2.len (P := Try.prog) 24 5 3 Try.underlying24
            have hxq := hd_ rq'.1
            clear bq' rq' hF6 hFd6 hb6h hbx6 hS6 hO6 hB6 s0 HBq
            have hwI := hAtI.out
            have hSL0 : (S).length ≤ 1048576 := by (try simp only [List.length_append]); have := HBd.out; omega
            have hlL := HJ2.out.2.2
            obtain ⟨SL, hSL⟩ : ∃ SL, (S).length = SL := ⟨_, rfl⟩
            rw [hSL] at hlS hwI hSL0 hlL
            clear hSL
            have wrA : IntKind.i64.wrap ((SL : Int) - (At : Int)) = (l'.length : Int) := by rw [IntKind.wrap_i64]; omega
            have hjb : (a : Int) + (j' : Int) ≤ 1048576 := by have := HJ2.out; (try simp only [List.length_append] at this); have := HBd.out; omega
            have hlob : (bq : Int) + (lo' : Int) ≤ 1048576 := by have := HJ2.out; (try simp only [List.length_append] at this); have := HBd.out; omega
            have wrJ : IntKind.i64.wrap ((a : Int) + (j' : Int)) = (a : Int) + (j' : Int) := by rw [IntKind.wrap_i64]; omega
            have wrL : IntKind.i64.wrap ((bq : Int) + (lo' : Int)) = (bq : Int) + (lo' : Int) := by rw [IntKind.wrap_i64]; omega
            cases ask
            · go_upto_region 29 with fail
              go_quiet (fail)
              all_goals
                have hBy := hd_ (below_drewN (Below.refl wr.heap.size wr) nq)
                generalize wr.drewN nq = wy at *
                have t17y := cell_keep hBy.out t17
                have s27y := cell_keep hBy.out s27
                have s37y := cell_keep hBy.out s37
                go_upto_region 32 with fail
                go_quiet (fail)
                have hBz := hd_ (below_drewN (Below.refl wy.heap.size wy) nq)
                generalize wy.drewN nq = wz at *
                go_wp2
                go_roundw
                first
                  | exact ⟨k + 1, [], [], [], 0, 0, a + j', bq + lo', by omega, by go_num, rfl, by go_num, by go_num, hd_ ⟨own_nil8 _ _ _, by have := hS7.out.keep (bel_trans hBy.out hBz.out); rw [HL9.out] at this; exact this, bel_trans hB7.out (bel_trans hBy.out hBz.out), rfl, by rw [HRb.out, List.length_nil]; have := HBd.out; have := HJ2.out; omega, by rw [HRb.out, List.length_nil]; have := HBd.out; have := HJ2.out; omega⟩⟩
                  | (simp [intOf]; try omega)
                first
                  | exact ⟨k + 1, [], [], [], 0, 0, a + j', bq + lo', by omega, by go_num, rfl, by go_num, by go_num, hd_ ⟨own_nil8 _ _ _, by have := hS7.out.keep (bel_trans hBy.out hBz.out); rw [HL9.out] at this; exact this, bel_trans hB7.out (bel_trans hBy.out hBz.out), rfl, by rw [HRb.out, List.length_nil]; have := HBd.out; have := HJ2.out; omega, by rw [HRb.out, List.length_nil]; have := HBd.out; have := HJ2.out; omega⟩⟩
                  | (simp [intOf]; try omega)
            · go_upto_region 29 with fail
              refine region_J [] (fun W : World => W = wr.drew) rfl ?_
              have hBy := hd_ ((Below.refl wr.heap.size wr).drew)
              have hC0 : (fun W : World => W = wr.drew) wr.drew := rfl
              generalize wr.drew = wy at *
              have t27z := cell_keep hBy.out t27
              have s17z := cell_keep hBy.out s17
              have s27z := cell_keep hBy.out s27
              have s37z := cell_keep hBy.out s37
              have g2z := cell_keep hBy.out g2
              have g3z := cell_keep hBy.out g3
              have g4z := cell_keep hBy.out g4
              have hxz := hd_ (hxq.out.keep hBy.out)
              refine take_JW 0 _ _ (v := ?_) rfl (by kernel_rfl) (by kernel_rfl) (by kernel_rfl) (by kernel_rfl) (fun _ _ _ h => h) rfl hC0 ?_ ?_
              rotate_left
              · intro W hC; obtain rfl : W = wy := hC; go_simp; try with_reducible rfl
              simp only [Act.put, List.setIfInBounds_toArray, List.set_cons_zero, List.set_cons_succ]
              refine take_JW 1 _ _ (v := ?_) rfl (by kernel_rfl) (by kernel_rfl) (by kernel_rfl) (by kernel_rfl) (fun _ _ _ h => h) rfl hC0 ?_ ?_
              rotate_left
              · intro W hC; obtain rfl : W = wy := hC; go_simp; try with_reducible rfl
              simp only [Act.put, List.setIfInBounds_toArray, List.set_cons_zero, List.set_cons_succ]
              refine take_JW 2 _ _ (v := ?_) rfl (by kernel_rfl) (by kernel_rfl) (by kernel_rfl) (by kernel_rfl) (fun _ _ _ h => h) rfl hC0 ?_ ?_
              rotate_left
              · intro W hC; obtain rfl : W = wy := hC; go_simp; try with_reducible rfl
              simp only [Act.put, List.setIfInBounds_toArray, List.set_cons_zero, List.set_cons_succ]
              refine take_JW 3 _ _ (v := ?_) rfl (by kernel_rfl) (by kernel_rfl) (by kernel_rfl) (by kernel_rfl) (fun _ _ _ h => h) rfl hC0 ?_ ?_
              rotate_left
              · intro W hC; obtain rfl : W = wy := hC; go_simp; try with_reducible rfl
              simp only [Act.put, List.setIfInBounds_toArray, List.set_cons_zero, List.set_cons_succ]
              refine take_JW 5 _ _ (v := ?_) rfl (by kernel_rfl) (by kernel_rfl) (by kernel_rfl) (by kernel_rfl) (fun _ _ _ h => h) rfl hC0 ?_ ?_
              rotate_left
              · intro W hC; obtain rfl : W = wy := hC; go_simp; try with_reducible rfl
              simp only [Act.put, List.setIfInBounds_toArray, List.set_cons_zero, List.set_cons_succ]
              refine take_JW 6 _ _ (v := ?_) rfl (by kernel_rfl) (by kernel_rfl) (by kernel_rfl) (by kernel_rfl) (fun _ _ _ h => h) rfl hC0 ?_ ?_
              rotate_left
              · intro W hC; obtain rfl : W = wy := hC; go_simp; try with_reducible rfl
              simp only [Act.put, List.setIfInBounds_toArray, List.set_cons_zero, List.set_cons_succ]
              refine take_JW 7 _ _ (v := ?_) rfl (by kernel_rfl) (by kernel_rfl) (by kernel_rfl) (by kernel_rfl) (fun _ _ _ h => h) rfl hC0 ?_ ?_
              rotate_left
              · intro W hC; obtain rfl : W = wy := hC; go_simp; try with_reducible rfl
              simp only [Act.put, List.setIfInBounds_toArray, List.set_cons_zero, List.set_cons_succ]
              refine take_JW 8 _ _ (v := ?_) rfl (by kernel_rfl) (by kernel_rfl) (by kernel_rfl) (by kernel_rfl) (fun _ _ _ h => h) rfl hC0 ?_ ?_
              rotate_left
              · intro W hC; obtain rfl : W = wy := hC; go_simp; try with_reducible rfl
              simp only [Act.put, List.setIfInBounds_toArray, List.set_cons_zero, List.set_cons_succ]
              refine take_JW 9 _ _ (v := ?_) rfl (by kernel_rfl) (by kernel_rfl) (by kernel_rfl) (by kernel_rfl) (fun _ _ _ h => h) rfl hC0 ?_ ?_
              rotate_left
              · intro W hC; obtain rfl : W = wy := hC; go_simp; try with_reducible rfl
              simp only [Act.put, List.setIfInBounds_toArray, List.set_cons_zero, List.set_cons_succ]
              refine ready_JW 4 _ _ rfl (by kernel_rfl) rfl (fun K hK => ?_)
              go_simp
              with_reducible refine (Waits_any g xq l' _ g2z hxz.out).mono ?_
              rintro e wz ⟨rfl, rfl⟩
              refine hK _ _ (fun _ => hC0) ?_
              clear hK K
              try simp only [Act.put, List.setIfInBounds_toArray, List.set_cons_zero, List.set_cons_succ]
              refine take_JW 10 _ _ (v := ?_) rfl (by kernel_rfl) (by kernel_rfl) (by kernel_rfl) (by kernel_rfl) (fun _ _ _ h => h) rfl hC0 ?_ ?_
              rotate_left
              · intro W hC; obtain rfl : W = wy := hC; go_simp; try with_reducible rfl
              simp only [Act.put, List.setIfInBounds_toArray, List.set_cons_zero, List.set_cons_succ]
              refine take_JW 11 _ _ (v := ?_) rfl (by kernel_rfl) (by kernel_rfl) (by kernel_rfl) (by kernel_rfl) (fun _ _ _ h => h) rfl hC0 ?_ ?_
              rotate_left
              · intro W hC; obtain rfl : W = wy := hC; go_simp; try with_reducible rfl
              simp only [Act.put, List.setIfInBounds_toArray, List.set_cons_zero, List.set_cons_succ]
              refine take_JW 12 _ _ (v := ?_) rfl (by kernel_rfl) (by kernel_rfl) (by kernel_rfl) (by kernel_rfl) (fun _ _ _ h => h) rfl hC0 ?_ ?_
              rotate_left
              · intro W hC; obtain rfl : W = wy := hC; go_simp; try with_reducible rfl
              simp only [Act.put, List.setIfInBounds_toArray, List.set_cons_zero, List.set_cons_succ]
              refine take_JW 14 _ _ (v := ?_) rfl (by kernel_rfl) (by kernel_rfl) (by kernel_rfl) (by kernel_rfl) (fun _ _ _ h => h) rfl hC0 ?_ ?_
              rotate_left
              · intro W hC; obtain rfl : W = wy := hC; go_simp; try with_reducible rfl
              simp only [Act.put, List.setIfInBounds_toArray, List.set_cons_zero, List.set_cons_succ]
              refine take_JW 15 _ _ (v := ?_) rfl (by kernel_rfl) (by kernel_rfl) (by kernel_rfl) (by kernel_rfl) (fun _ _ _ h => h) rfl hC0 ?_ ?_
              rotate_left
              · intro W hC; obtain rfl : W = wy := hC; go_simp; try with_reducible rfl
              simp only [Act.put, List.setIfInBounds_toArray, List.set_cons_zero, List.set_cons_succ]
              refine take_JW 16 _ _ (v := ?_) rfl (by kernel_rfl) (by kernel_rfl) (by kernel_rfl) (by kernel_rfl) (fun _ _ _ h => h) rfl hC0 ?_ ?_
              rotate_left
              · intro W hC; obtain rfl : W = wy := hC; go_simp; try with_reducible rfl
              simp only [Act.put, List.setIfInBounds_toArray, List.set_cons_zero, List.set_cons_succ]
              refine take_JW 17 _ _ (v := ?_) rfl (by kernel_rfl) (by kernel_rfl) (by kernel_rfl) (by kernel_rfl) (fun _ _ _ h => h) rfl hC0 ?_ ?_
              rotate_left
              · intro W hC; obtain rfl : W = wy := hC; go_simp; try with_reducible rfl
              simp only [Act.put, List.setIfInBounds_toArray, List.set_cons_zero, List.set_cons_succ]
              refine ready_JW 13 _ _ rfl (by kernel_rfl) rfl (fun K hK => ?_)
              go_simp
              with_reducible refine (Junk_any g _ _ g3z).mono ?_
              rintro e wz ⟨rfl, rfl⟩
              refine hK _ _ (fun _ => hC0) ?_
              clear hK K
              try simp only [Act.put, List.setIfInBounds_toArray, List.set_cons_zero, List.set_cons_succ]
              refine take_JW 18 _ _ (v := ?_) rfl (by kernel_rfl) (by kernel_rfl) (by kernel_rfl) (by kernel_rfl) (fun _ _ _ h => h) rfl hC0 ?_ ?_
              rotate_left
              · intro W hC; obtain rfl : W = wy := hC; go_simp; try with_reducible rfl
              simp only [Act.put, List.setIfInBounds_toArray, List.set_cons_zero, List.set_cons_succ]
              refine take_JW 19 _ _ (v := ?_) rfl (by kernel_rfl) (by kernel_rfl) (by kernel_rfl) (by kernel_rfl) (fun _ _ _ h => h) rfl hC0 ?_ ?_
              rotate_left
              · intro W hC; obtain rfl : W = wy := hC; go_simp; try with_reducible rfl
              simp only [Act.put, List.setIfInBounds_toArray, List.set_cons_zero, List.set_cons_succ]
              refine take_JW 20 _ _ (v := ?_) rfl (by kernel_rfl) (by kernel_rfl) (by kernel_rfl) (by kernel_rfl) (fun _ _ _ h => h) rfl hC0 ?_ ?_
              rotate_left
              · intro W hC; obtain rfl : W = wy := hC; go_simp; try with_reducible rfl
              simp only [Act.put, List.setIfInBounds_toArray, List.set_cons_zero, List.set_cons_succ]
              refine take_JW 21 _ _ (v := ?_) rfl (by kernel_rfl) (by kernel_rfl) (by kernel_rfl) (by kernel_rfl) (fun _ _ _ h => h) rfl hC0 ?_ ?_
              rotate_left
              · intro W hC; obtain rfl : W = wy := hC; go_simp; try with_reducible rfl
              simp only [Act.put, List.setIfInBounds_toArray, List.set_cons_zero, List.set_cons_succ]
              refine take_JW 23 _ _ (v := ?_) rfl (by kernel_rfl) (by kernel_rfl) (by kernel_rfl) (by kernel_rfl) (fun _ _ _ h => h) rfl hC0 ?_ ?_
              rotate_left
              · intro W hC; obtain rfl : W = wy := hC; go_simp; try with_reducible rfl
              simp only [Act.put, List.setIfInBounds_toArray, List.set_cons_zero, List.set_cons_succ]
              refine take_JW 24 _ _ (v := ?_) rfl (by kernel_rfl) (by kernel_rfl) (by kernel_rfl) (by kernel_rfl) (fun _ _ _ h => h) rfl hC0 ?_ ?_
              rotate_left
              · intro W hC; obtain rfl : W = wy := hC; go_simp; try with_reducible rfl
              simp only [Act.put, List.setIfInBounds_toArray, List.set_cons_zero, List.set_cons_succ]
              refine take_JW 25 _ _ (v := ?_) rfl (by kernel_rfl) (by kernel_rfl) (by kernel_rfl) (by kernel_rfl) (fun _ _ _ h => h) rfl hC0 ?_ ?_
              rotate_left
              · intro W hC; obtain rfl : W = wy := hC; go_simp; try with_reducible rfl
              simp only [Act.put, List.setIfInBounds_toArray, List.set_cons_zero, List.set_cons_succ]
              refine take_JW 26 _ _ (v := ?_) rfl (by kernel_rfl) (by kernel_rfl) (by kernel_rfl) (by kernel_rfl) (fun _ _ _ h => h) rfl hC0 ?_ ?_
              rotate_left
              · intro W hC; obtain rfl : W = wy := hC; go_simp; try with_reducible rfl
              simp only [Act.put, List.setIfInBounds_toArray, List.set_cons_zero, List.set_cons_succ]
              refine ready_JW 22 _ _ rfl (by kernel_rfl) rfl (fun K hK => ?_)
              go_simp
              with_reducible refine (Lost_any g _ _ g4z).mono ?_
              rintro e wz ⟨rfl, rfl⟩
              refine hK _ _ (fun _ => hC0) ?_
              clear hK K
              try simp only [Act.put, List.setIfInBounds_toArray, List.set_cons_zero, List.set_cons_succ]
              refine take_JW 27 _ _ (v := ?_) rfl (by kernel_rfl) (by kernel_rfl) (by kernel_rfl) (by kernel_rfl) (fun _ _ _ h => h) rfl hC0 ?_ ?_
              rotate_left
              · intro W hC; obtain rfl : W = wy := hC; go_simp; try with_reducible rfl
              simp only [Act.put, List.setIfInBounds_toArray, List.set_cons_zero, List.set_cons_succ]
              refine take_JW 28 _ _ (v := ?_) rfl (by kernel_rfl) (by kernel_rfl) (by kernel_rfl) (by kernel_rfl) (fun _ _ _ h => h) rfl hC0 ?_ ?_
              rotate_left
              · intro W hC; obtain rfl : W = wy := hC; go_simp; try with_reducible rfl
              simp only [Act.put, List.setIfInBounds_toArray, List.set_cons_zero, List.set_cons_succ]
              refine take_JW 29 _ _ (v := ?_) rfl (by kernel_rfl) (by kernel_rfl) (by kernel_rfl) (by kernel_rfl) (fun _ _ _ h => h) rfl hC0 ?_ ?_
              rotate_left
              · intro W hC; obtain rfl : W = wy := hC; go_simp; try with_reducible rfl
              simp only [Act.put, List.setIfInBounds_toArray, List.set_cons_zero, List.set_cons_succ]
              refine wpAnyJ_done (by kernel_rfl) ?_ _
              clear t27z s17z s27z s37z g2z g3z g4z hxz hC0
              have t17y := cell_keep hBy.out t17
              have s27y := cell_keep hBy.out s27
              have s37y := cell_keep hBy.out s37
              go_upto_region 32 with fail
              go_quiet (fail)
              have hBz := hd_ (below_drewN (Below.refl wy.heap.size wy) nq)
              generalize wy.drewN nq = wz at *
              go_wp2
              go_roundw
              first
                | exact ⟨k + 1, [], [], [], 0, 0, a + j', bq + lo', by omega, by go_num, rfl, by go_num, by go_num, hd_ ⟨own_nil8 _ _ _, by have := hS7.out.keep (bel_trans hBy.out hBz.out); rw [HL9.out] at this; exact this, bel_trans hB7.out (bel_trans hBy.out hBz.out), rfl, by rw [HRb.out, List.length_nil]; have := HBd.out; have := HJ2.out; omega, by rw [HRb.out, List.length_nil]; have := HBd.out; have := HJ2.out; omega⟩⟩
                | (simp [intOf]; try omega)
              first
                | exact ⟨k + 1, [], [], [], 0, 0, a + j', bq + lo', by omega, by go_num, rfl, by go_num, by go_num, hd_ ⟨own_nil8 _ _ _, by have := hS7.out.keep (bel_trans hBy.out hBz.out); rw [HL9.out] at this; exact this, bel_trans hB7.out (bel_trans hBy.out hBz.out), rfl, by rw [HRb.out, List.length_nil]; have := HBd.out; have := HJ2.out; omega, by rw [HRb.out, List.length_nil]; have := HBd.out; have := HJ2.out; omega⟩⟩
                | (simp [intOf]; try omega)
    · obtain rfl : k = x.length := by omega
      have hB := hd_ HI.out.2.2.1
      clear HI
      go_wp2
      go_ret
      exact ⟨rfl, hB.out⟩
end Go.Proofs.Ytilmmohkdgmhnaa
