/- The document's hasher takes some more. -/
import Derived.Test.YtcaljnlicohkaaaShaW
namespace Go.Proofs.Ytcaljnlicohkaaa
open Go.RowKit
set_option maxRecDepth 100000
set_option linter.unusedVariables false
set_option linter.unusedSimpArgs false
theorem take_next (B : List Int) (k : Nat) (h : k < B.length) : B.take (k + 1) = B.take k ++ [B.getD k 0] := by
  rw [List.take_add_one, List.getElem?_eq_getElem h, List.getD_eq_getElem?_getD, List.getElem?_eq_getElem h]
  rfl
theorem wrap_step (a b : Int) : wrap64 (wrap64 a + b) = wrap64 (a + b) := by
  unfold wrap64
  rw [show (a + 9223372036854775808) % 18446744073709551616 - 9223372036854775808 + b + 9223372036854775808 = (a + 9223372036854775808) % 18446744073709551616 + b by omega, Int.emod_add_emod, show a + 9223372036854775808 + b = a + b + 9223372036854775808 by omega]
theorem wrap_i64_64 (a : Int) : IntKind.i64.wrap a = wrap64 a := by rw [IntKind.wrap_i64, wrap64]
/-- one byte more -/
theorem wr_next (s : List W32) (L : List Int) (x : Int) (h : (wrR L).length = 63) : wrS s (L ++ [x]) = blk (wrS s L) (wrR L ++ [x]) ∧ wrR (L ++ [x]) = [] := by
  rw [← wrS_comp, ← wrR_comp]
  have hl : (wrR L ++ [x]).length = 64 := by rw [List.length_append, h]; rfl
  unfold wrS wrR at *
  constructor
  · rw [hl]; rfl
  · rw [hl]
    exact List.drop_eq_nil_of_le (by rw [hl]; decide)
theorem wr_less (s : List W32) (L : List Int) (x : Int) (h : (wrR L).length < 63) : wrS s (L ++ [x]) = wrS s L ∧ wrR (L ++ [x]) = wrR L ++ [x] := by
  rw [← wrS_comp, ← wrR_comp]
  have hl : (wrR L ++ [x]).length < 64 := by rw [List.length_append, List.length_singleton]; omega
  exact ⟨wrS_short _ _ hl, wrR_short _ hl⟩
def HrPost (w : World) (g : Nat) (v0 : Value) (s : List W32) (rest : List Int) (n : Nat) (w' : World) : Prop :=
  ∃ v, Hr w' g s v rest n ∧ Chg (fun k => k = g ∨ v0.ownBlock = some k) w w' ∧ (∀ k, v.ownBlock = some k → v0.ownBlock = some k ∨ w.heap.size ≤ k)
set_option maxHeartbeats 2000000 in
theorem ref_Write_any (g : Nat) (s : List W32) (v0 : Value) (rest : List Int) (n : Nat) (y : Value) (B : List Int) (w : World) (h : Hr w g s v0 rest n) (hl : rest.length < 64) (HR : Rd w y B) (hB : B.length ≤ 140737488351232) (hy : B ≠ [] → ∀ k, y.ownBlock = some k → k ≠ g ∧ v0.ownBlock ≠ some k) :
    Calls Try.prog 27 #[.pointer (some ⟨g, 0, none⟩), y] w fun e w' => e = .returned (.tuple #[]) ∧ HrPost w g v0 (wrS s (rest ++ B)) (wrR (rest ++ B)) (n + B.length) w' := by
  have hH := hd_ h
  have HRR := hd_ HR
  have hyH := hd_ hy
  have hlH := hd_ hl
  have hgw : Hid (g < w.heap.size) := hd_ h.1.lt
  obtain ⟨AB, cB, rfl, _⟩ := HR.form
  clear h HR hy hl
  go_enter Try.func27, Try.ntmps27
  go_wp2
  go_loopw [4] (fun vi wr => ∃ k : Nat, k ≤ B.length ∧ vi = .int .i64 k ∧ HrPost w g v0 (wrS s (rest ++ B.take k)) (wrR (rest ++ B.take k)) (n + k) wr) (fun i _ => B.length - (intOf i).toNat)
  case atStart =>
    refine ⟨0, Nat.zero_le _, rfl, v0, ?_, Chg.refl _ _, fun k hk => .inl hk⟩
    rw [List.take_zero, List.append_nil, wrS_short _ _ hlH.out, wrR_short _ hlH.out]
    exact hH.out
  case round =>
    obtain ⟨k, hk, rfl, v, hHr, hCh, hown⟩ := hrel
    obtain ⟨L, hL⟩ : ∃ L, L = rest ++ B.take k := ⟨_, rfl⟩
    rw [← hL] at hHr
    by_cases hlt : k < B.length
    · have hltI : ((k : Int) < (B.length : Int)) := by omega
      have hne0 : B ≠ [] := fun e => by rw [e] at hlt; exact absurd hlt (by simp)
      obtain ⟨x, hx⟩ : ∃ x, x = B.getD k 0 := ⟨_, rfl⟩
      have hL1 := hd_ (show rest ++ B.take (k + 1) = L ++ [x] by rw [take_next B k hlt, ← List.append_assoc, hL, hx])
      have hRk := rd_move HRR.out hCh (fun _ b hb => by
        rintro (e | e)
        · exact (hyH.out hne0 b hb).1 e
        · exact (hyH.out hne0 b hb).2 e)
      obtain ⟨A', cap', hv', _, _, _, hc'⟩ := hRk.form
      injection hv' with e1 e2 e3
      obtain ⟨b, off, hA, hcell⟩ := hc' k hlt
      rw [← e1] at hA
      subst hA
      rw [← hx] at hcell
      obtain ⟨hx0, hx1⟩ := byte_at hRk.1 hlt
      rw [← hx] at hx0 hx1
      have hxx := hd_ (And.intro hx0 hx1)
      have hb9 := hHr.1.cell 9 (hr9 hHr.2.2.1)
      have hbne := hyH.out hne0 b rfl
      have hbv : v.ownBlock ≠ some b := fun e => by
        rcases hown b e with h1 | h1
        · exact hbne.2 h1
        · have := rd_lt HRR.out hne0 b rfl; omega
      have hHH := hd_ (And.intro hHr (And.intro hCh (And.intro hown (And.intro hbne hbv))))
      have hRH := hd_ (And.intro hRk (And.intro hx hL))
      have hwrl := hd_ (wrR_length L)
      clear hHr hCh hown hRk hx hL e1 e2 e3 hc' hx0 hx1 hbne hbv
      obtain ⟨Av, cv, rfl, _⟩ := hHH.out.1.2.1.rd.form
      go_upto_region 3 with fail
      have hC0 : (fun W : World => W.cell? ⟨g, 9, none⟩ = some (.slice Av (wrR L).length cv) ∧ W.cell? ⟨b, off + k, none⟩ = some (.int .u8 x)) wr.drew := ⟨cell_keep (Below.refl wr.heap.size wr).drew hb9, cell_keep (Below.refl wr.heap.size wr).drew hcell⟩
      refine region_J [13] (fun W : World => W.cell? ⟨g, 9, none⟩ = some (.slice Av (wrR L).length cv) ∧ W.cell? ⟨b, off + k, none⟩ = some (.int .u8 x)) (by kernel_rfl) ?_
      refine take_J 0 _ _ (v := ?_) rfl (by kernel_rfl) (by kernel_rfl) (by kernel_rfl) (by kernel_rfl) (fun _ _ _ h => h) rfl hC0 ?_ ?_
      rotate_left
      · intro W hC; go_simp; try with_reducible rfl
      simp only [Act.put, List.setIfInBounds_toArray, List.set_cons_zero, List.set_cons_succ]
      refine take_J 1 _ _ (v := ?_) rfl (by kernel_rfl) (by kernel_rfl) (by kernel_rfl) (by kernel_rfl) (fun _ _ _ h => h) rfl hC0 ?_ ?_
      rotate_left
      · intro W hC; go_simp; try with_reducible rfl
      simp only [Act.put, List.setIfInBounds_toArray, List.set_cons_zero, List.set_cons_succ]
      refine take_J 2 _ _ (v := ?_) rfl (by kernel_rfl) (by kernel_rfl) (by kernel_rfl) (by kernel_rfl) (fun _ _ _ h => h) rfl hC0 ?_ ?_
      rotate_left
      · intro W hC; go_simp; try with_reducible rfl
      simp only [Act.put, List.setIfInBounds_toArray, List.set_cons_zero, List.set_cons_succ]
      refine take_J 3 _ _ (v := ?_) rfl (by kernel_rfl) (by kernel_rfl) (by kernel_rfl) (by kernel_rfl) (fun _ _ _ h => h) rfl hC0 ?_ ?_
      rotate_left
      · intro W hC; go_simp; try with_reducible rfl
      simp only [Act.put, List.setIfInBounds_toArray, List.set_cons_zero, List.set_cons_succ]
      refine take_J 5 _ _ (v := ?_) rfl (by kernel_rfl) (by kernel_rfl) (by kernel_rfl) (by kernel_rfl) (fun _ _ _ h => h) rfl hC0 ?_ ?_
      rotate_left
      · intro W hC; go_simp; try with_reducible rfl
      simp only [Act.put, List.setIfInBounds_toArray, List.set_cons_zero, List.set_cons_succ]
      refine take_J 6 _ _ (v := ?_) rfl (by kernel_rfl) (by kernel_rfl) (by kernel_rfl) (by kernel_rfl) (fun _ _ _ h => h) rfl hC0 ?_ ?_
      rotate_left
      · intro W hC; go_simp; try with_reducible rfl
      simp only [Act.put, List.setIfInBounds_toArray, List.set_cons_zero, List.set_cons_succ]
      refine take_J 7 _ _ (v := ?_) rfl (by kernel_rfl) (by kernel_rfl) (by kernel_rfl) (by kernel_rfl) (fun _ _ _ h => h) rfl hC0 ?_ ?_
      rotate_left
      · intro W hC; go_simp; try with_reducible rfl
      simp only [Act.put, List.setIfInBounds_toArray, List.set_cons_zero, List.set_cons_succ]
      refine take_J 4 _ _ (v := ?_) rfl (by kernel_rfl) (by kernel_rfl) (by kernel_rfl) (by kernel_rfl) (fun _ _ _ h => h) rfl hC0 ?_ ?_
      rotate_left
      · intro W hC; obtain ⟨hc1, hc2⟩ := hC; go_simp; try with_reducible rfl
      simp only [Act.put, List.setIfInBounds_toArray, List.set_cons_zero, List.set_cons_succ]
      refine take_J 8 _ _ (v := ?_) rfl (by kernel_rfl) (by kernel_rfl) (by kernel_rfl) (by kernel_rfl) (fun _ _ _ h => h) rfl hC0 ?_ ?_
      rotate_left
      · intro W hC; obtain ⟨hc1, hc2⟩ := hC; go_simp; try with_reducible rfl
      simp only [Act.put, List.setIfInBounds_toArray, List.set_cons_zero, List.set_cons_succ]
      refine ready_J 9 _ _ rfl (by kernel_rfl) rfl (fun K hK => ?_)
      go_simp
      have HB2 : Below wr.heap.size wr ((wr.alloc (.cells #[.int .u8 x] 5)).drew) := (al1 (Below.refl wr.heap.size wr) (.cells #[.int .u8 x] 5)).drew
      have hRn : Rd ((wr.alloc (.cells #[.int .u8 x] 5)).drew) (.slice (some ⟨wr.heap.size, 0, none⟩) 1 1) [x] := (rd_new (w := wr) (cs := #[.int .u8 x]) (t := 5) (fr := (0, 0)) [x] rfl rfl (one_bytes hxx.out.1 hxx.out.2) (show 1 ≤ maxLen by decide)).keep (Below.refl _ _).drew
      refine hK _ _ (fun _ => ⟨cell_keep HB2 hb9, cell_keep HB2 hcell⟩) ?_
      clear hK K hC0
      generalize (wr.alloc (.cells #[.int .u8 x] 5)).drew = W2 at *
      obtain ⟨hHr, hCh, hown, hbne, hbv⟩ := hHH.out
      have hb2 := hHr.1.keep HB2
      have hcell2 := cell_keep HB2 hcell
      have hO2 := hHr.2.1.keep HB2
      have hC2 := hCh.trans (Chg.below (S := fun k => k = g ∨ v0.ownBlock = some k) HB2) (fun b _ h => h)
      refine ready_J 10 _ _ rfl (by kernel_rfl) rfl (fun K hK => ?_)
      refine wp_app_N rfl _ _ 34 5 rfl Try.underlying34 infoB (.slice Av (wrR L).length cv) (.slice (some ⟨wr.heap.size, 0, none⟩) 1 1) (wrR L) [x] rfl rfl hO2 hRn (by have := hwrl.out; simp only [List.length_cons, List.length_nil]; omega) (fun v1 w1 HO1 hc1 hat1 => ?_)
      have hvne := hHr.ne
      have hb3 := hb2.chg hc1 hvne
      have hcell3 := hc1.cell hcell2 hbv
      have q3 := hb3.cell 9 (hr9 hHr.2.2.1)
      refine hK _ _ (fun _ => ⟨q3, hcell3⟩) ?_
      clear hK K
      have hC1 : (fun W : World => W.cell? ⟨g, 9, none⟩ = some (.slice Av (wrR L).length cv) ∧ W.cell? ⟨b, off + k, none⟩ = some (.int .u8 x)) w1 := ⟨q3, hcell3⟩
      have hown1 : ∀ kk, v1.ownBlock = some kk → v0.ownBlock = some kk ∨ w.heap.size ≤ kk := fun kk hkk => by
        rcases hat1 with h1 | h1
        · exact hown kk (h1 ▸ hkk)
        · have := h1 kk hkk; have := hC2.size; right; omega
      have hvn0 : v1.ownBlock ≠ some g := fun e => by
        rcases hat1 with h1 | h1
        · exact hvne (h1 ▸ e)
        · have := h1 g e; have := hb2.lt; omega
      have hC3 := hC2.trans hc1 (fun b hb e => (hown b e).elim .inr (fun h => by omega))
      obtain ⟨M, hM⟩ : ∃ M, M = wrR L ++ [x] := ⟨_, rfl⟩
      rw [← hM] at HO1
      have hMl := hd_ (show M.length = (wrR L).length + 1 by rw [hM, List.length_append]; rfl)
      have hMh := hd_ hM
      clear hM
      obtain ⟨A1, c1, rfl, _⟩ := HO1.rd.form
      have f3 := hb3.frozen 9
      refine ready_J 11 _ _ rfl (by kernel_rfl) rfl (fun K hK => ?_)
      go_simp
      refine hK _ _ (fun _ => hC1) ?_
      clear hK K
      refine ready_J 12 _ _ rfl (by kernel_rfl) rfl (fun K hK => ?_)
      go_simp
      refine hK _ _ (fun _ => hC1) ?_
      clear hK K
      refine ready_J 13 _ _ rfl (by kernel_rfl) rfl (fun K hK => ?_)
      go_simp
      refine hK _ _ (fun h => absurd h (by decide)) ?_
      clear hK K
      obtain ⟨p4, g4⟩ := hb3.put 9 (.slice A1 M.length c1)
      rw [hr9s hHr.2.2.1] at p4
      have hvn1 : (Value.slice A1 M.length c1).ownBlock ≠ some g := hvn0
      have hO4 := HO1.chg (Chg.of g4) (fun k hk (e : some k = some g) => hvn1 (by rw [hk, e]))
      have hC4 := hC3.trans (Chg.of g4) (fun b hb (e : some b = some g) => by injection e with e; exact .inl e)
      generalize w1.setCell ⟨g, 9, none⟩ (.slice A1 M.length c1) = W4 at *
      refine wpAnyJ_done (by kernel_rfl) ?_ _
      obtain ⟨S, hS⟩ : ∃ S, S = wrS s L := ⟨_, rfl⟩
      rw [← hS] at p4 hHr
      obtain ⟨z, hz⟩ : ∃ z, z = IntKind.i64.wrap ((n + k : Nat) : Int) := ⟨_, rfl⟩
      rw [← hz] at p4
      obtain ⟨z1, hz1⟩ : ∃ z1, z1 = IntKind.i64.wrap ((n + (k + 1) : Nat) : Int) := ⟨_, rfl⟩
      have hzz : wrap64 (z + 1) = z1 := by
        rw [hz1, hz, wrap_i64_64, wrap_i64_64, wrap_step]
        exact congrArg wrap64 (by push_cast; rw [Int.add_assoc])
      have hzH := hd_ hz1
      clear hz hz1
      have h8 := hHr.2.2.1
      have q48 := p4.cell 8 (hr8 h8)
      have q49 := p4.cell 9 (hr9 h8)
      have f48 := p4.frozen 8
      have hP4 := hd_ (And.intro p4 (And.intro hO4 (And.intro hC4 (And.intro hown1 (And.intro h8 hvn1)))))
      have hMS := hd_ (And.intro hMh.out (And.intro hS hMl.out))
      have hkH := hd_ hk
      clear p4 hO4 hC4 hown1 hHr hMh hS hMl HO1 hc1 hat1 hvn0 hb3 hcell3 q3 hC1 hC3 f3 g4 hvn1 hvne hC2 hO2 hb2 hcell2 HB2 hRn hb9 hcell hbne hbv hown hCh hk
      by_cases h63 : M.length = 64
      · have hMi : ((M.length : Int) = 64) := by omega
        have h63H := hd_ h63
        clear h63
        go_upto_region 6 with fail
        obtain ⟨p4, hO4, hC4, hown1, h8', hvn1⟩ := hP4.out
        obtain ⟨p5, g5⟩ := p4.put 8 (.int .i64 z1)
        rw [hr8s h8] at p5
        have hO5 := hO4.chg (Chg.of g5) (fun k hk (e : some k = some g) => hvn1 (by rw [hk, e]))
        have hC5 := hC4.trans (Chg.of g5) (fun b hb (e : some b = some g) => by injection e with e; exact .inl e)
        generalize W4.setCell ⟨g, 8, none⟩ (.int .i64 z1) = W5 at *
        have hC0 : (fun W : World => Box W g 64 (hrC S z1 (.slice A1 M.length c1))) W5.drew := p5.keep (Below.refl W5.heap.size W5).drew
        have hsz2 : (wA S).size = 8 := by rw [wA_size, h8]
        refine region_J [12] (fun W : World => Box W g 64 (hrC S z1 (.slice A1 M.length c1))) (by kernel_rfl) ?_
        refine take_J 0 _ _ (v := ?_) rfl (by kernel_rfl) (by kernel_rfl) (by kernel_rfl) (by kernel_rfl) (fun _ _ _ h => h) rfl hC0 ?_ ?_
        rotate_left
        · intro W hC; go_simp; try with_reducible rfl
        simp only [Act.put, List.setIfInBounds_toArray, List.set_cons_zero, List.set_cons_succ]
        refine take_J 1 _ _ (v := ?_) rfl (by kernel_rfl) (by kernel_rfl) (by kernel_rfl) (by kernel_rfl) (fun _ _ _ h => h) rfl hC0 ?_ ?_
        rotate_left
        · intro W hC; go_simp; try with_reducible rfl
        simp only [Act.put, List.setIfInBounds_toArray, List.set_cons_zero, List.set_cons_succ]
        refine take_J 2 _ _ (v := ?_) rfl (by kernel_rfl) (by kernel_rfl) (by kernel_rfl) (by kernel_rfl) (fun _ _ _ h => h) rfl hC0 ?_ ?_
        rotate_left
        · intro W hC; go_simp; try with_reducible rfl
        simp only [Act.put, List.setIfInBounds_toArray, List.set_cons_zero, List.set_cons_succ]
        refine take_J 3 _ _ (v := ?_) rfl (by kernel_rfl) (by kernel_rfl) (by kernel_rfl) (by kernel_rfl) (fun _ _ _ h => h) rfl hC0 ?_ ?_
        rotate_left
        · intro W hC; go_simp; try with_reducible rfl
        simp only [Act.put, List.setIfInBounds_toArray, List.set_cons_zero, List.set_cons_succ]
        refine take_J 5 _ _ (v := ?_) rfl (by kernel_rfl) (by kernel_rfl) (by kernel_rfl) (by kernel_rfl) (fun _ _ _ h => h) rfl hC0 ?_ ?_
        rotate_left
        · intro W hC; go_simp; try with_reducible rfl
        simp only [Act.put, List.setIfInBounds_toArray, List.set_cons_zero, List.set_cons_succ]
        refine take_J 6 _ _ (v := ?_) rfl (by kernel_rfl) (by kernel_rfl) (by kernel_rfl) (by kernel_rfl) (fun _ _ _ h => h) rfl hC0 ?_ ?_
        rotate_left
        · intro W hC; go_simp; try with_reducible rfl
        simp only [Act.put, List.setIfInBounds_toArray, List.set_cons_zero, List.set_cons_succ]
        refine take_J 7 _ _ (v := ?_) rfl (by kernel_rfl) (by kernel_rfl) (by kernel_rfl) (by kernel_rfl) (fun _ _ _ h => h) rfl hC0 ?_ ?_
        rotate_left
        · intro W hC; go_simp; try with_reducible rfl
        simp only [Act.put, List.setIfInBounds_toArray, List.set_cons_zero, List.set_cons_succ]
        refine take_J 4 _ _ rfl (by kernel_rfl) (by kernel_rfl) (by kernel_rfl) (by kernel_rfl) (fun _ _ _ h => h) rfl hC0 (fun W hC => exec_load_mid 46 _ rfl g 0 rfl (wA S).toList _ ?_ Try.underlying46 rfl (by rw [Array.length_toList, hsz2]; exact infoW8)) ?_
        · intro j u hj
          rw [Array.getElem?_toList] at hj
          have hjl : j < (wA S).size := (Array.getElem?_eq_some_iff.1 hj).1
          rw [← hj]
          exact Box.part (ds := wA S) hC 0 (fun j hj => by rw [Nat.zero_add]; unfold hrC; rw [Array.getElem?_append_left hj]) j hjl
        simp only [Act.put, List.setIfInBounds_toArray, List.set_cons_zero, List.set_cons_succ, Array.toArray_toList]
        refine take_J 8 _ _ (v := ?_) rfl (by kernel_rfl) (by kernel_rfl) (by kernel_rfl) (by kernel_rfl) (fun _ _ _ h => h) rfl hC0 ?_ ?_
        rotate_left
        · intro W hC; have c9 := Box.cell hC 9 (hr9 h8); go_simp; try with_reducible rfl
        simp only [Act.put, List.setIfInBounds_toArray, List.set_cons_zero, List.set_cons_succ]
        refine ready_J 9 _ _ rfl (by kernel_rfl) rfl (fun K hK => ?_)
        go_simp
        have h8b := blk_length h8 M
        have hsz3 : (wA (blk S M)).size = 8 := by rw [wA_size, h8b]
        with_reducible refine (ref_block_any S h8 _ M _ (hO5.rd.keep (Below.refl W5.heap.size W5).drew) (by rw [h63H.out]; exact Nat.le_refl _)).mono ?_
        rintro e w6 ⟨rfl, HB6⟩
        have hbb := bel_trans (Below.refl W5.heap.size W5).drew HB6
        have hC6' := p5.keep hbb
        refine hK _ _ (fun _ => hC6') ?_
        clear hK K
        refine ready_J 10 _ _ rfl (by kernel_rfl) rfl (fun K hK => ?_)
        go_simp
        refine hK _ _ (fun _ => hC6') ?_
        clear hK K
        refine ready_J 11 _ _ rfl (by kernel_rfl) rfl (fun K hK => ?_)
        go_simp
        refine hK _ _ (fun _ => hC6') ?_
        clear hK K
        refine ready_J 12 _ _ rfl (by kernel_rfl) rfl (fun K hK => ?_)
        refine wp_store_mid _ _ _ rfl g 0 (wA (blk S M)) rfl rfl (hC6'.there 0 _ (by rw [hsz3, hrC_size h8]; decide)) (by rw [hsz3]; exact infoW8) (wA_one _) ?_
        refine hK _ _ (fun h => absurd h (by decide)) ?_
        clear hK K
        obtain ⟨p7, hC7⟩ := hC6'.puts (wA (blk S M)).toList 0
        rw [setL8r h8 h8b] at p7
        have hC8 := (hC5.trans (Chg.below (S := fun k => k = g) hbb) (fun b _ h => .inl h)).trans hC7 (fun b _ h => .inl h)
        generalize w6.setCells g 0 (wA (blk S M)).toList = w7 at *
        refine wpAnyJ_done (by kernel_rfl) ?_ _
        have q7 := p7.cell 9 (hr9 h8b)
        have f7 := p7.frozen 9
        go_wp2
        obtain ⟨p8, g8⟩ := p7.put 9 (.slice none 0 0)
        rw [hr9s h8b] at p8
        have hC9 := hC8.trans (Chg.of g8) (fun b hb (e : some b = some g) => by injection e with e; exact .inl e)
        obtain ⟨hM, hS, hMl⟩ := hMS.out
        obtain ⟨e1, e2⟩ := wr_next s L x (by have := h63H.out; omega)
        refine ⟨⟨k + 1, hlt, by go_num, ?_⟩, by simp [intOf]; omega⟩
        rw [hL1.out, e1, e2, ← hM, ← hS]
        exact ⟨_, ⟨by rw [← hzH.out]; exact p8, OwnN.nil _, h8b, by simp [Value.ownBlock]⟩, hC9, fun kk hkk => absurd hkk (by simp [Value.ownBlock])⟩
      · have hMi : ¬ ((M.length : Int) = 64) := by omega
        have h63H := hd_ h63
        clear h63
        go_wp2
        obtain ⟨p4, hO4, hC4, hown1, h8', hvn1⟩ := hP4.out
        obtain ⟨p5, g5⟩ := p4.put 8 (.int .i64 z1)
        rw [hr8s h8] at p5
        have hO5 := hO4.chg (Chg.of g5) (fun k hk (e : some k = some g) => hvn1 (by rw [hk, e]))
        have hC5 := hC4.trans (Chg.of g5) (fun b hb (e : some b = some g) => by injection e with e; exact .inl e)
        obtain ⟨hM, hS, hMl⟩ := hMS.out
        have hwl := hwrl.out
        obtain ⟨e1, e2⟩ := wr_less s L x (by have := h63H.out; omega)
        refine ⟨⟨k + 1, hlt, by go_num, ?_⟩, by simp [intOf]; omega⟩
        rw [hL1.out, e1, e2, ← hM, ← hS]
        exact ⟨_, ⟨by rw [← hzH.out]; exact p5, hO5, h8, hvn1⟩, hC5, hown1⟩
    · have hkE : k = B.length := by omega
      subst hkE
      rw [List.take_length] at hL
      rw [hL] at hHr
      have hltI : ¬ ((B.length : Int) < (B.length : Int)) := by omega
      have hF := hd_ (And.intro hHr (And.intro hCh hown))
      clear hHr hCh hown hL
      go_wp2
      refine bodyPost_end (results_none rfl _ _ _) rfl ?_
      exact ⟨rfl, v, hF.out.1, hF.out.2.1, hF.out.2.2⟩
end Go.Proofs.Ytcaljnlicohkaaa
