/- The document's Own: any lists of one's own, each apart from the others. -/
import Derived.Test.YtdmogbkfmeihfaaOwB
import Derived.Test.YtdmogbkfmeihfaaRegJ
namespace Go.Proofs.Ytdmogbkfmeihfaa
open Go.RowKit
set_option maxRecDepth 100000
set_option linter.unusedVariables false
theorem own_forms {w : World} {n : Nat} {vs : Nat → Value} {xs : Nat → List Int} (h : ∀ j, j < n → OwnN w (vs j) (xs j)) : VF w n vs (fun j => (xs j).length) := fun j hj => by
  rcases h j hj with ⟨h1, h2⟩ | ⟨_, g, cap, h1, _, h3, h4, h5, _⟩
  · exact .inl ⟨h1, by simp only [h2]; rfl⟩
  · exact .inr ⟨g, cap, h1, h4, h5, h3⟩
theorem infoSl : (Try.prog.info? 22).map (fun i => (i.zero, i.size, i.bytes)) = some (some (.slice none 0 0), 1, 24) := by kernel_rfl
theorem own_slice {w : World} {v : Value} {xs : List Int} (h : OwnN w v xs) : ∃ A c, v = .slice A xs.length c := by
  rcases h with ⟨h1, h2⟩ | ⟨_, g, cap, h1, _⟩
  · exact ⟨none, 0, by rw [h1, h2]; rfl⟩
  · exact ⟨_, _, h1⟩
theorem meas_k1x (k n : Nat) (h : k < n) : n - ((k : Int) + 1).toNat < n - k := by omega
theorem own_at (i k l : Nat) (h : k < l + 96) : (mkL i l ++ mkL (i + 7) 16 ++ mkL (i + 13) 80).getD k 0 = if k < l then mkB i k else if k < l + 16 then mkB (i + 7) (k - l) else mkB (i + 13) (k - l - 16) := by
  rw [List.getD_eq_getElem?_getD]
  by_cases h1 : k < l
  · rw [if_pos h1, List.append_assoc, List.getElem?_append_left (by rw [mkL_length]; exact h1), ← List.getD_eq_getElem?_getD, mkL_getD _ _ _ h1]
  rw [if_neg h1]
  by_cases h2 : k < l + 16
  · rw [if_pos h2, List.append_assoc, List.getElem?_append_right (by rw [mkL_length]; omega), mkL_length, List.getElem?_append_left (by rw [mkL_length]; omega), ← List.getD_eq_getElem?_getD, mkL_getD _ _ _ (by omega)]
  · rw [if_neg h2, List.getElem?_append_right (by rw [List.length_append, mkL_length, mkL_length]; omega), List.length_append, mkL_length, mkL_length, ← List.getD_eq_getElem?_getD, mkL_getD _ _ _ (by omega), Nat.sub_sub]
theorem mk_int (i c : Nat) (h : i ≤ 1000) (hc : c ≤ 1000) : wrap64 ((i : Int) + (c : Int)) = ((i + c : Nat) : Int) := by unfold wrap64; omega
set_option maxHeartbeats 8000000 in
theorem Own_any (n : Nat) (hn : n ≤ 1000) (gl cap0 : Nat) (hcap : n ≤ cap0) (hcm : cap0 ≤ maxLen) (vs : Nat → Value) (xs : Nat → List Int) (w : World) (hcell : ∀ j, j < n → w.cell? ⟨gl, j, none⟩ = some (vs j)) (hown : ∀ j, j < n → OwnN w (vs j) (xs j)) (hlen : ∀ j, j < n → (xs j).length ≤ 70368744177664)
    (hd : ∀ i j, i < n → j < n → i ≠ j → ∀ b, (vs i).ownBlock = some b → (vs j).ownBlock ≠ some b) (hgl : ∀ j, j < n → (vs j).ownBlock ≠ some gl) :
    Calls Try.prog 27 #[.slice (some ⟨gl, 0, none⟩) n cap0] w fun e w' => e = .returned (.bool true) ∧ Chg (fun b => ∃ j, j < n ∧ (vs j).ownBlock = some b) w w' := by
  obtain ⟨ls, hls⟩ : ∃ ls : Nat → Nat, ls = fun j => (xs j).length := ⟨_, rfl⟩
  have F := own_forms hown
  rw [← hls] at F
  have hF := hd_ F
  have hL := hd_ (show ∀ j, j < n → ls j ≤ 70368744177664 from fun j hj => by rw [hls]; exact hlen j hj)
  have hDs := hd_ hd
  have hP0 := hd_ (show OwP w w n vs ls xs from ⟨hown, fun j hj => by rw [hls], Chg.refl _ _⟩)
  have hgH := hd_ hgl
  have hcl := hd_ (fun W (hC : Chg (fun b => ∃ j, j < n ∧ (vs j).ownBlock = some b) w W) j (hj : j < n) => hC.cell (hcell j hj) (fun ⟨k, hk, e⟩ => hgl k hk e))
  have hnl := hd_ (show ∀ j, j < n → ∀ W, Sem.run Try.prog (Builtin.len_ #[22] 3 #[vs j]) W = .ok (.int .i64 (ls j : Int)) W from fun j hj W => by rw [hls]; exact (hown j hj).rd.2.len (P := Try.prog) 22 5 3 Try.underlying22 W)
  have hcm2 : cap0 ≤ 9223372036854775807 := hcm
  clear F hcell hown hlen hd hgl hcm
  clear hls
  go_enter Try.func27, Try.ntmps27
  go_upto_region 2 with fail
  go_loopw [17] (fun vi wr => ∃ (i : Nat) (ys : Nat → List Int), i ≤ n ∧ vi = .int .i64 (i : Int) ∧ OwP w wr n vs ls ys ∧ ∀ j, j < i → ys j = mkL j (ls j)) (fun vi _ => n - (intOf vi).toNat)
  case atStart => exact ⟨0, xs, Nat.zero_le _, rfl, hP0.out, fun j hj => absurd hj (Nat.not_lt_zero j)⟩
  case round =>
    clear hP0
    obtain ⟨i, ys, hi, rfl, hP, hm⟩ := hrel
    by_cases hlt : i < n
    · have hiI : (i : Int) < (n : Int) := by omega
      have hci := hcl.out _ hP.chg i hlt
      have hPH := hd_ hP
      have hmH := hd_ hm
      have hltH := hd_ hlt
      have hln := hnl.out i hlt
      clear hP hm
      go_upto_region 5 with fail
      go_loopw [25] (fun vk wr => ∃ (k : Nat) (ys : Nat → List Int) (L : List Int), k ≤ ls i ∧ vk = .int .i64 (k : Int) ∧ OwP w wr n vs ls ys ∧ (∀ j, j < i → ys j = mkL j (ls j)) ∧ L.length = ls i ∧ ys i = mkL i k ++ L.drop k) (fun vk _ => ls i - (intOf vk).toNat)
      case atStart => exact ⟨0, ys, ys i, Nat.zero_le _, rfl, hPH.out, hmH.out, hPH.out.len i hlt, by rw [List.drop_zero]; rfl⟩
      case round =>
        clear hPH hmH hci
        obtain ⟨k, ys, L, hk, rfl, hP, hm, hLl, hyi⟩ := hrel
        by_cases hkl : k < ls i
        · have hkI : (k : Int) < (ls i : Int) := by omega
          have hLi := hL.out i hlt
          obtain ⟨g, capi, hvi, hc1, hc2, hgw⟩ : ∃ g cap, vs i = .slice (some ⟨g, 0, none⟩) (ls i) cap ∧ ls i ≤ cap ∧ cap ≤ maxLen ∧ g < w.heap.size := by
            rcases hF.out i hlt with ⟨_, h2⟩ | h2
            · omega
            · exact h2
          have hyl := hP.len i hlt
          have hOi := hP.own i hlt
          obtain ⟨b0, b1⟩ := mkB_byte i k
          have hput := hP.put hDs.out i hlt g (ls i) capi hvi k (by omega) (mkB i k) b0 b1
          have hset : (ys i).set k (mkB i k) = mkL i (k + 1) ++ L.drop (k + 1) := by rw [hyi]; exact mkL_set i k L (by omega)
          have hfree : ∀ W, Chg (fun _ => False) wr W → W.frozen? ⟨g, k, none⟩ = false ∧ (W.cell? ⟨g, k, none⟩).isSome = true := fun W hW => by
            rcases hOi with ⟨h2, _⟩ | h2
            · rw [hvi] at h2; cases h2
            · have h3 := h2.chg hW (fun _ _ h => h)
              obtain ⟨_, g2, cap2, hv2, _, _, k3, k4, _, k6, k7⟩ := h3
              rw [hvi] at hv2
              injection hv2 with e1 e2 e3
              injection e1 with e1
              injection e1 with e1
              subst e1
              exact ⟨k7 k (by omega), k6 k (by omega)⟩
          have hcd : ∀ j, j < n → wr.drew.cell? ⟨gl, j, none⟩ = some (vs j) := hcl.out _ (hP.chg.trans (Chg.below (S := fun _ => False) (Below.refl wr.heap.size wr).drew) (fun _ _ h => h.elim))
          have hPd := hd_ ((hP.keep (Below.refl wr.heap.size wr).drew).put hDs.out i hlt g (ls i) capi hvi k (by omega) (mkB i k) b0 b1)
          have hst := hd_ (And.intro hset (And.intro hm (And.intro hLl hkl)))
          have hfd := hfree _ (Chg.below (Below.refl wr.heap.size wr).drew)
          have hcap2 : capi ≤ 9223372036854775807 := hc2
          have hviH := hd_ hvi
          clear hput hset hOi hfree hyi hm hLl hyl
          go_upto_region 7 with fail
          have hC0 : (fun W : World => W.cell? ⟨gl, i, none⟩ = some (.slice (some ⟨g, 0, none⟩) (ls i) capi)) wr.drew := by rw [← hvi]; exact hcd i hlt
          refine region_J [9] (fun W : World => W.cell? ⟨gl, i, none⟩ = some (.slice (some ⟨g, 0, none⟩) (ls i) capi)) (by kernel_rfl) ?_
          generalize wr.drew = W1 at *
          refine take_J 0 _ _ (v := ?_) rfl (by kernel_rfl) (by kernel_rfl) (by kernel_rfl) (by kernel_rfl) (fun _ _ _ h => h) rfl hC0 ?_ ?_
          rotate_left
          · intro W hC; go_simp; try with_reducible rfl
          simp only [Act.put, List.setIfInBounds_toArray, List.set_cons_zero, List.set_cons_succ]
          refine take_J 1 _ _ (v := ?_) rfl (by kernel_rfl) (by kernel_rfl) (by kernel_rfl) (by kernel_rfl) (fun _ _ _ h => h) rfl hC0 ?_ ?_
          rotate_left
          · intro W hC; go_simp; try with_reducible rfl
          simp only [Act.put, List.setIfInBounds_toArray, List.set_cons_zero, List.set_cons_succ]
          refine take_J 2 _ _ (v := ?_) rfl (by kernel_rfl) (by kernel_rfl) (by kernel_rfl) (by kernel_rfl) (fun _ _ _ h => h) rfl hC0 ?_ ?_
          rotate_left
          · intro W hC; go_simp; try with_reducible rfl
          simp only [Act.put, List.setIfInBounds_toArray, List.set_cons_zero, List.set_cons_succ]
          refine take_J 3 _ _ (v := ?_) rfl (by kernel_rfl) (by kernel_rfl) (by kernel_rfl) (by kernel_rfl) (fun _ _ _ h => h) rfl hC0 ?_ ?_
          rotate_left
          · intro W hC; go_simp; try with_reducible rfl
          simp only [Act.put, List.setIfInBounds_toArray, List.set_cons_zero, List.set_cons_succ]
          refine take_J 4 _ _ (v := ?_) rfl (by kernel_rfl) (by kernel_rfl) (by kernel_rfl) (by kernel_rfl) (fun _ _ _ h => h) rfl hC0 ?_ ?_
          rotate_left
          · intro W hC; go_simp; try with_reducible rfl
          simp only [Act.put, List.setIfInBounds_toArray, List.set_cons_zero, List.set_cons_succ]
          refine take_J 5 _ _ (v := ?_) rfl (by kernel_rfl) (by kernel_rfl) (by kernel_rfl) (by kernel_rfl) (fun _ _ _ h => h) rfl hC0 ?_ ?_
          rotate_left
          · intro W hC; go_simp; try with_reducible rfl
          simp only [Act.put, List.setIfInBounds_toArray, List.set_cons_zero, List.set_cons_succ]
          refine take_J 6 _ _ (v := ?_) rfl (by kernel_rfl) (by kernel_rfl) (by kernel_rfl) (by kernel_rfl) (fun _ _ _ h => h) rfl hC0 ?_ ?_
          rotate_left
          · intro W hC; go_simp; try with_reducible rfl
          simp only [Act.put, List.setIfInBounds_toArray, List.set_cons_zero, List.set_cons_succ]
          refine ready_J 7 _ _ rfl (by kernel_rfl) rfl (fun K hK => ?_)
          go_simp
          with_reducible refine (mark_any i k (by omega) (by omega) W1).mono ?_
          rintro e w7 ⟨rfl, rfl⟩
          refine hK _ _ (fun _ => hC0) ?_
          clear hK K
          refine ready_J 8 _ _ rfl (by kernel_rfl) rfl (fun K hK => ?_)
          go_simp
          refine hK _ _ (fun _ => hC0) ?_
          clear hK K
          obtain ⟨f1, f2⟩ := hfd
          obtain ⟨x0, f3⟩ := Option.isSome_iff_exists.1 f2
          clear hvi
          refine ready_J 9 _ _ rfl (by kernel_rfl) rfl (fun K hK => ?_)
          go_simp
          refine hK _ _ (fun h => absurd h (by decide)) ?_
          clear hK K
          refine wpAnyJ_done (by kernel_rfl) ?_ _
          generalize W1.setCell ⟨g, k, none⟩ (.int .u8 (mkB i k)) = W2 at *
          rw [← hviH.out]
          obtain ⟨s1, s2, s3, s4⟩ := hst.out
          go_wp2
          go_roundw
          case rel => exact ⟨k + 1, _, L, s4, by go_num, hPd.out, fun j hj => by rw [updL_ne _ _ _ _ (by omega)]; exact s2 j hj, s3, by rw [updL_self]; exact s1⟩
          case measure => (simp [intOf]; try omega)
        · obtain rfl : k = ls i := by omega
          have hyE : ys i = mkL i (ls i) := by rw [hyi, List.drop_of_length_le (by omega), List.append_nil]
          have hPe := hd_ hP
          have hme := hd_ (show ∀ j, j < i + 1 → ys j = mkL j (ls j) from fun j hj => by
            by_cases e : j = i
            · rw [e]; exact hyE
            · exact hm j (by omega))
          clear hP hm hyi hyE
          go_wp2
          go_roundw
          case rel => exact ⟨i + 1, ys, hltH.out, by go_num, hPe.out, hme.out⟩
          case measure => (simp [intOf]; try omega)
    · have hin : i = n := by omega
      have hO := hd_ (hP.done hDs.out (fun j hj => hm j (by omega)))
      have hyA := hd_ (show ∀ j, j < n → ys j = mkL j (ls j) from fun j hj => hm j (by omega))
      have hbz := hP.chg.size
      subst hin
      clear hP hm hi hlt
      have hzI := infoSl
      go_upto_region 12 with (at_make; refine make_crow rfl _ _ 98 22 rfl Try.underlying98 infoSl i rfl rfl hn ?_; intro w1 hG1 hB1)
      have hG := hd_ hG1
      have hO1 := hd_ (hO.out.keep hB1)
      obtain ⟨gg, hgg⟩ : ∃ gg, gg = wr.heap.size := ⟨_, rfl⟩
      have hgw := hd_ (show w.heap.size ≤ gg by omega)
      have hne0 := hd_ (show ∀ j, j < i → ∀ b, (vs j).ownBlock = some b → b ≠ gg from fun j hj b hb e => by have := hF.out.lt j hj b hb; omega)
      rw [← hgg] at hG ⊢
      clear hO hG1 hB1 hgg hbz
      go_loopw [44] (fun vi wr => ∃ (q : Nat) (ws : Nat → Value) (ys : Nat → List Int) (gs : Nat → Value), q ≤ i ∧ vi = .int .i64 (q : Int) ∧ OwS w wr i vs ls ws ys ∧ CRow wr gg i gs ∧ (∀ j, j < q → gs j = ws j ∧ ys j = mkL j (ls j) ++ mkL (j + 7) 16) ∧ (∀ j, q ≤ j → j < i → ws j = vs j ∧ ys j = mkL j (ls j)) ∧ (∀ j, j < i → ∀ b, (ws j).ownBlock = some b → b ≠ gg)) (fun vi _ => i - (intOf vi).toNat)
      case atStart => exact ⟨0, vs, ys, _, Nat.zero_le _, rfl, hO1.out, hG.out, fun j hj => absurd hj (Nat.not_lt_zero j), fun j _ hj => ⟨rfl, hyA.out j hj⟩, hne0.out⟩
      case round =>
        clear hO1 hG hne0 hyA
        obtain ⟨q, ws, ys, gs, hq, rfl, hS, hG, ha, hb, hne⟩ := hrel
        by_cases hlt : q < i
        · have hqI : (q : Int) < (i : Int) := by omega
          have hcq := hcl.out _ hS.chg q hlt
          obtain ⟨hwq, hyq⟩ := hb q (Nat.le_refl _) hlt
          have hgq := hG.cell q hlt
          have hfq := hG.free q hlt
          have hGp := hd_ (hG.put q hlt (vs q))
          have hSp := hd_ (hS.other hF.out (chg_put wr gg q (vs q)) (fun b e => by rw [e]; exact hgw.out) (fun j hj b hb e => hne j hj b hb e))
          have hst := hd_ (And.intro hlt (And.intro ha (And.intro (fun j (h1 : q < j) (h2 : j < i) => hb j (Nat.le_of_lt h1) h2) (And.intro hne (And.intro hwq hyq)))))
          obtain ⟨Aq, nq, cq, hvq⟩ : ∃ A m c, vs q = .slice A m c := by obtain ⟨A, c, h⟩ := own_slice (hS.own q hlt); rw [hwq] at h; exact ⟨A, _, c, h⟩
          clear hS hG ha hb hne hwq hyq
          have hvH := hd_ hvq
          go_upto_region 16 with fail
          rw [← hvH.out]
          clear hvq
          generalize wr.setCell ⟨gg, q, none⟩ (vs q) = W1 at *
          obtain ⟨t1, t2, t3, t4, t5, t6⟩ := hst.out
          have hstart := hd_ (show ∃ (k : Nat) (ws1 : Nat → Value) (ys1 : Nat → List Int) (gs1 : Nat → Value), k ≤ 16 ∧ Value.int .i64 0 = .int .i64 (k : Int) ∧ OwS w W1 i vs ls ws1 ys1 ∧ CRow W1 gg i gs1 ∧ (∀ j, j < q → gs1 j = ws1 j ∧ ys1 j = mkL j (ls j) ++ mkL (j + 7) 16) ∧ (∀ j, q < j → j < i → ws1 j = vs j ∧ ys1 j = mkL j (ls j)) ∧ (∀ j, j < i → ∀ b, (ws1 j).ownBlock = some b → b ≠ gg) ∧ gs1 q = ws1 q ∧ ys1 q = mkL q (ls q) ++ mkL (q + 7) k from
            ⟨0, ws, ys, upd gs q (vs q), by omega, rfl, hSp.out, hGp.out, fun j hj => by rw [upd_ne _ _ _ _ (by omega)]; exact t2 j hj, t3, t4, by rw [upd_self]; exact t5.symm, by rw [t6]; simp [mkL]⟩)
          clear hSp hGp hst t2 t3 t4 t5 t6 hgq hfq hcq hvH
          go_loopw [7] (fun vk wr => ∃ (k : Nat) (ws1 : Nat → Value) (ys1 : Nat → List Int) (gs1 : Nat → Value), k ≤ 16 ∧ vk = .int .i64 (k : Int) ∧ OwS w wr i vs ls ws1 ys1 ∧ CRow wr gg i gs1 ∧ (∀ j, j < q → gs1 j = ws1 j ∧ ys1 j = mkL j (ls j) ++ mkL (j + 7) 16) ∧ (∀ j, q < j → j < i → ws1 j = vs j ∧ ys1 j = mkL j (ls j)) ∧ (∀ j, j < i → ∀ b, (ws1 j).ownBlock = some b → b ≠ gg) ∧ gs1 q = ws1 q ∧ ys1 q = mkL q (ls q) ++ mkL (q + 7) k) (fun vk _ => 16 - (intOf vk).toNat)
          case atStart => exact hstart.out
          case round =>
            clear hstart
            obtain ⟨k, ws, ys, gs, hk, rfl, hS, hG, ha, hb, hne, hgw1, hyq⟩ := hrel
            by_cases hk16 : k < 16
            · have hkI : (k : Int) < 16 := by omega
              have hyl : (ys q).length = ls q + k := by rw [hyq, List.length_append, mkL_length, mkL_length]
              have hlq := hL.out q t1
              have hBd := (Below.refl wr.heap.size wr).drew
              have hS2 := hS.keep hBd
              have hG2 := hG.keep hBd
              have e7 : (((q + 7 : Nat)) : Int) = (q : Int) + 7 := by push_cast; rfl
              have hmk := hd_ (fun W => show Calls Try.prog 49 #[.int .i64 ((q : Int) + 7), .int .i64 (k : Int)] W (fun e w' => e = .returned (.int .u8 (mkB (q + 7) k)) ∧ W = w') by have := mark_any (q + 7) k (by omega) (by omega) W; rw [e7] at this; exact this)
              obtain ⟨b0, b1⟩ := mkB_byte (q + 7) k
              have hst := hd_ (And.intro ha (And.intro hb (And.intro hne (And.intro hgw1 (And.intro hyq (And.intro hyl (And.intro b0 (And.intro b1 hk16))))))))
              have hq7 : IntKind.i64.wrap ((q : Int) + 7) = (q : Int) + 7 := by rw [IntKind.wrap_i64]; omega
              clear hS hG ha hb hyq b0 b1 e7
              go_upto_region 18 with fail
              have hC0 : (fun W : World => W.cell? ⟨gg, q, none⟩ = some (ws q)) wr.drew := by rw [← hgw1]; exact hG2.cell q t1
              refine region_J [13] (fun W : World => W.cell? ⟨gg, q, none⟩ = some (ws q)) (by kernel_rfl) ?_
              have hS2 := hd_ hS2
              have hG2 := hd_ hG2
              clear hBd hgw1
              generalize wr.drew = W2 at *
              refine take_J 0 _ _ (v := ?_) rfl (by kernel_rfl) (by kernel_rfl) (by kernel_rfl) (by kernel_rfl) (fun _ _ _ h => h) rfl hC0 ?_ ?_
              rotate_left
              · intro W hC; go_simp; try with_reducible rfl
              simp only [Act.put, List.setIfInBounds_toArray, List.set_cons_zero, List.set_cons_succ]
              refine take_J 1 _ _ (v := ?_) rfl (by kernel_rfl) (by kernel_rfl) (by kernel_rfl) (by kernel_rfl) (fun _ _ _ h => h) rfl hC0 ?_ ?_
              rotate_left
              · intro W hC; go_simp; try with_reducible rfl
              simp only [Act.put, List.setIfInBounds_toArray, List.set_cons_zero, List.set_cons_succ]
              refine take_J 2 _ _ (v := ?_) rfl (by kernel_rfl) (by kernel_rfl) (by kernel_rfl) (by kernel_rfl) (fun _ _ _ h => h) rfl hC0 ?_ ?_
              rotate_left
              · intro W hC; go_simp; try with_reducible rfl
              simp only [Act.put, List.setIfInBounds_toArray, List.set_cons_zero, List.set_cons_succ]
              refine take_J 3 _ _ (v := ?_) rfl (by kernel_rfl) (by kernel_rfl) (by kernel_rfl) (by kernel_rfl) (fun _ _ _ h => h) rfl hC0 ?_ ?_
              rotate_left
              · intro W hC; go_simp; try with_reducible rfl
              simp only [Act.put, List.setIfInBounds_toArray, List.set_cons_zero, List.set_cons_succ]
              refine take_J 4 _ _ (v := ?_) rfl (by kernel_rfl) (by kernel_rfl) (by kernel_rfl) (by kernel_rfl) (fun _ _ _ h => h) rfl hC0 ?_ ?_
              rotate_left
              · intro W hC; go_simp; try with_reducible rfl
              simp only [Act.put, List.setIfInBounds_toArray, List.set_cons_zero, List.set_cons_succ]
              refine take_J 5 _ _ (v := ?_) rfl (by kernel_rfl) (by kernel_rfl) (by kernel_rfl) (by kernel_rfl) (fun _ _ _ h => h) rfl hC0 ?_ ?_
              rotate_left
              · intro W hC; go_simp; try with_reducible rfl
              simp only [Act.put, List.setIfInBounds_toArray, List.set_cons_zero, List.set_cons_succ]
              refine take_J 6 _ _ (v := ?_) rfl (by kernel_rfl) (by kernel_rfl) (by kernel_rfl) (by kernel_rfl) (fun _ _ _ h => h) rfl hC0 ?_ ?_
              rotate_left
              · intro W hC; go_simp; try with_reducible rfl
              simp only [Act.put, List.setIfInBounds_toArray, List.set_cons_zero, List.set_cons_succ]
              refine take_J 7 _ _ (v := ?_) rfl (by kernel_rfl) (by kernel_rfl) (by kernel_rfl) (by kernel_rfl) (fun _ _ _ h => h) rfl hC0 ?_ ?_
              rotate_left
              · intro W hC; go_simp; try with_reducible rfl
              simp only [Act.put, List.setIfInBounds_toArray, List.set_cons_zero, List.set_cons_succ]
              refine take_J 8 _ _ (v := ?_) rfl (by kernel_rfl) (by kernel_rfl) (by kernel_rfl) (by kernel_rfl) (fun _ _ _ h => h) rfl hC0 ?_ ?_
              rotate_left
              · intro W hC; go_simp; try with_reducible rfl
              simp only [Act.put, List.setIfInBounds_toArray, List.set_cons_zero, List.set_cons_succ]
              refine ready_J 9 _ _ rfl (by kernel_rfl) rfl (fun K hK => ?_)
              go_simp
              try rw [hq7]
              with_reducible refine (hmk.out W2).mono ?_
              rintro e w7 ⟨rfl, rfl⟩
              refine hK _ _ (fun _ => hC0) ?_
              clear hK K
              have hB3 := al1 (Below.refl W2.heap.size W2) (.cells #[.int .u8 (mkB (q + 7) k)] 5)
              have hRn : Rd (W2.alloc (.cells #[.int .u8 (mkB (q + 7) k)] 5)) (.slice (some ⟨W2.heap.size, 0, none⟩) 1 1) [mkB (q + 7) k] := rd_new (w := W2) (cs := #[.int .u8 (mkB (q + 7) k)]) (t := 5) (fr := (0, 0)) [mkB (q + 7) k] rfl rfl (one_bytes hst.out.2.2.2.2.2.2.1 hst.out.2.2.2.2.2.2.2.1) (show 1 ≤ maxLen by decide)
              refine ready_J 10 _ _ rfl (by kernel_rfl) rfl (fun K hK => ?_)
              go_simp
              refine hK _ _ (fun _ => cell_keep hB3 hC0) ?_
              clear hK K
              have hS3 := hS2.out.keep hB3
              have hG3 := hG2.out.keep hB3
              have hC3 := cell_keep hB3 hC0
              have hO3 := hS3.own q t1
              clear hC0
              generalize W2.alloc (.cells #[.int .u8 (mkB (q + 7) k)] 5) = W3 at *
              obtain ⟨z1, z2, z3, z4, z5, z6, z7, z8, z9⟩ := hst.out
              refine ready_J 11 _ _ rfl (by kernel_rfl) rfl (fun K hK => ?_)
              refine wp_app_G _ _ 22 5 rfl Try.underlying22 infoB (ws q) (.slice (some ⟨W2.heap.size, 0, none⟩) 1 1) (ys q) [mkB (q + 7) k] rfl rfl hO3 hRn (by rw [z6, List.length_singleton]; omega) (fun v1 w1 HO1 hat => ?_)
              have hneq : ∀ b, v1.ownBlock = some b → b ≠ gg := fun b e => by
                rcases hat with ⟨h1, _⟩ | ⟨h1, _⟩
                · exact hne q t1 b (h1 ▸ e)
                · have := h1 b e; have := hG3.lt; omega
              have hG4 : CRow w1 gg i gs := by
                rcases hat with ⟨_, h1⟩ | ⟨_, h1⟩
                · exact hG3.chg h1 (fun e => hne q t1 gg e rfl)
                · exact hG3.keep h1
              have hC4 : w1.cell? ⟨gg, q, none⟩ = some (ws q) := by
                rcases hat with ⟨_, h1⟩ | ⟨_, h1⟩
                · exact h1.cell hC3 (fun e => hne q t1 gg e rfl)
                · exact cell_keep h1 hC3
              have hS4 := hS3.app hF.out q t1 v1 _ HO1 hat
              refine hK _ _ (fun _ => hC4) ?_
              clear hK K hS3 hG3 hC3 hO3 hRn hB3 hat
              have hC0 := hC4
              obtain ⟨A1, n1, c1, hv1⟩ : ∃ A m c, v1 = .slice A m c := by obtain ⟨A, c, h⟩ := own_slice HO1; exact ⟨A, _, c, h⟩
              clear HO1
              have hv1H := hd_ hv1
              have hne4 : ∀ j, j < i → ∀ b, ((upd ws q v1) j).ownBlock = some b → b ≠ gg := fun j hj b e => by
                by_cases ej : j = q
                · rw [ej, upd_self] at e; exact hneq b e
                · rw [upd_ne _ _ _ _ ej] at e; exact hne j hj b e
              have hS5 := hd_ (hS4.other hF.out (chg_put w1 gg q v1) (fun b e => by rw [e]; exact hgw.out) (fun j hj b hb e => hne4 j hj b hb e))
              have hG5 := hd_ (hG4.put q t1 v1)
              have hfz := hG4.free q t1
              have hne5 := hd_ hne4
              clear hS4 hG4 hne4 hneq
              refine ready_J 12 _ _ rfl (by kernel_rfl) rfl (fun K hK => ?_)
              go_simp
              refine hK _ _ (fun _ => hC0) ?_
              clear hK K
              try rw [hv1H.out]
              refine ready_J 13 _ _ rfl (by kernel_rfl) rfl (fun K hK => ?_)
              go_simp
              refine hK _ _ (fun h => absurd h (by decide)) ?_
              clear hK K
              rw [← hv1H.out]
              clear hv1 hC4 hC0 hfz
              generalize w1.setCell ⟨gg, q, none⟩ v1 = W5 at *
              refine wpAnyJ_done (by kernel_rfl) ?_ _
              go_wp2
              go_roundw
              case rel => exact ⟨k + 1, _, _, _, z9, by go_num, hS5.out, hG5.out, fun j hj => by rw [upd_ne _ _ _ _ (by omega), upd_ne _ _ _ _ (by omega), updL_ne _ _ _ _ (by omega)]; exact z1 j hj, fun j h1 h2 => by rw [upd_ne _ _ _ _ (by omega), updL_ne _ _ _ _ (by omega)]; exact z2 j h1 h2, hne5.out, by rw [upd_self, upd_self], by rw [updL_self, z5, mkL_succ, List.append_assoc]⟩
              case measure => (simp [intOf]; try omega)
            · obtain rfl : k = 16 := by omega
              have hend := hd_ (show ∀ j, j < q + 1 → gs j = ws j ∧ ys j = mkL j (ls j) ++ mkL (j + 7) 16 from fun j hj => by
                by_cases e : j = q
                · rw [e]; exact ⟨hgw1, hyq⟩
                · exact ha j (by omega))
              have hst := hd_ (And.intro hS (And.intro hG (And.intro hb hne)))
              clear hS hG ha hb hne hgw1 hyq
              go_wp2
              go_roundw
              case rel => exact ⟨q + 1, ws, ys, gs, t1, by go_num, hst.out.1, hst.out.2.1, hend.out, fun j h1 h2 => hst.out.2.2.1 j (by omega) h2, hst.out.2.2.2⟩
              case measure => (simp [intOf]; try omega)
        · obtain rfl : q = i := by omega
          have hst := hd_ (And.intro hS (And.intro hG (And.intro ha hne)))
          clear hS hG ha hb hne
          go_upto_region 21 with fail
          go_loopw [74] (fun vi wr => ∃ (p : Nat) (ws : Nat → Value) (ys : Nat → List Int) (gs : Nat → Value), p ≤ q ∧ vi = .int .i64 (p : Int) ∧ OwS w wr q vs ls ws ys ∧ CRow wr gg q gs ∧ (∀ j, j < q → gs j = ws j) ∧ (∀ j, j < p → ys j = mkL j (ls j) ++ mkL (j + 7) 16 ++ mkL (j + 13) 80) ∧ (∀ j, p ≤ j → j < q → ys j = mkL j (ls j) ++ mkL (j + 7) 16) ∧ (∀ j, j < q → ∀ b, (ws j).ownBlock = some b → b ≠ gg)) (fun vi _ => q - (intOf vi).toNat)
          case atStart => exact ⟨0, ws, ys, gs, Nat.zero_le _, rfl, hst.out.1, hst.out.2.1, fun j hj => (hst.out.2.2.1 j hj).1, fun j hj => absurd hj (Nat.not_lt_zero j), fun j _ hj => (hst.out.2.2.1 j hj).2, hst.out.2.2.2⟩
          case round =>
            clear hst
            obtain ⟨p, ws, ys, gs, hp, rfl, hS, hG, hgs, ha, hb, hne⟩ := hrel
            by_cases hlt : p < q
            · have hpI : (p : Int) < (q : Int) := by omega
              have hSH := hd_ hS
              have hGH := hd_ hG
              have hst := hd_ (And.intro hlt (And.intro hgs (And.intro ha (And.intro hb hne))))
              have e13 : (((p + 13 : Nat)) : Int) = (p : Int) + 13 := by push_cast; rfl
              have hmk := hd_ (fun (k : Nat) (hk : k < 80) W => show Calls Try.prog 49 #[.int .i64 ((p : Int) + 13), .int .i64 (k : Int)] W (fun e w' => e = .returned (.int .u8 (mkB (p + 13) k)) ∧ W = w') by have := mark_any (p + 13) k (by omega) (by omega) W; rw [e13] at this; exact this)
              have hp13 : wrap64 ((p : Int) + 13) = (p : Int) + 13 := by unfold wrap64; omega
              clear hS hG hgs ha hb hne e13
              go_upto_region 25 with (at_make; refine make_bytes (w0 := wr) wr.heap.size rfl _ _ 22 5 rfl Try.underlying22 infoB _ _ _ _ 80 rfl rfl rfl rfl (by omega) (Below.refl _ _) (Nat.le_refl _) ?_; intro v1 w1 HO1 HB1 hg1 hat1; obtain ⟨gb, capb, rfl, hgb⟩ := HO1.block hat1; simp only [List.length_replicate] at HO1 ⊢)
              have hmo := hd_ (show Own w1 wr.heap.size 5 (.slice (some ⟨gb, 0, none⟩) 80 capb) (mkL (p + 13) 0 ++ List.replicate (80 - 0) 0) from by exact HO1)
              obtain ⟨zz, hzz⟩ : ∃ zz, zz = wr.heap.size := ⟨_, rfl⟩
              have hcb := HO1.rd.form
              rw [← hzz] at hmo
              have hgbz : gb = zz := by
                have h1 : some gb = some wr.heap.size := hat1
                injection h1 with h1
                omega
              subst hgbz
              have hcap80 : 80 ≤ capb ∧ capb ≤ 9223372036854775807 := by
                obtain ⟨_, _, hcv, h1, h2, _⟩ := HO1.rd.form
                rw [List.length_replicate] at hcv h1
                injection hcv with _ _ e3
                subst e3
                unfold maxLen at h2
                omega
              have hS1 := hd_ (hSH.out.keep HB1)
              have hG1 := hd_ (hGH.out.keep HB1)
              have hzS := hd_ (show w.heap.size ≤ gb ∧ gg < gb ∧ ∀ j, j < q → ∀ b, (ws j).ownBlock = some b → b < gb from ⟨by rw [hzz]; exact hSH.out.chg.size, by rw [hzz]; exact hGH.out.lt, fun j hj b e => by rw [hzz]; exact (hSH.out.own j hj).lt b e⟩)
              clear HO1 HB1 hg1 hat1 hgb hcb hzz hSH hGH
              go_upto_region 25 with fail
              go_loopw [80] (fun vk wr => ∃ k : Nat, k ≤ 80 ∧ vk = .int .i64 (k : Int) ∧ Own wr gb 5 (.slice (some ⟨gb, 0, none⟩) 80 capb) (mkL (p + 13) k ++ List.replicate (80 - k) 0) ∧ Chg (fun b => b = gb) w1 wr) (fun vk _ => 80 - (intOf vk).toNat)
              case atStart => exact ⟨0, by omega, rfl, hmo.out, Chg.refl _ _⟩
              case round =>
                clear hmo
                obtain ⟨k, hk, rfl, HO, hC⟩ := hrel
                by_cases hk80 : k < 80
                · have hkI : (k : Int) < 80 := by omega
                  have hLl : (mkL (p + 13) k ++ List.replicate (80 - k) 0).length = 80 := by rw [List.length_append, mkL_length, List.length_replicate]; omega
                  obtain ⟨_, _, hfm, _, _, _, hcf⟩ := HO.rd.form
                  obtain ⟨b7, o7, hA7, hc7⟩ := hcf k (by omega)
                  injection hfm with e1 e2 e3
                  rw [← e1] at hA7
                  injection hA7 with hA7
                  injection hA7 with e4 e5
                  subst e4; subst e5
                  rw [Nat.zero_add] at hc7
                  have hO2 := HO.2
                  rw [hLl] at hO2
                  have hf7 := hO2.frozenAt k
                  clear hO2
                  obtain ⟨b0, b1⟩ := mkB_byte (p + 13) k
                  obtain ⟨p7, g7⟩ := HO.put k (mkB (p + 13) k) b0 b1
                  have hset : (mkL (p + 13) k ++ List.replicate (80 - k) 0).set k (mkB (p + 13) k) = mkL (p + 13) (k + 1) ++ List.replicate (80 - (k + 1)) 0 := by
                    rw [List.set_append_right _ _ (by rw [mkL_length]; exact Nat.le_refl _), mkL_length, Nat.sub_self, show 80 - k = (80 - (k + 1)) + 1 by omega, List.replicate_succ, List.set_cons_zero, mkL_succ, List.append_assoc]
                    rfl
                  rw [hset] at p7
                  have hst2 := hd_ (And.intro p7 (And.intro (hC.trans (Chg.of g7) (fun c _ (e : some c = some gb) => by injection e)) hk80))
                  clear p7 g7 HO hC e1 e2 e3 hLl hcf hset b0 b1
                  generalize hxx : (mkL (p + 13) k ++ List.replicate (80 - k) 0).getD k 0 = xx at *
                  clear hxx
                  go_wp2_with (go_at_call 49; (with_reducible refine (hmk.out k hst2.out.2.2 wr).mono ?_); rintro e w7 ⟨rfl, rfl⟩)
                  go_roundw
                  case rel => exact ⟨k + 1, hst2.out.2.2, by go_num, hst2.out.1, hst2.out.2.1⟩
                  case measure => (simp [intOf]; try omega)
                · obtain rfl : k = 80 := by omega
                  have HOm := hd_ (show Own wr gb 5 (.slice (some ⟨gb, 0, none⟩) 80 capb) (mkL (p + 13) 80) from by have := HO; rw [Nat.sub_self, List.replicate_zero, List.append_nil] at this; exact this)
                  have hS2 := hS1.out.other hF.out hC (fun b e => by rw [e]; exact hzS.out.1) (fun j hj b hb e => by have := hzS.out.2.2 j hj b hb; omega)
                  have hG2 := hG1.out.chg hC (fun e => by have := hzS.out.2.1; omega)
                  obtain ⟨t1, t2, t3, t4, t5⟩ := hst.out
                  have hlq := hL.out p t1
                  have hyp := t4 p (Nat.le_refl _) t1
                  have hyl : (ys p).length = ls p + 16 := by rw [hyp, List.length_append, mkL_length, mkL_length]
                  have hBd := (Below.refl wr.heap.size wr).drew
                  have hS3 := hS2.keep hBd
                  have hG3 := hG2.keep hBd
                  have hOw := (hS3.own p t1).rd
                  obtain ⟨Af, hsl1, hRf⟩ := hOw.sl_full (P := Try.prog) Try.underlying22 infoB (ls p) (by omega)
                  obtain ⟨uf, hsl2, hRu⟩ := hOw.sl_l (P := Try.prog) Try.underlying22 infoB (ls p) (by omega)
                  have hcv := hcl.out _ hS3.chg p t1
                  have hcg : wr.drew.cell? ⟨gg, p, none⟩ = some (ws p) := by rw [← t2 p t1]; exact hG3.cell p t1
                  have hlnp := hnl.out p t1
                  have hS3 := hd_ hS3
                  have hG3 := hd_ hG3
                  have hHm3 := hd_ (HOm.out.keep hBd)
                  have hRf := hd_ hRf
                  have hRu := hd_ hRu
                  have hylH := hd_ hyl
                  have hlqI : (ls p : Int) ≤ 70368744177664 := by omega
                  clear hS2 hG2 hS1 hG1 hOw HO hC HOm hyp hyl t2 t3 t4 t5 hBd
                  go_upto_region 29 with fail
                  have hC0 : (fun W : World => W.cell? ⟨gl, p, none⟩ = some (vs p) ∧ W.cell? ⟨gg, p, none⟩ = some (ws p)) wr.drew := ⟨hcv, hcg⟩
                  refine region_J [29] (fun W : World => W.cell? ⟨gl, p, none⟩ = some (vs p) ∧ W.cell? ⟨gg, p, none⟩ = some (ws p)) (by kernel_rfl) ?_
                  clear hcv hcg
                  generalize wr.drew = W2 at *
                  refine take_J 0 _ _ (v := ?_) rfl (by kernel_rfl) (by kernel_rfl) (by kernel_rfl) (by kernel_rfl) (fun _ _ _ h => h) rfl hC0 ?_ ?_
                  rotate_left
                  · intro W hC; obtain ⟨hC1, hC2⟩ := hC; go_simp; try with_reducible rfl
                  simp only [Act.put, List.setIfInBounds_toArray, List.set_cons_zero, List.set_cons_succ]
                  refine take_J 1 _ _ (v := ?_) rfl (by kernel_rfl) (by kernel_rfl) (by kernel_rfl) (by kernel_rfl) (fun _ _ _ h => h) rfl hC0 ?_ ?_
                  rotate_left
                  · intro W hC; obtain ⟨hC1, hC2⟩ := hC; go_simp; try with_reducible rfl
                  simp only [Act.put, List.setIfInBounds_toArray, List.set_cons_zero, List.set_cons_succ]
                  refine take_J 2 _ _ (v := ?_) rfl (by kernel_rfl) (by kernel_rfl) (by kernel_rfl) (by kernel_rfl) (fun _ _ _ h => h) rfl hC0 ?_ ?_
                  rotate_left
                  · intro W hC; obtain ⟨hC1, hC2⟩ := hC; go_simp; try with_reducible rfl
                  simp only [Act.put, List.setIfInBounds_toArray, List.set_cons_zero, List.set_cons_succ]
                  refine take_J 3 _ _ (v := ?_) rfl (by kernel_rfl) (by kernel_rfl) (by kernel_rfl) (by kernel_rfl) (fun _ _ _ h => h) rfl hC0 ?_ ?_
                  rotate_left
                  · intro W hC; obtain ⟨hC1, hC2⟩ := hC; go_simp; try with_reducible rfl
                  simp only [Act.put, List.setIfInBounds_toArray, List.set_cons_zero, List.set_cons_succ]
                  refine take_J 4 _ _ (v := ?_) rfl (by kernel_rfl) (by kernel_rfl) (by kernel_rfl) (by kernel_rfl) (fun _ _ _ h => h) rfl hC0 ?_ ?_
                  rotate_left
                  · intro W hC; obtain ⟨hC1, hC2⟩ := hC; go_simp; try with_reducible rfl
                  simp only [Act.put, List.setIfInBounds_toArray, List.set_cons_zero, List.set_cons_succ]
                  refine take_J 5 _ _ (v := ?_) rfl (by kernel_rfl) (by kernel_rfl) (by kernel_rfl) (by kernel_rfl) (fun _ _ _ h => h) rfl hC0 ?_ ?_
                  rotate_left
                  · intro W hC; obtain ⟨hC1, hC2⟩ := hC; go_simp; try with_reducible rfl
                  simp only [Act.put, List.setIfInBounds_toArray, List.set_cons_zero, List.set_cons_succ]
                  refine take_J 6 _ _ (v := ?_) rfl (by kernel_rfl) (by kernel_rfl) (by kernel_rfl) (by kernel_rfl) (fun _ _ _ h => h) rfl hC0 ?_ ?_
                  rotate_left
                  · intro W hC; obtain ⟨hC1, hC2⟩ := hC; go_simp; try with_reducible rfl
                  simp only [Act.put, List.setIfInBounds_toArray, List.set_cons_zero, List.set_cons_succ]
                  refine take_J 7 _ _ (v := ?_) rfl (by kernel_rfl) (by kernel_rfl) (by kernel_rfl) (by kernel_rfl) (fun _ _ _ h => h) rfl hC0 ?_ ?_
                  rotate_left
                  · intro W hC; obtain ⟨hC1, hC2⟩ := hC; go_simp; try with_reducible rfl
                  simp only [Act.put, List.setIfInBounds_toArray, List.set_cons_zero, List.set_cons_succ]
                  refine take_J 8 _ _ (v := ?_) rfl (by kernel_rfl) (by kernel_rfl) (by kernel_rfl) (by kernel_rfl) (fun _ _ _ h => h) rfl hC0 ?_ ?_
                  rotate_left
                  · intro W hC; obtain ⟨hC1, hC2⟩ := hC; go_simp; try with_reducible rfl
                  simp only [Act.put, List.setIfInBounds_toArray, List.set_cons_zero, List.set_cons_succ]
                  refine take_J 9 _ _ (v := ?_) rfl (by kernel_rfl) (by kernel_rfl) (by kernel_rfl) (by kernel_rfl) (fun _ _ _ h => h) rfl hC0 ?_ ?_
                  rotate_left
                  · intro W hC; obtain ⟨hC1, hC2⟩ := hC; go_simp; try with_reducible rfl
                  simp only [Act.put, List.setIfInBounds_toArray, List.set_cons_zero, List.set_cons_succ]
                  refine take_J 10 _ _ (v := ?_) rfl (by kernel_rfl) (by kernel_rfl) (by kernel_rfl) (by kernel_rfl) (fun _ _ _ h => h) rfl hC0 ?_ ?_
                  rotate_left
                  · intro W hC; obtain ⟨hC1, hC2⟩ := hC; go_simp; try with_reducible rfl
                  simp only [Act.put, List.setIfInBounds_toArray, List.set_cons_zero, List.set_cons_succ]
                  refine take_J 11 _ _ (v := ?_) rfl (by kernel_rfl) (by kernel_rfl) (by kernel_rfl) (by kernel_rfl) (fun _ _ _ h => h) rfl hC0 ?_ ?_
                  rotate_left
                  · intro W hC; obtain ⟨hC1, hC2⟩ := hC; go_simp; try with_reducible rfl
                  simp only [Act.put, List.setIfInBounds_toArray, List.set_cons_zero, List.set_cons_succ]
                  refine take_J 12 _ _ (v := ?_) rfl (by kernel_rfl) (by kernel_rfl) (by kernel_rfl) (by kernel_rfl) (fun _ _ _ h => h) rfl hC0 ?_ ?_
                  rotate_left
                  · intro W hC; obtain ⟨hC1, hC2⟩ := hC; go_simp; try with_reducible rfl
                  simp only [Act.put, List.setIfInBounds_toArray, List.set_cons_zero, List.set_cons_succ]
                  refine take_J 13 _ _ (v := ?_) rfl (by kernel_rfl) (by kernel_rfl) (by kernel_rfl) (by kernel_rfl) (fun _ _ _ h => h) rfl hC0 ?_ ?_
                  rotate_left
                  · intro W hC; obtain ⟨hC1, hC2⟩ := hC; go_simp; try with_reducible rfl
                  simp only [Act.put, List.setIfInBounds_toArray, List.set_cons_zero, List.set_cons_succ]
                  refine take_J 14 _ _ (v := ?_) rfl (by kernel_rfl) (by kernel_rfl) (by kernel_rfl) (by kernel_rfl) (fun _ _ _ h => h) rfl hC0 ?_ ?_
                  rotate_left
                  · intro W hC; obtain ⟨hC1, hC2⟩ := hC; go_simp; try with_reducible rfl
                  simp only [Act.put, List.setIfInBounds_toArray, List.set_cons_zero, List.set_cons_succ]
                  refine take_J 15 _ _ (v := ?_) rfl (by kernel_rfl) (by kernel_rfl) (by kernel_rfl) (by kernel_rfl) (fun _ _ _ h => h) rfl hC0 ?_ ?_
                  rotate_left
                  · intro W hC; obtain ⟨hC1, hC2⟩ := hC; go_simp; try with_reducible rfl
                  simp only [Act.put, List.setIfInBounds_toArray, List.set_cons_zero, List.set_cons_succ]
                  refine take_J 16 _ _ (v := ?_) rfl (by kernel_rfl) (by kernel_rfl) (by kernel_rfl) (by kernel_rfl) (fun _ _ _ h => h) rfl hC0 ?_ ?_
                  rotate_left
                  · intro W hC; obtain ⟨hC1, hC2⟩ := hC; go_simp; try with_reducible rfl
                  simp only [Act.put, List.setIfInBounds_toArray, List.set_cons_zero, List.set_cons_succ]
                  refine take_J 17 _ _ (v := ?_) rfl (by kernel_rfl) (by kernel_rfl) (by kernel_rfl) (by kernel_rfl) (fun _ _ _ h => h) rfl hC0 ?_ ?_
                  rotate_left
                  · intro W hC; obtain ⟨hC1, hC2⟩ := hC; go_simp; try with_reducible rfl
                  simp only [Act.put, List.setIfInBounds_toArray, List.set_cons_zero, List.set_cons_succ]
                  refine take_J 18 _ _ (v := ?_) rfl (by kernel_rfl) (by kernel_rfl) (by kernel_rfl) (by kernel_rfl) (fun _ _ _ h => h) rfl hC0 ?_ ?_
                  rotate_left
                  · intro W hC; obtain ⟨hC1, hC2⟩ := hC; go_simp; try with_reducible rfl
                  simp only [Act.put, List.setIfInBounds_toArray, List.set_cons_zero, List.set_cons_succ]
                  refine take_J 19 _ _ (v := ?_) rfl (by kernel_rfl) (by kernel_rfl) (by kernel_rfl) (by kernel_rfl) (fun _ _ _ h => h) rfl hC0 ?_ ?_
                  rotate_left
                  · intro W hC; obtain ⟨hC1, hC2⟩ := hC; go_simp; try with_reducible rfl
                  simp only [Act.put, List.setIfInBounds_toArray, List.set_cons_zero, List.set_cons_succ]
                  refine take_J 20 _ _ (v := ?_) rfl (by kernel_rfl) (by kernel_rfl) (by kernel_rfl) (by kernel_rfl) (fun _ _ _ h => h) rfl hC0 ?_ ?_
                  rotate_left
                  · intro W hC; obtain ⟨hC1, hC2⟩ := hC; go_simp; try with_reducible rfl
                  simp only [Act.put, List.setIfInBounds_toArray, List.set_cons_zero, List.set_cons_succ]
                  refine take_J 21 _ _ (v := ?_) rfl (by kernel_rfl) (by kernel_rfl) (by kernel_rfl) (by kernel_rfl) (fun _ _ _ h => h) rfl hC0 ?_ ?_
                  rotate_left
                  · intro W hC; obtain ⟨hC1, hC2⟩ := hC; go_simp; try with_reducible rfl
                  simp only [Act.put, List.setIfInBounds_toArray, List.set_cons_zero, List.set_cons_succ]
                  refine take_J 22 _ _ (v := ?_) rfl (by kernel_rfl) (by kernel_rfl) (by kernel_rfl) (by kernel_rfl) (fun _ _ _ h => h) rfl hC0 ?_ ?_
                  rotate_left
                  · intro W hC; obtain ⟨hC1, hC2⟩ := hC; go_simp; try with_reducible rfl
                  simp only [Act.put, List.setIfInBounds_toArray, List.set_cons_zero, List.set_cons_succ]
                  refine take_J 23 _ _ (v := ?_) rfl (by kernel_rfl) (by kernel_rfl) (by kernel_rfl) (by kernel_rfl) (fun _ _ _ h => h) rfl hC0 ?_ ?_
                  rotate_left
                  · intro W hC; obtain ⟨hC1, hC2⟩ := hC; go_simp; try with_reducible rfl
                  simp only [Act.put, List.setIfInBounds_toArray, List.set_cons_zero, List.set_cons_succ]
                  refine take_J 24 _ _ (v := ?_) rfl (by kernel_rfl) (by kernel_rfl) (by kernel_rfl) (by kernel_rfl) (fun _ _ _ h => h) rfl hC0 ?_ ?_
                  rotate_left
                  · intro W hC; obtain ⟨hC1, hC2⟩ := hC; go_simp; try with_reducible rfl
                  simp only [Act.put, List.setIfInBounds_toArray, List.set_cons_zero, List.set_cons_succ]
                  refine take_J 25 _ _ (v := ?_) rfl (by kernel_rfl) (by kernel_rfl) (by kernel_rfl) (by kernel_rfl) (fun _ _ _ h => h) rfl hC0 ?_ ?_
                  rotate_left
                  · intro W hC; obtain ⟨hC1, hC2⟩ := hC; go_simp; try with_reducible rfl
                  simp only [Act.put, List.setIfInBounds_toArray, List.set_cons_zero, List.set_cons_succ]
                  refine take_J 26 _ _ (v := ?_) rfl (by kernel_rfl) (by kernel_rfl) (by kernel_rfl) (by kernel_rfl) (fun _ _ _ h => h) rfl hC0 ?_ ?_
                  rotate_left
                  · intro W hC; obtain ⟨hC1, hC2⟩ := hC; go_simp; try with_reducible rfl
                  simp only [Act.put, List.setIfInBounds_toArray, List.set_cons_zero, List.set_cons_succ]
                  obtain ⟨t1, t2, t3, t4, t5⟩ := hst.out
                  have hyl := hylH.out
                  have htd : (ys p).take (ls p) ++ (ys p).drop (ls p) = ys p := List.take_append_drop _ _
                  refine ready_J 27 _ _ rfl (by kernel_rfl) rfl (fun K hK => ?_)
                  refine wp_app_full _ _ 22 5 rfl Try.underlying22 infoB Af (ls p) uf ((ys p).take (ls p)) ((ys p).drop (ls p)) rfl rfl hRf.out hRu.out (fun e => by have := congrArg List.length e; rw [List.length_drop, hyl] at this; simp at this) (by rw [List.length_take, List.length_drop]; omega) (fun v1 w3 HO1 hfr hB3 => ?_)
                  rw [htd] at HO1
                  have hS4 := hS3.out.fresh hF.out p t1 v1 (ys p) HO1 hfr hB3
                  have hG4 := hG3.out.keep hB3
                  have hHm4 := hHm3.out.keep hB3
                  have hgg4 := hG3.out.lt
                  have hgb4 := (own_lt hHm3.out gb rfl).2
                  obtain ⟨hq1, hq2⟩ := hC0
                  have hC1 : (fun W : World => W.cell? ⟨gl, p, none⟩ = some (vs p) ∧ W.cell? ⟨gg, p, none⟩ = some (ws p)) w3 := ⟨cell_keep hB3 hq1, cell_keep hB3 hq2⟩
                  refine hK _ _ (fun _ => hC1) ?_
                  clear hK K hq1 hq2 hRf hRu hS3 hG3 hHm3 htd hsl1 hsl2
                  obtain ⟨A1, n1, c1, hv1⟩ : ∃ A m c, v1 = .slice A m c := by obtain ⟨A, c, h⟩ := own_slice HO1; exact ⟨A, _, c, h⟩
                  clear HO1
                  have hv1H := hd_ hv1
                  have hne4 : ∀ j, j < q → ∀ b, ((upd ws p v1) j).ownBlock = some b → b ≠ gg := fun j hj b e => by
                    by_cases ej : j = p
                    · rw [ej, upd_self] at e; have := hfr b e; omega
                    · rw [upd_ne _ _ _ _ ej] at e; exact t5 j hj b e
                  have hnb4 := hd_ (show v1.ownBlock ≠ some gb ∧ gb ≠ gg from ⟨fun e => by have := hfr gb e; omega, by have := hzS.out.2.1; omega⟩)
                  have hS5 := hd_ (hS4.other hF.out (chg_put w3 gg p v1) (fun b e => by rw [e]; exact hgw.out) (fun j hj b hb e => hne4 j hj b hb e))
                  have hG5 := hd_ (hG4.put p t1 v1)
                  have hHm5 := hd_ (hHm4.chg (chg_put w3 gg p v1) (fun b e e2 => hnb4.out.2 (by
                    have h1 : some gb = some b := e
                    injection h1 with h1
                    omega)))
                  have hfz := hG4.free p t1
                  have hne5 := hd_ hne4
                  clear hS4 hG4 hHm4 hne4 hfr hB3
                  have hC0 := hC1
                  clear hC1
                  refine ready_J 28 _ _ rfl (by kernel_rfl) rfl (fun K hK => ?_)
                  go_simp
                  refine hK _ _ (fun _ => hC0) ?_
                  clear hK K
                  obtain ⟨hq1, hq2⟩ := hC0
                  refine ready_J 29 _ _ rfl (by kernel_rfl) rfl (fun K hK => ?_)
                  go_simp
                  refine hK _ _ (fun h => absurd h (by decide)) ?_
                  clear hK K
                  rw [← hv1H.out]
                  clear hv1 hfz hq1 hq2
                  generalize w3.setCell ⟨gg, p, none⟩ v1 = W5 at *
                  refine wpAnyJ_done (by kernel_rfl) ?_ _
                  have hcg5 : W5.cell? ⟨gg, p, none⟩ = some v1 := by have := hG5.out.cell p t1; rw [upd_self] at this; exact this
                  have hO5 : OwnN W5 v1 (ys p) := by have := hS5.out.own p t1; rw [upd_self, updL_self] at this; exact this
                  have hR5 := hHm5.out.rd
                  have hO5 := hd_ hO5
                  have hR5 := hd_ hR5
                  have hln80 := hd_ (show (ys p).length + (mkL (p + 13) 80).length ≤ 140737488355328 by rw [hyl, mkL_length]; omega)
                  clear t2 t3 t4 t5
                  go_upto_region 31 with (at_builtin; refine app_G rfl _ _ 22 5 rfl Try.underlying22 infoB v1 (.slice (some ⟨gb, 0, none⟩) 80 capb) (ys p) (mkL (p + 13) 80) rfl rfl hO5.out hR5.out hln80.out ?_; intro v2 w6 HO2 hat2; obtain ⟨A2, n2, c2, hv2⟩ : ∃ A m c, v2 = .slice A m c := (by obtain ⟨A, c, h⟩ := own_slice HO2; exact ⟨A, _, c, h⟩); have hfz6 : w6.frozen? ⟨gg, p, none⟩ = false := (by
                      rcases hat2 with ⟨_, h1⟩ | ⟨_, h1⟩
                      · exact (hG5.out.chg h1 (fun e => by have := hne5.out p t1 gg (by rw [upd_self]; exact e); exact this rfl)).free p t1
                      · exact (hG5.out.keep h1).free p t1); have hcz6 : w6.cell? ⟨gg, p, none⟩ = some v1 := (by
                      rcases hat2 with ⟨_, h1⟩ | ⟨_, h1⟩
                      · exact h1.cell hcg5 (fun e => by have := hne5.out p t1 gg (by rw [upd_self]; exact e); exact this rfl)
                      · exact cell_keep h1 hcg5))
                  rw [← hv2]
                  obtain ⟨t1, t2, t3, t4, t5⟩ := hst.out
                  have hS6 := hS5.out.app hF.out p t1 v2 (mkL (p + 13) 80) (by rw [updL_self]; exact HO2) (by rw [upd_self]; exact hat2)
                  have hG6 : CRow w6 gg q (upd gs p v1) := by
                    rcases hat2 with ⟨_, h1⟩ | ⟨_, h1⟩
                    · exact hG5.out.chg h1 (fun e => by have := hne5.out p t1 gg (by rw [upd_self]; exact e); exact this rfl)
                    · exact hG5.out.keep h1
                  have hne6 : ∀ j, j < q → ∀ b, ((upd (upd ws p v1) p v2) j).ownBlock = some b → b ≠ gg := fun j hj b e => by
                    by_cases ej : j = p
                    · rw [ej, upd_self] at e
                      rcases hat2 with ⟨h1, _⟩ | ⟨h1, _⟩
                      · exact hne5.out p t1 b (by rw [upd_self]; exact h1 ▸ e)
                      · have := h1 b e; have := hG5.out.lt; omega
                    · rw [upd_ne _ _ _ _ ej] at e; exact hne5.out j hj b e
                  have hS7 := hd_ (hS6.other hF.out (chg_put w6 gg p v2) (fun b e => by rw [e]; exact hgw.out) (fun j hj b hb e => hne6 j hj b hb e))
                  have hG7 := hd_ (hG6.put p t1 v2)
                  have hne7 := hd_ hne6
                  have hgs7 := hd_ (show ∀ j, j < q → (upd (upd gs p v1) p v2) j = (upd (upd ws p v1) p v2) j from fun j hj => by
                    by_cases ej : j = p
                    · rw [ej, upd_self, upd_self]
                    · rw [upd_ne _ _ _ _ ej, upd_ne _ _ _ _ ej, upd_ne _ _ _ _ ej, upd_ne _ _ _ _ ej]; exact t2 j hj)
                  have hys7 := hd_ (show ∀ j, j < p + 1 → (updL (updL ys p (ys p)) p ((updL ys p (ys p)) p ++ mkL (p + 13) 80)) j = mkL j (ls j) ++ mkL (j + 7) 16 ++ mkL (j + 13) 80 from fun j hj => by
                    by_cases ej : j = p
                    · rw [ej, updL_self, updL_self, t4 p (Nat.le_refl _) t1]
                    · rw [updL_ne _ _ _ _ ej, updL_ne _ _ _ _ ej]; exact t3 j (by omega))
                  have hyb7 := hd_ (show ∀ j, p + 1 ≤ j → j < q → (updL (updL ys p (ys p)) p ((updL ys p (ys p)) p ++ mkL (p + 13) 80)) j = mkL j (ls j) ++ mkL (j + 7) 16 from fun j h1 h2 => by
                    rw [updL_ne _ _ _ _ (by omega), updL_ne _ _ _ _ (by omega)]; exact t4 j (by omega) h2)
                  clear hS6 hG6 hne6 hfz6 hcz6 hat2 HO2 hv2 t2 t3 t4 t5 hS5 hG5 hHm5 hne5 hO5 hR5 hcg5
                  generalize w6.setCell ⟨gg, p, none⟩ v2 = W7 at *
                  go_wp2
                  go_roundw
                  case rel => exact ⟨p + 1, _, _, _, t1, by go_num, hS7.out, hG7.out, hgs7.out, hys7.out, hyb7.out, hne7.out⟩
                  case measure => (simp [intOf]; try omega)
            · have hpq : q = p := by omega
              have hys := hd_ (show ∀ j, j < q → ys j = mkL j (ls j) ++ mkL (j + 7) 16 ++ mkL (j + 13) 80 from fun j hj => ha j (by omega))
              have hSf := hd_ hS
              have hGf := hd_ hG
              have hgsf := hd_ hgs
              have hCf := hd_ hS.chg
              obtain ⟨Wf, hWf⟩ : ∃ Wf, Wf = wr := ⟨_, rfl⟩
              rw [← hWf] at hSf hGf hCf ⊢
              clear hS hG hgs ha hb hne hWf hp hlt
              subst hpq
              go_upto_region 33 with fail
              go_loopw [132] (fun vi wr => ∃ i : Nat, i ≤ q ∧ vi = .int .i64 (i : Int) ∧ wr = Wf) (fun vi _ => q - (intOf vi).toNat)
              case atStart => exact ⟨0, Nat.zero_le _, rfl, rfl⟩
              case round =>
                obtain ⟨i, hi, rfl, rfl⟩ := hrel
                by_cases hlt : i < q
                · have hiI : (i : Int) < (q : Int) := by omega
                  have hci := hcl.out _ hCf.out i hlt
                  have hgi : wr.cell? ⟨gg, i, none⟩ = some (ws i) := by rw [← hgsf.out i hlt]; exact hGf.out.cell i hlt
                  have hyi := hys.out i hlt
                  obtain ⟨N, hN⟩ : ∃ N, N = ls i + 96 := ⟨_, rfl⟩
                  have hyl : (ys i).length = N := by rw [hyi, List.length_append, List.length_append, mkL_length, mkL_length, mkL_length]; omega
                  have hRw := hd_ (hSf.out.own i hlt).rd
                  have hRv := hd_ (hSf.out.rd i hlt)
                  have hlw := hRw.out.2.len (P := Try.prog) 22 5 3 Try.underlying22
                  rw [hyl] at hlw
                  have hln := hnl.out i hlt
                  have hlq := hL.out i hlt
                  have hltH := hd_ hlt
                  have hyH := hd_ hyi
                  have hylH := hd_ hyl
                  have hNH := hd_ hN
                  clear hyi hyl hN
                  go_upto_region 36 with fail
                  go_loopw [140] (fun vk wz => ∃ k : Nat, k ≤ N ∧ vk = .int .i64 (k : Int) ∧ wz = wr) (fun vk _ => N - (intOf vk).toNat)
                  case atStart => exact ⟨0, Nat.zero_le _, rfl, rfl⟩
                  case round =>
                    obtain ⟨k, hk, rfl, rfl⟩ := hrel
                    by_cases hkN : k < N
                    · have hkI : (k : Int) < (N : Int) := by omega
                      have hNv := hNH.out
                      obtain ⟨bw, ow, hixw, hcw⟩ := hRw.out.at Try.underlying22 infoB .i64 k (by rw [hylH.out]; exact hkN)
                      have hyk : (ys i).getD k 0 = if k < ls i then mkB i k else if k < ls i + 16 then mkB (i + 7) (k - ls i) else mkB (i + 13) (k - ls i - 16) := by
                        rw [hyH.out]
                        exact own_at i k (ls i) (by omega)
                      rw [hyk] at hcw
                      have hm0 := hd_ (fun W => mark_any i k (by omega) (by omega) W)
                      have hk1 : (k : Int) + 1 ≤ 9223372036854775807 := by omega
                      have hkH := hd_ hkN
                      have hI1 : (Value.int IntKind.i64 (wrap64 ((k : Int) + 1))) = .int .i64 ((k : Int) + 1) := congrArg _ (by unfold wrap64; omega)
                      clear hyk
                      by_cases hA : k < ls i
                      · rw [if_pos hA] at hcw
                        obtain ⟨bv, ov, hixv, hcv⟩ := hRv.out.at Try.underlying22 infoB .i64 k (by rw [mkL_length]; exact hA)
                        rw [mkL_getD _ _ _ hA] at hcv
                        have hAI : (k : Int) < (ls i : Int) := by omega
                        obtain ⟨z, hz⟩ : ∃ z : Int, z = (k : Int) - (ls i : Int) := ⟨_, rfl⟩
                        have hw1 : wrap64 ((k : Int) - (ls i : Int)) = z := by unfold wrap64; omega
                        have hw2 : IntKind.i64.wrap ((k : Int) - (ls i : Int)) = z := by rw [IntKind.wrap_i64]; omega
                        have hw3 : (k : Int) - (ls i : Int) = z := hz.symm
                        have hn16 : ¬ (16 ≤ z) := by omega
                        have hn0 : ¬ (0 ≤ z) := by omega
                        have hd16 : decide (16 ≤ z) = false := decide_eq_false hn16
                        have hd0 : decide (0 ≤ z) = false := decide_eq_false hn0
                        clear hz hNv
                        go_wp2_with (go_at_call 49; (with_reducible refine (hm0.out wr).mono ?_); rintro e w7 ⟨rfl, rfl⟩)
                        go_roundw
                        case rel => exact ⟨k + 1, hkH.out, by first | rfl | (rw [hI1]; rfl), by first | rfl | trivial⟩
                        case measure => first | (rw [hI1]; exact meas_k1x _ _ hkH.out) | exact meas_k1x _ _ hkH.out
                      rw [if_neg hA] at hcw
                      obtain ⟨d, hd⟩ : ∃ d, d = k - ls i := ⟨_, rfl⟩
                      have hAI : ¬ (k : Int) < (ls i : Int) := by omega
                      obtain ⟨z, hz⟩ : ∃ z : Int, z = (k : Int) - (ls i : Int) := ⟨_, rfl⟩
                      have hw1 : wrap64 ((k : Int) - (ls i : Int)) = z := by unfold wrap64; omega
                      have hw2 : IntKind.i64.wrap ((k : Int) - (ls i : Int)) = z := by rw [IntKind.wrap_i64]; omega
                      have hw3 : (k : Int) - (ls i : Int) = z := hz.symm
                      have hzd : z = (d : Int) := by omega
                      rw [← hd] at hcw
                      by_cases hB : k < ls i + 16
                      · rw [if_pos hB] at hcw
                        have hn16 : ¬ (16 ≤ z) := by omega
                        have hn0 : 0 ≤ z := by omega
                        have hd16 : decide (16 ≤ z) = false := decide_eq_false hn16
                        have hd0 : decide (0 ≤ z) = true := decide_eq_true hn0
                        have e7 : (((i + 7 : Nat)) : Int) = (i : Int) + 7 := by push_cast; rfl
                        have hm7 := hd_ (show Calls Try.prog 49 #[.int .i64 ((i : Int) + 7), .int .i64 z] wr (fun e w' => e = .returned (.int .u8 (mkB (i + 7) d)) ∧ wr = w') by have := mark_any (i + 7) d (by omega) (by omega) wr; rw [e7, ← hzd] at this; exact this)
                        have hi7 : wrap64 ((i : Int) + 7) = (i : Int) + 7 := by unfold wrap64; omega
                        clear e7 hz hzd hd hNv
                        go_wp2_with (first
                          | (go_at_call 49; (with_reducible refine (hm0.out wr).mono ?_); rintro e w7 ⟨rfl, rfl⟩)
                          | (go_at_call 49; (with_reducible refine hm7.out.mono ?_); rintro e w7 ⟨rfl, rfl⟩))
                        go_roundw
                        case rel => exact ⟨k + 1, hkH.out, by first | rfl | (rw [hI1]; rfl), by first | rfl | trivial⟩
                        case measure => first | (rw [hI1]; exact meas_k1x _ _ hkH.out) | exact meas_k1x _ _ hkH.out
                      · rw [if_neg hB] at hcw
                        have hn16 : 16 ≤ z := by omega
                        have hd16 : decide (16 ≤ z) = true := decide_eq_true hn16
                        obtain ⟨d2, hd2⟩ : ∃ d2, d2 = d - 16 := ⟨_, rfl⟩
                        obtain ⟨z2, hz2⟩ : ∃ z2 : Int, z2 = z - 16 := ⟨_, rfl⟩
                        have hzd2 : z2 = (d2 : Int) := by omega
                        have hw4 : wrap64 (z - 16) = z2 := by unfold wrap64; omega
                        have hw5 : IntKind.i64.wrap (z - 16) = z2 := by rw [IntKind.wrap_i64]; omega
                        have hw6 : z - 16 = z2 := hz2.symm
                        have e7 : (((i + 13 : Nat)) : Int) = (i : Int) + 13 := by push_cast; rfl
                        have hm7 := hd_ (show Calls Try.prog 49 #[.int .i64 ((i : Int) + 13), .int .i64 z2] wr (fun e w' => e = .returned (.int .u8 (mkB (i + 13) d2)) ∧ wr = w') by have := mark_any (i + 13) d2 (by omega) (by omega) wr; rw [e7, ← hzd2] at this; exact this)
                        have hi7 : wrap64 ((i : Int) + 13) = (i : Int) + 13 := by unfold wrap64; omega
                        rw [← hd2] at hcw
                        clear e7 hz hzd hd hNv hz2 hzd2 hd2
                        go_wp2_with (first
                          | (go_at_call 49; (with_reducible refine (hm0.out wr).mono ?_); rintro e w7 ⟨rfl, rfl⟩)
                          | (go_at_call 49; (with_reducible refine hm7.out.mono ?_); rintro e w7 ⟨rfl, rfl⟩))
                        go_roundw
                        case rel => exact ⟨k + 1, hkH.out, by first | rfl | (rw [hI1]; rfl), by first | rfl | trivial⟩
                        case measure => first | (rw [hI1]; exact meas_k1x _ _ hkH.out) | exact meas_k1x _ _ hkH.out
                    · obtain rfl : k = N := by omega
                      go_wp2
                      go_roundw
                      case rel => exact ⟨i + 1, hltH.out, by go_num, by first | rfl | trivial⟩
                      case measure => (simp [intOf]; try omega)
                · go_wp2
                  go_ret
                  exact ⟨rfl, hCf.out⟩
end Go.Proofs.Ytdmogbkfmeihfaa
