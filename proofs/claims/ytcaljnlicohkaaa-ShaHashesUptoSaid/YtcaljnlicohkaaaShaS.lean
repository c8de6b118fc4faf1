/- SHA-256: a hasher takes some more. -/
import Derived.Test.YtcaljnlicohkaaaShaN
import Derived.Test.YtcaljnlicohkaaaMem11
import Derived.Test.YtcaljnlicohkaaaRegOne
namespace Go.Proofs.Ytcaljnlicohkaaa
open Go.RowKit
set_option maxRecDepth 100000
set_option linter.unusedVariables false
set_option linter.unusedSimpArgs false
section
variable {P : Program} {t e : TypeId} (ht : P.underlying t = some (.slice e)) (hinfo : (P.info? e).map (fun i => (i.zero, i.size, i.bytes)) = some (some (.int .u8 0), 1, 1))
include ht hinfo
omit ht hinfo in
theorem add_block (a : Addr) (n : Nat) : (a.add n).block = a.block := by unfold Addr.add; split <;> rfl
theorem Rd.sl_lo {w : World} {v : Value} {xs : List Int} (h : Rd w v xs) (l : Nat) (hl : l ≤ xs.length) :
    ∃ u, (∀ W, (Instr.slice t v (some (.int .i64 l)) none none).run P W = .ok u W) ∧ Rd w u (xs.drop l) ∧ (∀ k, u.ownBlock = some k → v.ownBlock = some k) := by
  obtain ⟨u, h1, h2⟩ := h.sl_l ht hinfo l hl
  refine ⟨u, h1, h2, ?_⟩
  obtain ⟨A, cap, rfl, h3, h4, _, _⟩ := h.form
  have hel : P.elem t = e := by simp [Program.elem, ht]
  have h5 := h1 w
  rw [run_slice_l (P := P) w t A xs.length cap (by rw [hel]; exact ht) .i64 l (by omega) (by omega), hel, run_size hinfo] at h5
  simp at h5
  intro k hk
  subst h5
  unfold sliced at hk
  cases A with
  | none => simp [Value.ownBlock] at hk
  | some a =>
    by_cases hm : cap = l
    · rw [if_pos hm] at hk
      exact hk
    · rw [if_neg hm] at hk
      have h6 : some (a.add (l * 1)).block = some k := hk
      rw [add_block] at h6
      exact h6
end
theorem rd_nil_any {w w1 : World} {v : Value} (h : Rd w v []) : Rd w1 v [] := by
  obtain ⟨hb, hl, A, cap, hv, h1, h2, h3, h4⟩ := h
  exact ⟨hb, hl, A, cap, hv, h1, h2, h3, fun j hj => absurd hj (by simp [nums8])⟩
theorem rd_lt {w : World} {v : Value} {xs : List Int} (h : Rd w v xs) (hne : xs ≠ []) (k : Nat) (hk : v.ownBlock = some k) : k < w.heap.size := by
  obtain ⟨A, cap, rfl, h1, h2, h3, h4⟩ := h.form
  obtain ⟨b, off, rfl, h5⟩ := h4 0 (List.length_pos_iff.2 hne)
  have h6 : some b = some k := hk
  injection h6 with h6
  subst h6
  exact World.block_lt_of_cell? _ _ h5
theorem rd_move {w w1 : World} {S : Nat → Prop} {v : Value} {xs : List Int} (h : Rd w v xs) (hc : Chg S w w1) (hn : xs ≠ [] → ∀ k, v.ownBlock = some k → ¬ S k) : Rd w1 v xs := by
  by_cases hx : xs = []
  · subst hx; exact rd_nil_any h
  · exact h.chg hc (hn hx)
theorem getD_take (B : List Int) (n i : Nat) (h : i < n) : (B.take n).getD i 0 = B.getD i 0 := by
  rw [List.getD_eq_getElem?_getD, List.getElem?_take, if_pos h, List.getD_eq_getElem?_getD]
theorem wordB_take (B : List Int) (i : Nat) (h : i < 16) : wordB (B.take 64) i = wordB B i := by
  unfold wordB
  rw [getD_take _ _ _ (by omega), getD_take _ _ _ (by omega), getD_take _ _ _ (by omega), getD_take _ _ _ (by omega)]
theorem sch_take (B : List Int) : ∀ n, sch (B.take 64) n = sch B n
  | 0 => rfl
  | n + 1 => by
    rw [sch, sch, sch_take B n]
    by_cases h : n < 16
    · rw [if_pos h, if_pos h, wordB_take B n h]
    · rw [if_neg h, if_neg h]
theorem blk_take (s : List W32) (B : List Int) : blk s (B.take 64) = blk s B := by unfold blk; rw [sch_take]
/-- a hasher that was handed some more -/
def HsPost (w : World) (g : Nat) (s : List W32) (rest : List Int) (n : Nat) (w' : World) : Prop :=
  ∃ v, Hs w' g s v rest n ∧ Chg (fun k => k = g) w w' ∧ (∀ k, v.ownBlock = some k → w.heap.size ≤ k)
def wrS (s : List W32) (all : List Int) : List W32 := blkN s all (all.length / 64)
def wrR (all : List Int) : List Int := all.drop (64 * (all.length / 64))
theorem hs8 {s : List W32} (h : s.length = 8) {v : Value} {n : Int} : (hsC s v n)[8]? = some v := by
  obtain ⟨a, b, c, d, e, f, g, i, rfl⟩ := eight h
  rfl
theorem hs9 {s : List W32} (h : s.length = 8) {v : Value} {n N : Int} : (hsC s v n).setIfInBounds 9 (.int .u64 N) = hsC s v N := by
  obtain ⟨a, b, c, d, e, f, g, i, rfl⟩ := eight h
  rfl
theorem setL8 {s s2 : List W32} (h : s.length = 8) (h2 : s2.length = 8) {v : Value} {n : Int} : setL (hsC s v n) 0 (wA s2).toList = hsC s2 v n := by
  obtain ⟨a, b, c, d, e, f, g, i, rfl⟩ := eight h
  obtain ⟨a2, b2, c2, d2, e2, f2, g2, i2, rfl⟩ := eight h2
  simp [hsC, wA, setL]
theorem hs8s {s : List W32} (h : s.length = 8) {v u : Value} {n : Int} : (hsC s v n).setIfInBounds 8 u = hsC s u n := by
  obtain ⟨a, b, c, d, e, f, g, i, rfl⟩ := eight h
  rfl
theorem row_low {w : World} {base : Nat} {e : TypeId} {size n : Nat} {v : Value} {xs : List Value} (h : w.ownsRow base e size v n xs) : w.ownsRow 0 e size v n xs := by
  obtain ⟨h1, h2⟩ := h
  refine ⟨h1, ?_⟩
  rcases h2 with h2 | ⟨g, cap, cur, h3, h4, h5⟩
  · exact .inl h2
  · exact .inr ⟨g, cap, cur, h3, Nat.zero_le _, h5⟩
theorem own_low {w : World} {base : Nat} {e : TypeId} {v : Value} {xs : List Int} (h : Own w base e v xs) : Own w 0 e v xs := ⟨h.1, row_low h.2⟩
set_option maxHeartbeats 2000000 in
theorem sha_Write_any (g : Nat) (s : List W32) (v : Value) (rest : List Int) (n : Nat) (y : Value) (B : List Int) (w : World) (h : Hs w g s v rest n) (hn : n < 18446744073709551616) (hl : rest.length ≤ 64) (HR : Rd w y B) (hB : B.length ≤ 140737488351232) (hy : B ≠ [] → y.ownBlock ≠ some g) :
    Calls Try.prog 22 #[.pointer (some ⟨g, 0, none⟩), y] w fun e w' => e = .returned (.tuple #[]) ∧ HsPost w g (wrS s (rest ++ B)) (wrR (rest ++ B)) ((n + B.length) % 18446744073709551616) w' := by
  obtain ⟨q8, q9, q10⟩ := h.cells
  have f0 := h.1.frozen
  have hlen := HR.2.len (P := Try.prog) 34 5 3 Try.underlying34
  have hH := hd_ h
  have HRR := hd_ HR
  clear h HR
  go_enter Try.func22, Try.ntmps22
  go_upto_region 2 with fail
  have hn' : IntKind.u64.wrap ((n : Int) + (B.length : Int)) = (((n + B.length) % 18446744073709551616 : Nat) : Int) := by rw [IntKind.wrap_u64]; omega
  rw [hn']
  obtain ⟨N, hN⟩ : ∃ N, N = (n + B.length) % 18446744073709551616 := ⟨_, rfl⟩
  rw [← hN]
  rw [← hN] at hn'
  have HN := hd_ hN
  clear hN
  obtain ⟨p9, c9⟩ := hH.out.1.put 9 (.int .u64 (N : Int))
  rw [hs9 hH.out.2.2.1] at p9
  have hC1 := hd_ (Chg.grown (S := fun k => k = g) c9 (fun b _ h => by injection h))
  have hO1 := hd_ (hH.out.2.1.chg hC1.out (fun k hk e => hH.out.2.2.2 (by rw [hk, e])))
  have hR1 := hd_ (rd_move HRR.out hC1.out (fun hne k hk e => hy hne (by rw [hk, e])))
  have hlB : Hid (([] : List Int).length + rest.length ≤ 140737488355328 ∧ rest.length + B.length ≤ 140737488355328) := hd_ ⟨by simp; omega, by omega⟩
  have q8' : (w.setCell ⟨g, 9, none⟩ (.int .u64 (N : Int))).cell? ⟨g, 8, none⟩ = some v := p9.cell 8 (hs8 hH.out.2.2.1)
  have P9 := hd_ p9
  clear p9 c9 q8 q9 q10 f0 hlen hn'
  generalize w.setCell ⟨g, 9, none⟩ (.int .u64 (N : Int)) = W1 at *
  have hk1 := hd_ hH.out.2.2
  have hne := hd_ (own_box hO1.out P9.out (by decide))
  clear hH HRR
  go_wp2_with (first
    | (at_builtin; (refine app_bytes (w0 := W1) W1.heap.size rfl _ _ 34 5 rfl Try.underlying34 infoB _ v [] rest rfl rfl (own_nil8 _ _ _) hO1.out.rd (Below.refl _ _) (Nat.le_refl _) hlB.out.1 ?_); intro v2 w2 HO2 HB2 hg2 hat2; rw [List.nil_append] at HO2)
    | (at_builtin; (refine app_bytes (w0 := W1) W1.heap.size rfl _ _ 34 5 rfl Try.underlying34 infoB v2 y rest B rfl rfl HO2 (hR1.out.keep HB2) HB2 HB2.size hlB.out.2 ?_); intro v3 w3 HO3 HB3 hg3 hat3))
  obtain ⟨L, hL⟩ : ∃ L, L = rest ++ B := ⟨_, rfl⟩
  rw [← hL] at HO3
  have HLn := hd_ (show L.length ≤ 140737488355328 by rw [hL, List.length_append]; omega)
  have HL := hd_ hL
  clear hL HO2 HB2 hg2 hat2 hg3 hat3
  have hC3 := hd_ (hC1.out.trans (Chg.below (S := fun k => k = g) HB3) (fun b _ h => h))
  have hO3v := hd_ (hO1.out.chg (Chg.below (S := fun k => False) HB3) (fun k _ h => h))
  have P3 := hd_ (P9.out.keep HB3)
  have hvo : Hid (∀ k, v3.ownBlock = some k → k ≠ g) := hd_ (fun k hk => by have := (own_lt HO3 k hk).1; have := P9.out.lt; omega)
  go_loopw [4] (fun vb wr => ∃ k : Nat, k * 64 ≤ L.length ∧ Rd wr vb (L.drop (64 * k)) ∧ (∀ kk, vb.ownBlock = some kk → kk ≠ g) ∧ Box wr g 50 (hsC (blkN s L k) v (N : Int)) ∧ Chg (fun k => k = g) w3 wr) (fun vb _ => slLen vb)
  case atStart => exact ⟨0, Nat.zero_le _, HO3.rd, hvo.out, P3.out, Chg.refl _ _⟩
  case round =>
    clear hvo P3 HO3
    obtain ⟨k, hk, HRd, hvo, hb, hC⟩ := hrel
    have h8 := blkN_length hk1.out.1 L k
    obtain ⟨D, hD⟩ : ∃ D, D = L.drop (64 * k) := ⟨_, rfl⟩
    rw [← hD] at HRd
    have hDl := hd_ (show D.length = L.length - 64 * k by rw [hD, List.length_drop])
    have hE2 := hd_ (show blkN s L (k + 1) = blk (blkN s L k) D by rw [hD]; rfl)
    have hDE := hd_ (show D = L.drop (64 * k) from hD)
    have hD2 := hd_ (show D.drop 64 = L.drop (64 * (k + 1)) by rw [hD, List.drop_drop]; congr 1)
    clear hD
    obtain ⟨A5, c5, rfl, _⟩ := HRd.form
    by_cases hlt : 64 ≤ D.length
    · have hltI : (64 : Int) ≤ (D.length : Int) := by omega
      obtain ⟨u1, hu1, hRu1⟩ := HRd.sl_h Try.underlying34 infoB 64 hlt
      obtain ⟨u2, hu2, hRu2, hvo2⟩ := HRd.sl_lo Try.underlying34 infoB 64 hlt
      have hu1' : ∀ W, (Instr.slice 34 (.slice A5 D.length c5) none (some (.int .i64 64)) none).run Try.prog W = .ok u1 W := hu1
      have hu2' : ∀ W, (Instr.slice 34 (.slice A5 D.length c5) (some (.int .i64 64)) none none).run Try.prog W = .ok u2 W := hu2
      have hsz2 : (wA (blkN s L k)).size = 8 := by rw [wA_size, h8]
      have hiw2 : (Try.prog.info? 47).map (·.size) = some (wA (blkN s L k)).size := by rw [hsz2]; exact infoW
      have hc8 : ∀ j, j < (wA (blkN s L k)).size → wr.cell? ⟨g, 0 + j, none⟩ = (wA (blkN s L k))[j]? := hb.part 0 (fun j hj => by rw [Nat.zero_add]; unfold hsC; rw [Array.getElem?_append_left hj])
      have hld : ∀ m, Sem.run Try.prog (loadVar 47 ⟨g, 0, none⟩) (wr.drewN m) = .ok (.agg (wA (blkN s L k))) (wr.drewN m) := fun m => run_load_at 47 g 0 _ _ (fun j hj => by rw [cell_keep (below_drewN (Below.refl wr.heap.size wr) m) (hc8 j hj |>.trans (Array.getElem?_eq_getElem hj))]; exact (Array.getElem?_eq_getElem hj).symm) Try.underlying47 rfl hiw2
      go_upto_region 4 with fail
      refine wp_region_any (by kernel_rfl) ?_
      change wpAny _ _ _ _ _ _ _ (World.drew _)
      refine one_take 0 _ _ (v := ?_) rfl (by kernel_rfl) (by kernel_rfl) (by kernel_rfl) (fun _ _ _ h => h) rfl ?_ ?_
      rotate_left
      · intro w; go_simp; try with_reducible rfl
      simp only [Act.put, List.setIfInBounds_toArray, List.set_cons_zero, List.set_cons_succ]
      refine one_take 1 _ _ (v := ?_) rfl (by kernel_rfl) (by kernel_rfl) (by kernel_rfl) (fun _ _ _ h => h) rfl ?_ ?_
      rotate_left
      · intro w; go_simp; try with_reducible rfl
      simp only [Act.put, List.setIfInBounds_toArray, List.set_cons_zero, List.set_cons_succ]
      refine one_take 2 _ _ (v := ?_) rfl (by kernel_rfl) (by kernel_rfl) (by kernel_rfl) (fun _ _ _ h => h) rfl ?_ ?_
      rotate_left
      · intro w; go_simp; try with_reducible rfl
      simp only [Act.put, List.setIfInBounds_toArray, List.set_cons_zero, List.set_cons_succ]
      refine one_take 3 _ _ (v := ?_) rfl (by kernel_rfl) (by kernel_rfl) (by kernel_rfl) (fun _ _ _ h => h) rfl ?_ ?_
      rotate_left
      · intro w; go_simp; try with_reducible rfl
      simp only [Act.put, List.setIfInBounds_toArray, List.set_cons_zero, List.set_cons_succ]
      refine one_take 5 _ _ (v := ?_) rfl (by kernel_rfl) (by kernel_rfl) (by kernel_rfl) (fun _ _ _ h => h) rfl ?_ ?_
      rotate_left
      · intro w; go_simp; try with_reducible rfl
      simp only [Act.put, List.setIfInBounds_toArray, List.set_cons_zero, List.set_cons_succ]
      refine one_take 6 _ _ (v := ?_) rfl (by kernel_rfl) (by kernel_rfl) (by kernel_rfl) (fun _ _ _ h => h) rfl ?_ ?_
      rotate_left
      · intro w; simp [execOp, Act.eval, Instr.sliceAt, hu1', Result.andThen]; with_reducible rfl
      simp only [Act.put, List.setIfInBounds_toArray, List.set_cons_zero, List.set_cons_succ]
      refine one_ready 4 _ _ rfl (by kernel_rfl) rfl (fun K hK => ?_)
      refine wp_load_mid _ _ rfl g 0 rfl (wA (blkN s L k)).toList _ ?_ Try.underlying47 rfl ?_ ?_
      · intro j u hj
        rw [Array.getElem?_toList] at hj
        have hjl : j < (wA (blkN s L k)).size := (Array.getElem?_eq_some_iff.1 hj).1
        rw [cell_keep ((Below.refl _ _).drew) (hc8 j hjl |>.trans (Array.getElem?_eq_getElem hjl)), ← hj]
        exact (Array.getElem?_eq_getElem hjl).symm
      · simpa using hiw2
      simp only [Act.put, List.setIfInBounds_toArray, List.set_cons_zero, List.set_cons_succ, Array.toArray_toList]
      refine hK _ _ ?_
      clear hK K
      refine one_ready 7 _ _ rfl (by kernel_rfl) rfl (fun K hK => ?_)
      go_simp
      with_reducible refine (sha_block_any (blkN s L k) h8 _ (D.take 64) _ (hRu1.keep (Below.refl wr.heap.size wr).drew) (by rw [List.length_take]; omega)).mono ?_
      rintro e w5 ⟨rfl, HB5⟩
      rw [blk_take]
      refine hK _ _ ?_
      clear hK K
      have hb5 := hb.keep (bel_trans (Below.refl wr.heap.size wr).drew HB5)
      refine one_take 8 _ _ (v := ?_) rfl (by kernel_rfl) (by kernel_rfl) (by kernel_rfl) (fun _ _ _ h => h) rfl ?_ ?_
      rotate_left
      · intro w; go_simp; try with_reducible rfl
      simp only [Act.put, List.setIfInBounds_toArray, List.set_cons_zero, List.set_cons_succ]
      refine one_take 9 _ _ (v := ?_) rfl (by kernel_rfl) (by kernel_rfl) (by kernel_rfl) (fun _ _ _ h => h) rfl ?_ ?_
      rotate_left
      · intro w; go_simp; try with_reducible rfl
      simp only [Act.put, List.setIfInBounds_toArray, List.set_cons_zero, List.set_cons_succ]
      refine one_ready 10 _ _ rfl (by kernel_rfl) rfl (fun K hK => ?_)
      have h9 := blk_length h8 D
      have hsz3 : (wA (blk (blkN s L k) D)).size = 8 := by rw [wA_size, h9]
      refine wp_store_mid _ _ _ rfl g 0 (wA (blk (blkN s L k) D)) rfl rfl (hb5.there 0 _ ?_) ?_ ?_ ?_
      · rw [hsz3, hsC_size h8]; decide
      · rw [hsz3]; exact infoW
      · exact wA_one _
      refine hK _ _ ?_
      clear hK K
      obtain ⟨hb6, hC6⟩ := hb5.puts (wA (blk (blkN s L k) D)).toList 0
      rw [setL8 h8 h9] at hb6
      have hC7 := hC.trans ((Chg.below (S := fun k => k = g) (bel_trans (Below.refl wr.heap.size wr).drew HB5)).trans hC6 (fun b _ h => h)) (fun b _ h => h)
      have hR6 := (hRu2.keep (bel_trans (Below.refl wr.heap.size wr).drew HB5)).chg hC6 (fun k hk e => hvo k (hvo2 k hk) e)
      generalize w5.setCells g 0 (wA (blk (blkN s L k) D)).toList = w6 at *
      refine wpAny_done (by kernel_rfl) ?_ _
      go_wp2
      rw [hD2.out] at hR6
      rw [← hE2.out] at hb6
      refine ⟨⟨k + 1, by have := hDl.out; omega, hR6, fun kk hkk => hvo kk (hvo2 kk hkk), hb6, hC7⟩, ?_⟩
      have hlu : slLen u2 = D.length - 64 := by
        obtain ⟨A6, c6, rfl, _⟩ := hRu2.form
        simp [slLen]
      rw [hlu]; simp only [slLen]; omega
    · have hltI : ¬ (64 : Int) ≤ (D.length : Int) := by omega
      have hkE : k = L.length / 64 := by have := hDl.out; omega
      have hC3' := hC3.out
      have hlD : ([] : List Int).length + D.length ≤ 140737488355328 := by have := hDl.out; have := HLn.out; simp only [List.length_nil]; omega
      have hHid := hd_ (And.intro hk1.out (And.intro hkE (And.intro hvo hC3')))
      have hbH := hd_ hb
      have HDH := hd_ (And.intro HRd hlD)
      have hCH := hd_ hC
      clear hk hC hC3' hb hvo hkE hlD HRd
      go_upto_region 6 with fail
      go_wp2_with (first
        | (at_builtin; (refine app_bytes (w0 := wr) wr.heap.size rfl _ _ 34 5 rfl Try.underlying34 infoB _ _ [] D rfl rfl (own_nil8 _ _ _) HDH.out.1 (Below.refl _ _) (Nat.le_refl _) HDH.out.2 ?_); intro v7 w7 HO7 HB7 hg7 hat7; rw [List.nil_append] at HO7; have hb7 := hbH.out.keep HB7; have q8 := hb7.cell 8 (hs8 (v := v) (n := (N : Int)) h8); have f8 := hb7.frozen 8; obtain ⟨A7, c7, rfl, hx7⟩ := HO7.rd.form; clear hx7))
      obtain ⟨hk8, hkE, hvo, hC3'⟩ := hHid.out
      obtain ⟨p8, c8⟩ := hb7.put 8 (.slice A7 D.length c7)
      rw [hs8s h8] at p8
      have hC9 := hCH.out.trans ((Chg.below (S := fun k => k = g) HB7).trans (Chg.grown (S := fun k => k = g) c8 (fun b _ h => by injection h)) (fun b _ h => h)) (fun b _ h => h)
      have hoN : (Value.slice A7 D.length c7).ownBlock ≠ some g := own_box HO7 hb7 (by decide)
      have hO9 := HO7.chg (Chg.grown (S := fun k => k = g) c8 (fun b _ h => by injection h)) (fun k hk e => hoN (by rw [hk, e]))
      have hSE : wrS s (rest ++ B) = blkN s L k := by rw [← HL.out, wrS, ← hkE]
      have hDR : wrR (rest ++ B) = D := by rw [← HL.out, wrR, ← hkE]; exact hDE.out.symm
      rw [hSE, hDR]
      refine bodyPost_end (results_none rfl _ _ _) rfl ?_
      exact ⟨rfl, _, ⟨by rw [HN.out] at p8; exact p8, own_low hO9, h8, hoN⟩, hC3'.trans hC9 (fun b _ h => h), fun kk hkk => Nat.le_trans (Nat.le_trans hC3'.size hCH.out.size) (own_lt HO7 kk hkk).1⟩
end Go.Proofs.Ytcaljnlicohkaaa
