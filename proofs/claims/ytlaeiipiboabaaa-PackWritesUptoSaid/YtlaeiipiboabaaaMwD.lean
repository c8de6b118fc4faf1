/- The law PackWrites (bounded). -/
import Derived.Test.YtlaeiipiboabaaaMwB
import Derived.Test.YtlaeiipiboabaaaMwC
namespace Go.Proofs.Ytlaeiipiboabaaa
open Go.RowKit
set_option maxRecDepth 100000
set_option linter.unusedVariables false
abbrev wrO : Obj := .cells #[.int .i64 0, .slice none 0 0] 43
abbrev xrO : Obj := .cells #[.slice none 0 0, .int .i64 0] 48
/-- two pairs of writers, apart from each other; what was there ahead of them is as it was -/
def Bw2 (w0 : World) (B : Nat) (W : World) (g h : Nat) (v u : Value) (s : WS) (g2 h2 : Nat) (v2 u2 : Value) (s2 : WS) : Prop :=
  Bw W g h v u s ∧ Bw W g2 h2 v2 u2 s2 ∧ (∀ k, bwS g h v u k → ¬ bwS g2 h2 v2 u2 k) ∧ (∀ k, bwS g h v u k → B ≤ k) ∧ (∀ k, bwS g2 h2 v2 u2 k → B ≤ k) ∧ Below B w0 W ∧ B ≤ W.heap.size
theorem Bw2.keep {w0 W W1 : World} {B g h g2 h2 : Nat} {v u v2 u2 : Value} {s s2 : WS} (t : Bw2 w0 B W g h v u s g2 h2 v2 u2 s2) (hb : Below W.heap.size W W1) : Bw2 w0 B W1 g h v u s g2 h2 v2 u2 s2 :=
  ⟨t.1.keep hb, t.2.1.keep hb, t.2.2.1, t.2.2.2.1, t.2.2.2.2.1, t.2.2.2.2.2.1.trans (hb.mono t.2.2.2.2.2.2), Nat.le_trans t.2.2.2.2.2.2 hb.size⟩
theorem Bw2.swap {w0 W : World} {B g h g2 h2 : Nat} {v u v2 u2 : Value} {s s2 : WS} (t : Bw2 w0 B W g h v u s g2 h2 v2 u2 s2) : Bw2 w0 B W g2 h2 v2 u2 s2 g h v u s :=
  ⟨t.2.1, t.1, fun k h1 h2 => t.2.2.1 k h2 h1, t.2.2.2.2.1, t.2.2.2.1, t.2.2.2.2.2⟩
theorem Bw2.step {w0 W W1 : World} {B g h g2 h2 : Nat} {v u v2 u2 : Value} {s s2 s' : WS} (t : Bw2 w0 B W g h v u s g2 h2 v2 u2 s2) (p : BwPost W g h v u s' W1) : ∃ v' u', Bw2 w0 B W1 g h v' u' s' g2 h2 v2 u2 s2 := by
  obtain ⟨v', u', q, hC, hk⟩ := p
  refine ⟨v', u', q, t.2.1.chg hC (fun k h1 h2 => t.2.2.1 k h2 h1), ?_, ?_, t.2.2.2.2.1, hC.then t.2.2.2.2.2.1 t.2.2.2.1 t.2.2.2.2.2.2, Nat.le_trans t.2.2.2.2.2.2 hC.size⟩
  · intro k h1 h2
    rcases hk k h1 with e | e
    · exact t.2.2.1 k e h2
    · have := t.2.1.lt k h2; omega
  · intro k h1
    rcases hk k h1 with e | e
    · exact t.2.2.2.1 k e
    · exact Nat.le_trans t.2.2.2.2.2.2 e
/-- four new variables: two of the program's writers, two of the document's -/
theorem four_new (w : World) : Bw2 w w.heap.size ((((w.alloc wrO).alloc wrO).alloc xrO).alloc xrO) w.heap.size (w.heap.size + 2) (.slice none 0 0) (.slice none 0 0) (0, []) (w.heap.size + 1) (w.heap.size + 3) (.slice none 0 0) (.slice none 0 0) (0, []) := by
  have n1 : ∀ W : World, ∀ o, Below W.heap.size W (W.alloc o) := fun W o => al1 (Below.refl _ _) o
  have z1 : (w.alloc wrO).heap.size = w.heap.size + 1 := World.size_alloc _ _
  have z2 : ((w.alloc wrO).alloc wrO).heap.size = w.heap.size + 2 := by rw [World.size_alloc, z1]
  have z3 : (((w.alloc wrO).alloc wrO).alloc xrO).heap.size = w.heap.size + 3 := by rw [World.size_alloc, z2]
  have b1 := ((((Box.new w _ 43 : Box (w.alloc wrO) _ _ _)).keep (n1 _ wrO)).keep (n1 _ xrO)).keep (n1 _ xrO)
  have b2 := (((Box.new (w.alloc wrO) _ 43 : Box ((w.alloc wrO).alloc wrO) _ _ _)).keep (n1 _ xrO)).keep (n1 _ xrO)
  have b3 := ((Box.new ((w.alloc wrO).alloc wrO) _ 48 : Box (((w.alloc wrO).alloc wrO).alloc xrO) _ _ _)).keep (n1 _ xrO)
  have b4 := (Box.new (((w.alloc wrO).alloc wrO).alloc xrO) _ 48 : Box ((((w.alloc wrO).alloc wrO).alloc xrO).alloc xrO) _ _ _)
  rw [z1] at b2
  rw [z2] at b3
  rw [z3] at b4
  have hBB := al1 (al1 (al1 (al1 (Below.refl w.heap.size w) wrO) wrO) xrO) xrO
  have hz : (((((w.alloc wrO).alloc wrO).alloc xrO).alloc xrO)).heap.size = w.heap.size + 4 := by rw [World.size_alloc, z3]
  generalize ((((w.alloc wrO).alloc wrO).alloc xrO).alloc xrO) = W at *
  have hn : ∀ b, (Value.slice none 0 0).ownBlock = some b → False := fun b h => absurd h (by simp [Value.ownBlock])
  have hn' : ∀ b, some b = (Value.slice none 0 0).ownBlock → False := fun b h => hn b h.symm
  refine ⟨⟨⟨b1, own_nil8 _ _ _⟩, ⟨b3, own_nil8 _ _ _⟩, fun b h => (hn b h).elim⟩, ⟨⟨b2, own_nil8 _ _ _⟩, ⟨b4, own_nil8 _ _ _⟩, fun b h => (hn b h).elim⟩, ?_, ?_, ?_, hBB, by omega⟩
  · rintro k h1 h2
    rcases h1 with rfl | rfl | e | e
    · rcases h2 with e | e | e | e
      · omega
      · omega
      · exact hn' _ e
      · exact hn' _ e
    · rcases h2 with e | e | e | e
      · omega
      · omega
      · exact hn' _ e
      · exact hn' _ e
    · exact hn' _ e
    · exact hn' _ e
  · rintro k (rfl | rfl | e | e)
    · exact Nat.le_refl _
    · omega
    · exact (hn' _ e).elim
    · exact (hn' _ e).elim
  · rintro k (rfl | rfl | e | e)
    · omega
    · omega
    · exact (hn' _ e).elim
    · exact (hn' _ e).elim
theorem op300 : opC 0 ((300 : Nat) : Int) 0 0 ⟨#[]⟩ false (List.replicate 32 0) ⟨#[]⟩ ⟨#[]⟩ 0 = #[.int .i64 0, .int .u64 300, .int .i64 0, .int .i64 0, .string ⟨#[]⟩, .bool false, .int .u8 0, .int .u8 0, .int .u8 0, .int .u8 0, .int .u8 0, .int .u8 0, .int .u8 0, .int .u8 0, .int .u8 0, .int .u8 0, .int .u8 0, .int .u8 0, .int .u8 0, .int .u8 0, .int .u8 0, .int .u8 0, .int .u8 0, .int .u8 0, .int .u8 0, .int .u8 0, .int .u8 0, .int .u8 0, .int .u8 0, .int .u8 0, .int .u8 0, .int .u8 0, .int .u8 0, .int .u8 0, .int .u8 0, .int .u8 0, .int .u8 0, .int .u8 0, .string ⟨#[]⟩, .string ⟨#[]⟩, .int .i64 0] := by kernel_rfl
set_option maxHeartbeats 8000000 in
theorem law_PackWrites (w : World) (v : Value) (x : List OpT) (r : RSl 41 128 ROp w [v] x) (t : (x.map (fun a : OpT => 1 + (1 + (1 + (1 + (a.2.2.2.2.1.size + 1 + (1 + (1 + (a.2.2.2.2.2.2.2.1.1.size + 1 + (a.2.2.2.2.2.2.2.1.2.1.size + 1 + (1 + 0)) + 1 + 0))))))) + 1)).sum + 1 ≤ 1048576) :
    Calls Try.prog 6 #[v] w fun e w' => e = .returned (.bool true) ∧ Below w.heap.size w w' := by
  have hsz := hd_ (show (x.map opSz).sum + x.length ≤ 1048576 by have := sz_sum x; omega)
  obtain ⟨v', vs, hv, hR, hBB, hx⟩ := r
  injection hv with hv
  subst hv
  have hRH := hd_ hR
  have hxH := hd_ hx
  obtain ⟨hvl, A, cap, rfl, hc1, hc2, _, _⟩ := hR
  clear hx hBB t
  have hN : Hid (Bw2 w w.heap.size ((((w.alloc wrO).alloc wrO).alloc xrO).alloc xrO) w.heap.size (w.heap.size + 1 + 1) (.slice none 0 0) (.slice none 0 0) (0, []) (w.heap.size + 1) (w.heap.size + 1 + 1 + 1) (.slice none 0 0) (.slice none 0 0) (0, [])) := hd_ (four_new w)
  go_enter Try.func6, Try.ntmps6
  go_upto_region 4 with fail
  obtain ⟨W0, hW0⟩ : ∃ W0, W0 = ((((w.alloc wrO).alloc wrO).alloc xrO).alloc xrO) := ⟨_, rfl⟩
  rw [← hW0] at hN ⊢
  clear hW0
  go_loopw [15] (fun vi wr => ∃ (k : Nat) (v u v2 u2 : Value) (s s2 : WS), k ≤ x.length ∧ vi = .int .i64 (k : Int) ∧ Bw2 w w.heap.size wr w.heap.size (w.heap.size + 1 + 1) v u s (w.heap.size + 1) (w.heap.size + 1 + 1 + 1) v2 u2 s2 ∧ s.2.length ≤ 64 * k + ((x.take k).map opSz).sum ∧ s2.2.length ≤ 64 * k + ((x.take k).map opSz).sum) (fun vi _ => x.length - (intOf vi).toNat)
  case atStart => exact ⟨0, _, _, _, _, _, _, Nat.zero_le _, rfl, hN.out, by simp, by simp⟩
  case round =>
    clear hN
    obtain ⟨k, v1, u1, v2, u2, s, s2, hk, rfl, hX, hs, hs2⟩ := hrel
    by_cases hlt : k < x.length
    · have hkI : (k : Int) < (x.length : Int) := by omega
      obtain ⟨a, ha, hal, hra⟩ := hxH.out k hlt
      obtain ⟨V, hV, hVe, hcs, hd, hdb, hn, hm0, hm⟩ := op_cells hra hal
      have hsa := sz_take x k hlt a ha
      have hsl := sz_take_le x (k + 1)
      have hea : opSz a = a.2.2.2.2.1.size + a.2.2.2.2.2.2.2.1.1.size + a.2.2.2.2.2.2.2.1.2.1.size := rfl
      obtain ⟨call, V0, n, most, S, F, ds, ⟨kk, u, m, u9⟩, u8⟩ := a
      simp only at hVe hcs hd hdb hn hm0 hm hea
      subst hVe
      have hszz := hsz.out
      have hlen := wStep_len s call n most m V hV S kk u F ds hd hn hm (by omega) (by omega) (by omega)
      have hlen2 := wStep_len s2 call n most m V hV S kk u F ds hd hn hm (by omega) (by omega) (by omega)
      obtain ⟨C, hC⟩ : ∃ C, C = opC call (V : Int) n most S F ds kk u m := ⟨_, rfl⟩
      rw [← hC] at hcs
      have hCz : C.size = 41 := by rw [hC]; exact opC_size _ _ _ _ _ _ _ hd _ _ _
      obtain ⟨zO, bO, hzO⟩ := infoOpZ
      obtain ⟨bl, off, hix, hcell⟩ := hRH.out.whole Try.underlying39 hzO .i64 k hlt (by omega) C hcs hCz
      have hce := hd_ (cells_keep hcell hX.2.2.2.2.2.1)
      have hiO : (Try.prog.info? 53).map (·.size) = some C.size := by rw [hCz]; exact infoOp2
      have hC1 : C.all (·.oneCell') = true := by rw [hC]; exact opC_one _ _ _ _ _ _ _ _ _ _
      have hC0 : C[0]? = some (.int .i64 call) := by rw [hC]; exact opC_lo _ _ _ _ _ _ _ _ _ _ 0 (by decide)
      have hwr1 := hd_ (fun W (h : Bw W w.heap.size (w.heap.size + 1 + 1) v1 u1 s) => show Calls Try.prog 25 #[.pointer (some ⟨w.heap.size, 0, none⟩), .pointer (some ⟨w.heap.size + 1 + 1, 0, none⟩), .agg C] W (BwRet W w.heap.size (w.heap.size + 1 + 1) v1 u1 (wStep s call V n most S F ds kk u m)) by rw [hC]; exact B_write _ _ v1 u1 s call n most m V S kk u F ds W h hV hn hd hdb hm0 hm (by omega))
      have hwr2 := hd_ (fun W (h : Bw W (w.heap.size + 1) (w.heap.size + 1 + 1 + 1) v2 u2 s2) => show Calls Try.prog 25 #[.pointer (some ⟨w.heap.size + 1, 0, none⟩), .pointer (some ⟨w.heap.size + 1 + 1 + 1, 0, none⟩), .agg C] W (BwRet W (w.heap.size + 1) (w.heap.size + 1 + 1 + 1) v2 u2 (wStep s2 call V n most S F ds kk u m)) by rw [hC]; exact B_write _ _ v2 u2 s2 call n most m V S kk u F ds W h hV hn hd hdb hm0 hm (by omega))
      have hwo := hd_ (fun W (h : Bw W w.heap.size (w.heap.size + 1 + 1) v1 u1 s) => wrote_any _ _ v1 u1 s W h (by omega))
      obtain ⟨t1, ht1⟩ : ∃ t1, t1 = wStep s call V n most S F ds kk u m := ⟨_, rfl⟩
      obtain ⟨t2, ht2⟩ : ∃ t2, t2 = wStep s2 call V n most S F ds kk u m := ⟨_, rfl⟩
      rw [← ht1] at hwr1 hlen
      rw [← ht2] at hwr2 hlen2
      have hnx := hd_ (show t1.2.length ≤ 64 * (k + 1) + ((x.take (k + 1)).map opSz).sum ∧ t2.2.length ≤ 64 * (k + 1) + ((x.take (k + 1)).map opSz).sum ∧ s2.2.length ≤ 64 * (k + 1) + ((x.take (k + 1)).map opSz).sum by omega)
      have hcur := hd_ hX
      have hkx := hd_ hlt
      clear hcs hcell hX hs hs2 hlen hlen2 ht1 ht2 hsa hsl hea hszz ha hal hra hC hd hdb hn hm0 hm hV hzO hk
      go_upto_region 6 with (first
        | (refine load_at rfl 53 _ rfl bl off C _ rfl hce.out Try.underlying53 rfl hiO ?_)
        | (refine store_box rfl 53 _ _ rfl _ _ _ C rfl rfl (Box.new _ _ _) hiO (by rw [hCz]; rfl) hC1 ?_; intro w5 hb5 hg5))
      have HB5 := below_row (al1 (Below.refl wr.heap.size wr) _) hg5 (Nat.le_refl _) (size_al _ _)
      have P5 := hd_ (hcur.out.keep HB5)
      have hltb := hd_ (And.intro hcur.out.1.lt hcur.out.2.1.lt)
      simp only [Act.put]
      clear hg5 HB5
      have q0 := hb5.cell 0 hC0
      have hwo5 := hd_ (hwo.out _ P5.out.1)
      go_cut [27] (fun p W => p = .bool false ∧ Below w5.heap.size w5 W)
      case first =>
        by_cases h7 : call = 7
        · subst h7
          go_wp2_with (go_at_call 27; (with_reducible refine hwo5.out.mono ?_); rintro e w7 ⟨rfl, HBN⟩)
          go_meet
          exact ⟨rfl, HBN⟩
        · have b7 : (call == 7) = false := beq_false_of_ne h7
          go_wp2
          go_meet
          exact ⟨rfl, Below.refl _ _⟩
      obtain ⟨rfl, HB6⟩ := hcut
      have hb6 := hd_ (hb5.keep HB6)
      have P6 := hd_ (P5.out.keep HB6)
      have hz6 := hd_ (show wr.heap.size < wc.heap.size from (hb6.out).lt)
      have hw6 := hd_ (hwr1.out _ P6.out.1)
      clear hb5 HB6 q0 hwo5 hwo hwr1
      go_upto_region 9 with (first
        | (refine load_box rfl 53 _ rfl wr.heap.size 53 C _ rfl hb6.out Try.underlying53 rfl hiO ?_)
        | (go_at_call 25; (with_reducible refine hw6.out.mono ?_); rintro e w7 ⟨rfl, H7⟩))
      have hb7 := hd_ (show Box w7 wr.heap.size 53 C by
        obtain ⟨_, _, _, hC, _⟩ := H7
        exact hb6.out.chg hC (fun e => Nat.lt_irrefl _ (hltb.out.1 _ e)))
      obtain ⟨v3, u3, P7⟩ := P6.out.step H7
      have P7 := hd_ P7
      have hw7 := hd_ (hwr2.out _ P7.out.2.1)
      have hxl : x.length ≤ 1048576 := by have := hsz.out; omega
      have hw1 : wrap64 ((k : Int) + 1) = (k : Int) + 1 := wrap_k1 k (by omega)
      have hI1 : (Value.int IntKind.i64 (wrap64 ((k : Int) + 1))) = .int .i64 ((k : Int) + 1) := congrArg _ hw1
      clear hb6 P6 hw6 hwr2 H7
      go_upto_region 10 with fail
      rotate_left
      · exact ⟨⟨k + 1, v3, u3, v2, u2, t1, s2, hkx.out, rfl, P7.out, hnx.out.1, hnx.out.2.2⟩, meas_k1 _ _ hkx.out⟩
      go_wp2_with (first
        | (refine load_box rfl 53 _ rfl wr.heap.size 53 C _ rfl hb7.out Try.underlying53 rfl hiO ?_)
        | (go_at_call 25; (with_reducible refine hw7.out.mono ?_); rintro e w8 ⟨rfl, H8⟩))
      obtain ⟨v4, u4, P8⟩ := P7.out.swap.step H8
      have P9 := P8.swap
      go_roundw
      case rel => exact ⟨k + 1, v3, u3, v4, u4, t1, t2, hkx.out, by first | rfl | (rw [hw1]; push_cast; rfl) | (simp only [hw1, IntKind.wrap_i64]; push_cast; rfl), P9, hnx.out.1, hnx.out.2.1⟩
      case measure => first | (rw [hI1]; exact meas_k1 _ _ hkx.out) | exact meas_k1 _ _ hkx.out
    · obtain rfl : k = x.length := by omega
      have hszz := hsz.out
      rw [List.take_length] at hs hs2
      have hPH := hd_ hX
      have hbw := hd_ (B_write (w.heap.size + 1) (w.heap.size + 1 + 1 + 1) v2 u2 s2 0 0 0 0 300 ⟨#[]⟩ ⟨#[]⟩ ⟨#[]⟩ false (List.replicate 32 0) wr hX.2.1 (by decide) (by decide) (by decide) (by intro b hb; rw [List.mem_replicate] at hb; omega) (by decide) (by decide) (by show s2.2.length + 0 + 0 + 0 ≤ _; omega))
      rw [op300] at hbw
      have hl2 := wStep_len s2 0 0 0 0 300 (by decide) ⟨#[]⟩ ⟨#[]⟩ ⟨#[]⟩ false (List.replicate 32 0) (by decide) (by decide) (by decide) (by decide) (by decide) (by decide)
      obtain ⟨t2, ht2⟩ : ∃ t2, t2 = wStep s2 0 ((300 : Nat) : Int) 0 0 ⟨#[]⟩ false (List.replicate 32 0) ⟨#[]⟩ ⟨#[]⟩ 0 := ⟨_, rfl⟩
      rw [← ht2] at hbw hl2
      have hs1 := hd_ (show s.2.length ≤ 140737488270000 by omega)
      have hs3 := hd_ (show t2.2.length ≤ 140737488270000 by
        have e : (ByteArray.mk #[]).size = 0 := rfl
        omega)
      clear hX hs hs2 ht2 hl2
      go_upto_region 13 with (go_at_call 25; (with_reducible refine hbw.out.mono ?_); rintro e w7 ⟨rfl, H7⟩)
      obtain ⟨v4, u4, P8⟩ := hPH.out.swap.step H7
      have P9 := hd_ P8.swap
      have hwo1 := hd_ (wrote_any _ _ v1 u1 s w7 P8.2.1 hs1.out)
      have hwo2 := hd_ (fun W (h : Below w7.heap.size w7 W) => wrote_any _ _ v4 u4 t2 W (P9.out.keep h).2.1 hs3.out)
      have HB := hd_ (And.intro P8.2.2.2.2.2.1 P8.2.2.2.2.2.2)
      clear P8 H7 hbw
      go_wp2_with (first
        | (go_at_call 27; (with_reducible refine hwo1.out.mono ?_); rintro e wa ⟨rfl, HBa⟩; have hwo3 := hwo2.out wa HBa)
        | (go_at_call 27; (with_reducible refine hwo3.mono ?_); rintro e wb ⟨rfl, HBb⟩))
      go_ret
      exact ⟨rfl, HB.out.1.trans ((bel_trans HBa HBb).mono HB.out.2)⟩
end Go.Proofs.Ytlaeiipiboabaaa
