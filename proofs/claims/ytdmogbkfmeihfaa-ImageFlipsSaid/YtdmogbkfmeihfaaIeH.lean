/- The document's side: may a state be? -/
import Derived.Test.YtdmogbkfmeihfaaIeG
namespace Go.Proofs.Ytdmogbkfmeihfaa
open Go.RowKit
set_option maxRecDepth 100000
set_option linter.unusedVariables false
theorem risesR_tab (seq : Int) : ∀ (l : List RowT) (f : Bool) (a : ByteArray), risesR seq l f a = true → ∀ r ∈ l, tabC r = 0
  | [], _, _, _, s, hs => by cases hs
  | t :: r, f, a, h, s, hs => by
    unfold risesR at h
    rw [Bool.and_eq_true] at h
    rcases List.mem_cons.1 hs with h1 | h1
    · rw [h1]; exact (mayB_parts h.1).1
    · exact risesR_tab seq r false t.1 h.2 s h1
theorem hdI_len (seq : Int) (l : List RowT) (h0 : 0 ≤ seq) (h1 : seq ≤ 1152921504606846976) (hl : l.length ≤ 1048576) : (hdI seq l).length ≤ 24 := by
  have b1 := lebB_10 (v := seq.toNat) (by omega)
  have b2 := lebB_10 (v := l.length) (by omega)
  unfold hdI
  rw [List.length_append, List.length_append]
  have : hwi.length = 4 := rfl
  omega
set_option maxHeartbeats 8000000 in
theorem rCheck_any (seq : Int) (v : Value) (l : List RowT) (w : World) (HR : RdR w v l) :
    Calls Try.prog 33 #[.agg (stC seq v)] w fun e w' => e = .returned (.int .i64 (chkA seq l)) ∧ Below w.heap.size w w' := by
  obtain ⟨A0, c0, hv0, hc0⟩ := HR.form
  subst hv0
  have hlen := HR.len
  have hbS := Box.new w (stC seq (.slice A0 l.length c0)) 36
  have hB0 := al1 (Below.refl w.heap.size w) (.cells (stC seq (.slice A0 l.length c0)) 36)
  by_cases hbig : 1048576 < l.length
  · have hR : chkA seq l = 90 := by unfold chkA; rw [if_pos hbig]
    rw [hR]
    have hbI : 1048576 < (l.length : Int) := by omega
    have q1 := hbS.cell 1 rfl
    have hB0 := hd_ hB0
    unfold stC at *
    clear hR HR hbS
    go_enter Try.func33, Try.ntmps33
    go_wp2
    go_ret
    exact ⟨rfl, hB0.out⟩
  have hbI : ¬ 1048576 < (l.length : Int) := by omega
  by_cases hs : seq < 0 ∨ 1152921504606846976 < seq
  · have hR : chkA seq l = 91 := by unfold chkA; rw [if_neg hbig, if_pos hs]
    rw [hR]
    have q0 := hbS.cell 0 rfl
    have q1 := hbS.cell 1 rfl
    have hB0 := hd_ hB0
    unfold stC at *
    clear hR HR hbS
    by_cases hs0 : seq < 0
    · go_enter Try.func33, Try.ntmps33
      go_wp2
      go_ret
      exact ⟨rfl, hB0.out⟩
    · have hs1 : 1152921504606846976 < seq := hs.resolve_left hs0
      clear hs
      go_enter Try.func33, Try.ntmps33
      go_wp2
      go_ret
      exact ⟨rfl, hB0.out⟩
  have hR : chkA seq l = if risesR seq l true ⟨#[]⟩ = false then 91 else if 268435456 < (hdI seq l).length + 4 + (allR l).length then 90 else 0 := by unfold chkA; rw [if_neg hbig, if_neg hs]
  rw [hR]
  clear hR
  have hs0 : ¬ seq < 0 := fun h => hs (.inl h)
  have hs1 : ¬ 1152921504606846976 < seq := fun h => hs (.inr h)
  have htb := hd_ (risesR_tab seq l true ⟨#[]⟩)
  obtain ⟨R, hRd⟩ : ∃ R, R = risesR seq l true ⟨#[]⟩ := ⟨_, rfl⟩
  rw [← hRd]
  rw [← hRd] at htb
  have hRH2 := hd_ hRd
  have hhl := hdI_len seq l (by omega) (by omega) (by omega)
  have hHd := hd_ (fun W (h : RdR W (.slice A0 l.length c0) l) => head_any seq (.slice A0 l.length c0) l W h (by omega) (by omega) (by omega))
  obtain ⟨hn, hhn⟩ : ∃ hn, hn = (hdI seq l).length := ⟨_, rfl⟩
  rw [← hhn]
  rw [← hhn] at hhl
  obtain ⟨Z, hZ⟩ : ∃ Z, Z = if R = false then (91 : Int) else if 268435456 < hn + 4 + (allR l).length then 90 else 0 := ⟨_, rfl⟩
  rw [← hZ]
  have hZ1 := hd_ (show (R = false → Z = 91) ∧ (R = true → (268435456 < hn + 4 + (allR l).length → Z = 90) ∧ (¬ 268435456 < hn + 4 + (allR l).length → Z = 0)) from ⟨fun h => by rw [hZ, if_pos h], fun h => ⟨fun h2 => by rw [hZ, if_neg (by rw [h]; simp), if_pos h2], fun h2 => by rw [hZ, if_neg (by rw [h]; simp), if_neg h2]⟩⟩)
  clear hZ
  obtain ⟨W0, hW0⟩ : ∃ W0, W0 = w.alloc (.cells (stC seq (.slice A0 l.length c0)) 36) := ⟨_, rfl⟩
  rw [← hW0] at hbS hB0
  have hz0 := hd_ (show W0.heap.size = w.heap.size + 1 by rw [hW0]; simp)
  have hRH := hd_ (HR.keep hB0)
  have q0 := hbS.cell 0 (v := .int .i64 seq) rfl
  have q1 := hbS.cell 1 (v := .slice A0 l.length c0) rfl
  have hQ := hd_ (fun W (h : Below W0.heap.size W0 W) => And.intro (cell_keep h q0) (And.intro (cell_keep h q1) (hbS.keep h)))
  have hB0 := hd_ hB0
  have hlb := hd_ (show l.length ≤ 1048576 ∧ hn ≤ 24 by omega)
  have hhnH := hd_ hhn
  unfold stC at hW0
  unfold stC
  clear hbS hs HR hRd hhl hhn
  go_enter Try.func33, Try.ntmps33
  go_upto_region 1 with fail
  rw [← hW0]
  clear hW0
  go_upto_region 7 with fail
  clear q0 q1
  go_loopw [3, 24] (fun va vi wr => ∃ (k : Nat) (ahead : ByteArray), k ≤ l.length ∧ va = .string ahead ∧ vi = .int .i64 (k : Int) ∧ Below W0.heap.size W0 wr ∧ risesR seq (l.drop k) (decide (k = 0)) ahead = R) (fun _ vi _ => l.length - (intOf vi).toNat)
  case atStart => exact ⟨0, ⟨#[]⟩, Nat.zero_le _, rfl, rfl, Below.refl _ _, hRH2.out.symm⟩
  case round =>
    clear hRH2
    obtain ⟨k, ahead, hk, rfl, rfl, hX, hT⟩ := hrel
    by_cases hlt : k < l.length
    · have hkI : (k : Int) < (l.length : Int) := by omega
      obtain ⟨bl, off, hix, hcell0⟩ := hRH.out.at k hlt
      rw [List.drop_eq_getElem_cons hlt] at hT
      generalize l[k] = r at *
      obtain ⟨ky, vu, n⟩ := r
      simp only at hcell0
      have hcell := hd_ (cells_keep hcell0 hX)
      have hXH := hd_ hX
      have hkx := hd_ hlt
      have hI1 : (Value.int IntKind.i64 (wrap64 ((k : Int) + 1))) = .int .i64 ((k : Int) + 1) := congrArg _ (wrap_k1 k (by have := hlb.out.1; omega))
      have hT : (mayB (ky, vu, n) ahead (decide (k = 0)) seq && risesR seq (l.drop (k + 1)) false ky) = R := hT
      obtain ⟨f, hf⟩ : ∃ f, f = decide (k = 0) := ⟨_, rfl⟩
      have hkf : ((k : Int) == 0) = f := by
        rw [hf]
        by_cases h0 : k = 0
        · rw [decide_eq_true h0, beq_iff_eq]; omega
        · rw [decide_eq_false h0, beq_eq_false_iff_ne]; omega
      rw [← hf] at hT
      have hmay := hd_ (fun W => follows_any ky vu n ahead f seq W)
      clear hcell0 hX hlt hf hk
      go_upto_region 9 with (first
        | (refine load_at rfl 61 _ rfl bl off (rowC ky vu n) _ rfl hcell.out Try.underlying61 rfl infoRow ?_)
        | (refine store_box rfl 61 _ _ rfl _ _ _ (rowC ky vu n) rfl rfl (Box.new _ _ _) infoRow rfl (rowC_one' _ _ _) ?_; intro w5 hb5 hg5))
      have HB5 := below_row (al1 (Below.refl wr.heap.size wr) _) hg5 (Nat.le_refl _) (size_al _ _)
      have P5 := bel_trans hXH.out HB5
      obtain ⟨s0, s1, _⟩ := hQ.out w5 P5
      have P5 := hd_ P5
      have hb5 := hd_ hb5
      simp only [Act.put]
      clear hg5 HB5 hXH hcell
      cases hm : mayB (ky, vu, n) ahead f seq
      · rw [hm] at hT
        have hR0 : R = false := hT.symm
        subst hR0
        rw [hm] at hmay
        clear hm hT
        obtain rfl := hZ1.out.1 rfl
        go_wp2_with (first
          | (refine load_boxI ?hw 61 _ rfl wr.heap.size 61 (rowC ky vu n) _ rfl hb5.out Try.underlying61 rfl infoRow ?_; (case hw => first | rfl | simp [Region.wanted, yielded]))
          | (go_at_call 58; (with_reducible refine (hmay.out _).mono ?_); rintro e w6 ⟨rfl, HB6⟩))
        go_ret
        exact ⟨rfl, hB0.out.trans ((bel_trans P5.out HB6).mono hB0.out.size)⟩
      · rw [hm, Bool.true_and] at hT
        rw [hm] at hmay
        have hTH := hd_ hT
        clear hm hT
        go_wp2_with (first
          | (refine load_boxI ?hw 61 _ rfl wr.heap.size 61 (rowC ky vu n) _ rfl hb5.out Try.underlying61 rfl infoRow ?_; (case hw => first | rfl | simp [Region.wanted, yielded]))
          | (go_at_call 58; (with_reducible refine (hmay.out _).mono ?_); rintro e w6 ⟨rfl, HB6⟩; have hb6 := hb5.out.keep HB6; have c0 := hb6.cell 0 (v := .string ky) rfl; have P6 := bel_trans P5.out HB6))
        go_roundw
        case rel => exact ⟨k + 1, ky, hkx.out, rfl, by first | rfl | (rw [hI1]; rfl), P6, by rw [decide_eq_false (by omega)]; exact hTH.out⟩
        case measure => first | (rw [hI1]; exact meas_k1i _ _ hkx.out) | exact meas_k1i _ _ hkx.out
    · obtain rfl : k = l.length := by omega
      rw [List.drop_length] at hT
      have hR0 : R = true := hT.symm
      subst hR0
      obtain ⟨hZa, hZb⟩ := hZ1.out.2 rfl
      have hZa := hd_ hZa
      have hZb := hd_ hZb
      obtain ⟨s0, s1, sb⟩ := hQ.out wr hX
      have sb := hd_ sb
      have hHc := hd_ (hHd.out wr (hRH.out.keep hX))
      have hXH := hd_ hX
      have htab := hd_ (htb.out rfl)
      obtain ⟨sz0, hsz0⟩ : ∃ s, s = hn + 4 := ⟨_, rfl⟩
      have hn9 : hn + 4 ≤ 1000000000000 := by have := hlb.out.2; omega
      have a1 : wrap64 ((hn : Int) + 4) = (sz0 : Int) := wrap_s hn 4 sz0 hn9 hsz0
      have a2 : IntKind.i64.wrap ((hn : Int) + 4) = (sz0 : Int) := wrap_sJ hn 4 sz0 hn9 hsz0
      have hst := hd_ (show sz0 + (allR l).length = hn + 4 + (allR l).length ∧ sz0 ≤ 30 by have := hlb.out.2; omega)
      clear hX hT hlt hk hn9 htb hHd
      clear hsz0
      obtain ⟨tot, htot⟩ : ∃ t, t = sz0 + (allR l).length := ⟨_, rfl⟩
      rw [← hst.out.1, ← htot] at hZa hZb
      have htotH := hd_ htot
      clear htot
      go_upto_region 14 with (first
        | (refine load_boxI ?hw 36 _ rfl w.heap.size 36 (stC seq (.slice A0 l.length c0)) _ rfl sb.out Try.underlying36 rfl infoSt ?_; (case hw => first | rfl | simp [Region.wanted, yielded]))
        | (go_at_call 43; (with_reducible refine hHc.out.mono ?_); rintro e w7 ⟨v7, rfl, HO7, HB7⟩; have hl7 := HO7.rd.2.len (P := Try.prog) 22 5 3 Try.underlying22; rw [← hhnH.out] at hl7))
      have hX7 := bel_trans hXH.out HB7
      obtain ⟨s0b, s1b, _⟩ := hQ.out w7 hX7
      go_upto_region 15 with fail
      have hX7 := hd_ hX7
      clear s0 s1 s0b s1b hl7 a1 a2 hHc sb HB7 HO7 hXH
      go_loopw [6, 47] (fun vs vi wr => ∃ (k size : Nat), k ≤ l.length ∧ vs = .int .i64 (size : Int) ∧ vi = .int .i64 (k : Int) ∧ Below W0.heap.size W0 wr ∧ size + (allR (l.drop k)).length = tot ∧ size ≤ 30 + 66600 * k) (fun _ vi _ => l.length - (intOf vi).toNat)
      case atStart => exact ⟨0, sz0, Nat.zero_le _, rfl, rfl, hX7.out, by rw [List.drop_zero]; exact htotH.out.symm, by have := hst.out.2; omega⟩
      case round =>
        clear hX7
        obtain ⟨k, size, hk, rfl, rfl, hX, hT, hsz⟩ := hrel
        by_cases hlt : k < l.length
        · have hkI : (k : Int) < (l.length : Int) := by omega
          obtain ⟨bl, off, hix, hcell0⟩ := hRH.out.at k hlt
          have ht := htab.out _ (List.getElem_mem hlt)
          rw [List.drop_eq_getElem_cons hlt] at hT
          generalize l[k] = r at *
          obtain ⟨ky, vu, n⟩ := r
          simp only at hcell0
          have hcell := hd_ (cells_keep hcell0 hX)
          have hXH := hd_ hX
          have hkx := hd_ hlt
          have hT : size + (rowL (ky, vu, n) ++ allR (l.drop (k + 1))).length = tot := hT
          rw [List.length_append] at hT
          have hrl := rowL_le ht
          have hrs := hd_ (fun W => rowSize_any ky vu n W ht)
          generalize (rowL (ky, vu, n)).length = rl at *
          have hl9 := hlb.out.1
          have hI1 : (Value.int IntKind.i64 (wrap64 ((k : Int) + 1))) = .int .i64 ((k : Int) + 1) := congrArg _ (wrap_k1 k (by omega))
          obtain ⟨sz2, hsz2⟩ : ∃ s, s = size + rl := ⟨_, rfl⟩
          have h9 : size + rl ≤ 1000000000000 := by omega
          have hnx := hd_ (show sz2 + (allR (l.drop (k + 1))).length = tot ∧ sz2 ≤ 30 + 66600 * (k + 1) by omega)
          have a1 : wrap64 ((size : Int) + (rl : Int)) = (sz2 : Int) := wrap_s size rl sz2 h9 hsz2
          have a2 : IntKind.i64.wrap ((size : Int) + (rl : Int)) = (sz2 : Int) := wrap_sJ size rl sz2 h9 hsz2
          clear hcell0 hX hlt hk hT hsz hrl ht hl9 hsz2 h9
          go_upto_region 17 with (first
            | (refine load_at rfl 61 _ rfl bl off (rowC ky vu n) _ rfl hcell.out Try.underlying61 rfl infoRow ?_)
            | (refine store_box rfl 61 _ _ rfl _ _ _ (rowC ky vu n) rfl rfl (Box.new _ _ _) infoRow rfl (rowC_one' _ _ _) ?_; intro w5 hb5 hg5))
          have HB5 := below_row (al1 (Below.refl wr.heap.size wr) _) hg5 (Nat.le_refl _) (size_al _ _)
          have P5 := hd_ (bel_trans hXH.out HB5)
          have hb5 := hd_ hb5
          simp only [Act.put]
          clear hg5 HB5 hXH hcell
          go_wp2_with (first
            | (refine load_boxI ?hw 61 _ rfl wr.heap.size 61 (rowC ky vu n) _ rfl hb5.out Try.underlying61 rfl infoRow ?_; (case hw => first | rfl | simp [Region.wanted, yielded]))
            | (go_at_call 59; (with_reducible refine (hrs.out _).mono ?_); rintro e w6 ⟨rfl, HB6⟩; have P6 := bel_trans P5.out HB6))
          go_roundw
          case rel => exact ⟨k + 1, sz2, hkx.out, rfl, by first | rfl | (rw [hI1]; rfl), P6, hnx.out.1, hnx.out.2⟩
          case measure => first | (rw [hI1]; exact meas_k1i _ _ hkx.out) | exact meas_k1i _ _ hkx.out
        · obtain rfl : k = l.length := by omega
          rw [List.drop_length] at hT
          have hT : size + 0 = tot := hT
          rw [Nat.add_zero] at hT
          subst hT
          have hXH := hd_ hX
          clear hX hsz hlt hk
          by_cases hE : 268435456 < size
          · have hI : 268435456 < (size : Int) := by omega
            obtain rfl := hZa.out hE
            clear hE
            go_wp2
            go_ret
            exact ⟨rfl, hB0.out.trans (hXH.out.mono hB0.out.size)⟩
          · have hI : ¬ 268435456 < (size : Int) := by omega
            obtain rfl := hZb.out hE
            clear hE
            go_wp2
            go_ret
            exact ⟨rfl, hB0.out.trans (hXH.out.mono hB0.out.size)⟩
end Go.Proofs.Ytdmogbkfmeihfaa
