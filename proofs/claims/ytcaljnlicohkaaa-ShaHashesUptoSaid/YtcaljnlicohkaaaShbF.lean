/- The document's hasher: its digest, walked. -/
import Derived.Test.YtcaljnlicohkaaaShbE
namespace Go.Proofs.Ytcaljnlicohkaaa
open Go.RowKit
set_option maxRecDepth 100000
set_option linter.unusedVariables false
set_option linter.unusedSimpArgs false
theorem Hr.keep {w w1 : World} {g : Nat} {s : List W32} {v : Value} {rest : List Int} {n : Nat} (h : Hr w g s v rest n) (hb : Below w.heap.size w w1) : Hr w1 g s v rest n := ⟨h.1.keep hb, h.2.1.keep hb, h.2.2⟩
theorem zd32L : (#[.int .u8 0, .int .u8 0, .int .u8 0, .int .u8 0, .int .u8 0, .int .u8 0, .int .u8 0, .int .u8 0, .int .u8 0, .int .u8 0, .int .u8 0, .int .u8 0, .int .u8 0, .int .u8 0, .int .u8 0, .int .u8 0, .int .u8 0, .int .u8 0, .int .u8 0, .int .u8 0, .int .u8 0, .int .u8 0, .int .u8 0, .int .u8 0, .int .u8 0, .int .u8 0, .int .u8 0, .int .u8 0, .int .u8 0, .int .u8 0, .int .u8 0, .int .u8 0] : Array Value) = u8A zd32 := rfl
theorem wrap64_id {x : Int} (h0 : -1000 ≤ x) (h1 : x ≤ 1000) : wrap64 x = x := by unfold wrap64; omega
theorem lay_facts (i : Nat) (h : i < 32) : (i : Int).tdiv 4 = ((i / 4 : Nat) : Int) ∧ (i : Int).tmod 4 = ((i % 4 : Nat) : Int) ∧ wrap64 (8 * ((i % 4 : Nat) : Int)) = ((8 * (i % 4) : Nat) : Int) ∧ wrap64 (24 - ((8 * (i % 4) : Nat) : Int)) = ((24 - 8 * (i % 4) : Nat) : Int) ∧ ((i / 4 : Nat) : Int) < 8 ∧ min (24 - 8 * (i % 4)) 32 = 24 - 8 * (i % 4) ∧ (i : Int) / 4 = ((i / 4 : Nat) : Int) ∧ (i : Int) % 4 = ((i % 4 : Nat) : Int) := by
  refine ⟨by rw [Int.tdiv_eq_ediv_of_nonneg (Int.natCast_nonneg i)]; omega, by rw [Int.tmod_eq_emod_of_nonneg (Int.natCast_nonneg i)]; omega, ?_, ?_, by omega, by omega, by omega, by omega⟩
  · rw [wrap64_id (by omega) (by omega)]; omega
  · rw [wrap64_id (by omega) (by omega)]; omega
theorem blkN_slice (s : List W32) (P : List Int) (k : Nat) : blk (blkN s P k) ((P.take (64 * k + 64)).drop (64 * k)) = blkN s P (k + 1) := by
  rw [List.drop_take, Nat.add_sub_cancel_left, blk_take, blkN]
theorem setL_whole {s s2 : List W32} (h : s.length = 8) (h2 : s2.length = 8) : setL (wA s) 0 (wA s2).toList = wA s2 := by
  obtain ⟨a, b, c, d, e, f, g, i, rfl⟩ := eight h
  obtain ⟨a2, b2, c2, d2, e2, f2, g2, i2, rfl⟩ := eight h2
  simp [wA, setL]
theorem w8_64 (i : Nat) (h : i < 8) : wrap64 (8 * ((7 - i : Nat) : Int)) = ((56 - 8 * i : Nat) : Int) := by
  rw [wrap64_id (by omega) (by omega)]; omega
theorem w7_64 (i : Nat) (h : i < 8) : wrap64 (((7 - i : Nat) : Int) - 1) = 7 - ((i + 1 : Nat) : Int) := by
  rw [wrap64_id (by omega) (by omega)]; omega
theorem len_u64 (n : Nat) : IntKind.u64.wrap (IntKind.i64.wrap (n : Int)) = ((n % 18446744073709551616 : Nat) : Int) := by
  rw [IntKind.wrap_u64, IntKind.wrap_i64, Int.natCast_emod]
  generalize (n : Int) = x
  rw [Int.sub_emod, Int.emod_emod_of_dvd _ (Int.dvd_refl _), ← Int.sub_emod, Int.add_sub_cancel]
  rfl
theorem bits_len (n : Nat) : IntKind.u64.wrap (IntKind.u64.wrap (IntKind.i64.wrap (n : Int)) * 8) = ((n * 8 % 18446744073709551616 : Nat) : Int) := by
  rw [len_u64, IntKind.wrap_u64]
  have h := congrArg (fun x : Nat => (x : Int)) (Nat.mod_mul_mod n 8 18446744073709551616)
  exact h
set_option maxHeartbeats 2000000 in
theorem ref_HSum_any (g : Nat) (s : List W32) (v : Value) (rest : List Int) (n : Nat) (w : World) (h : Hr w g s v rest n) (hl : rest.length < 64) :
    Calls Try.prog 28 #[.pointer (some ⟨g, 0, none⟩)] w fun e w' => e = .returned (.agg (u8A (sumL s rest n))) ∧ Below w.heap.size w w' := by
  have hb1 := Box.new w (u8A zd32) 22
  have hB1 := al1 (Below.refl w.heap.size w) (.cells (u8A zd32) 22)
  have hS := hd_ (h.keep hB1)
  have r9 := (h.keep hB1).1.cell 9 (hr9 h.2.2.1)
  have r8 := (h.keep hB1).1.cell 8 (hr8 h.2.2.1)
  have hlH := hd_ hl
  clear h hl
  go_enter Try.func28, Try.ntmps28
  go_upto_region 1 with fail
  simp only [zd32_lit]
  generalize w.alloc (.cells (u8A zd32) 22) = W0 at *
  have hS0 := hd_ hS.out
  have HB10 := hd_ hB1
  have HR0 := hd_ hb1
  have hlc := hd_ (show rest.length + ([128] : List Int).length ≤ 140737488355328 by have := hlH.out; simp only [List.length_cons, List.length_nil]; omega)
  have hRv := hd_ hS0.out.2.1.rd
  clear hS hB1 hb1
  go_upto_region 2 with (first
    | (go_at_call 41; (with_reducible refine (Copy_any v rest _ hRv.out).mono ?_); rintro e w2 ⟨v2, rfl, HF2, HB2⟩)
    | (at_builtin; (refine app_bytesF (w0 := W0) W0.heap.size rfl _ _ 34 5 rfl Try.underlying34 infoB v2 (.slice (some ⟨w2.heap.size, 0, none⟩) 1 1) rest [128] rfl rfl (HF2.keep (al1 (Below.refl _ _) _)) (rd_new (w := w2) [128] rfl rfl (one_bytes (by omega) (by omega)) (show 1 ≤ maxLen by decide)) (al1 HB2 _) (Nat.le_trans HB2.size (size_al _ _)) hlc.out ?_); intro v3 w3 HF3 HB3 HC3))
  clear HF2 HB2 HC3 r9
  have r8H := hd_ r8
  clear r8
  go_loopw [3] (fun vb wr => ∃ j : Nat, j ≤ zerosN rest.length ∧ OwnF wr W0.heap.size vb ((rest ++ [128]) ++ List.replicate j 0) ∧ Below W0.heap.size W0 wr) (fun vb _ => rest.length + 1 + zerosN rest.length - slLen vb)
  case atStart => exact ⟨0, Nat.zero_le _, by rw [List.replicate_zero, List.append_nil]; exact HF3, HB3⟩
  case round =>
    clear HF3 HB3
    obtain ⟨j, hj, HO, HB⟩ := hrel
    have hz : zerosN rest.length < 64 := by unfold zerosN; omega
    have hz2 : (rest.length + 1 + zerosN rest.length) % 64 = 56 := by unfold zerosN; omega
    have hz3 : j < zerosN rest.length → (rest.length + 1 + j) % 64 ≠ 56 := by intro h; unfold zerosN at h; omega
    obtain ⟨L, hL⟩ : ∃ L, L = (rest ++ [128]) ++ List.replicate j 0 := ⟨_, rfl⟩
    have hlen : L.length = rest.length + 1 + j := by rw [hL]; simp; omega
    rw [← hL] at HO
    have HL := hd_ hL
    clear hL
    obtain ⟨A3, c3, rfl, _⟩ := HO.rd.form
    have hrl := hlH.out
    by_cases hlt : j < zerosN rest.length
    · have hne := hz3 hlt
      have hmI : ¬ (L.length : Int) % 64 = 56 := by omega
      have hmB : ((L.length : Int) % 64 == 56) = false := by rw [beq_eq_false_iff_ne]; exact hmI
      have hmT : ((L.length : Int).tmod 64 == 56) = false := by rw [Int.tmod_eq_emod_of_nonneg (Int.natCast_nonneg _)]; exact hmB
      have hlB : Hid (L.length + ([0] : List Int).length ≤ 140737488355328) := hd_ (by simp; omega)
      have hNx := hd_ (show L ++ [0] = (rest ++ [128]) ++ List.replicate (j + 1) 0 by rw [HL.out, List.replicate_succ', List.append_assoc])
      have hH := hd_ (And.intro hlen (And.intro hlt hz))
      clear hz hz2 hz3 hne hlen hlt hj hrl
      go_wp2_with (at_builtin; (refine app_bytesF (w0 := W0) W0.heap.size rfl _ _ 34 5 rfl Try.underlying34 infoB _ (.slice (some ⟨wr.heap.size, 0, none⟩) 1 1) L [0] rfl rfl (HO.keep (al1 (Below.refl _ _) _)) (rd_new (w := wr) [0] rfl rfl (one_bytes (by omega) (by omega)) (show 1 ≤ maxLen by decide)) (al1 HB _) (Nat.le_trans HB.size (size_al _ _)) hlB.out ?_); intro v5 w5 HO5 HB5 hC5)
      rw [hNx.out] at HO5
      obtain ⟨h1, h2, h3⟩ := hH.out
      have hl5 : slLen v5 = rest.length + 1 + (j + 1) := by
        obtain ⟨A5, c5, rfl, _⟩ := HO5.rd.form
        simp [slLen]; omega
      go_wp2
      go_roundw
      case rel => exact ⟨j + 1, h2, HO5, HB5⟩
      case measure => (rw [hl5]; simp only [slLen]; omega)
    · obtain rfl : j = zerosN rest.length := by omega
      have hmI : (L.length : Int) % 64 = 56 := by omega
      have hmB : ((L.length : Int).tmod 64 == 56) = true := by rw [Int.tmod_eq_emod_of_nonneg (Int.natCast_nonneg _), beq_iff_eq]; exact hmI
      obtain ⟨b, hb⟩ : ∃ b, b = n * 8 % 18446744073709551616 := ⟨_, rfl⟩
      have hbI : IntKind.u64.wrap (IntKind.u64.wrap (IntKind.i64.wrap (n : Int)) * 8) = (b : Int) := by rw [hb]; exact bits_len n
      have hblt : b < 18446744073709551616 := by omega
      have hP : padL rest n = L ++ (List.range 8).map (lenB b) := by rw [HL.out, hb]; rfl
      have HP := hd_ hP
      have HLn := hd_ (show L.length ≤ 200 by omega)
      have hw8 := cell_keep HB r8H.out
      generalize hz : IntKind.i64.wrap (n : Int) = z at *
      clear hz2 hz3 hlt hj hlen hP hb hrl
      go_wp2
      go_loopw [3, 5] (fun vb vi wr => ∃ i : Nat, i ≤ 8 ∧ vi = .int .i64 (7 - (i : Int)) ∧ OwnF wr W0.heap.size vb (L ++ (List.range i).map (lenB b)) ∧ Below W0.heap.size W0 wr) (fun _ vi _ => (intOf vi + 1).toNat)
      case atStart => exact ⟨0, Nat.zero_le _, rfl, by simpa using HO, HB⟩
      case round =>
        clear HO HB hw8 hmI hmB hbI
        obtain ⟨i, hi, rfl, HO, HB⟩ := hrel
        by_cases hlt : i < 8
        · have hvi : (7 : Int) - (i : Int) = ((7 - i : Nat) : Int) := by omega
          rw [hvi]
          have hge : (0 : Int) ≤ ((7 - i : Nat) : Int) := Int.natCast_nonneg _
          have hw1 := w8_64 i hlt
          have hws := w7_64 i hlt
          have hv : (b : Int) / 2 ^ (56 - 8 * i) % 256 = lenB b i := by unfold lenB; rw [Int.natCast_emod, Int.natCast_ediv, Int.natCast_pow]; rfl
          have hlb : 0 ≤ lenB b i ∧ lenB b i < 256 := by unfold lenB; omega
          obtain ⟨M, hM⟩ : ∃ M, M = L ++ (List.range i).map (lenB b) := ⟨_, rfl⟩
          rw [← hM] at HO
          have hNx := hd_ (show M ++ [lenB b i] = L ++ (List.range (i + 1)).map (lenB b) by rw [hM, List.range_succ, List.map_append, List.append_assoc]; rfl)
          have hlB : Hid (M.length + ([lenB b i] : List Int).length ≤ 140737488355328) := hd_ (by rw [hM]; have := HLn.out; simp; omega)
          obtain ⟨l0, l1⟩ := hlb
          clear hM hvi
          have hmin : min (56 - 8 * i) 64 = 56 - 8 * i := by omega
          have hmeas := hd_ (show (7 - ((i + 1 : Nat) : Int) + 1).toNat < (((7 - i : Nat) : Int) + 1).toNat by omega)
          generalize lenB b i = x at *
          generalize 56 - 8 * i = k at *
          generalize 7 - i = i7 at *
          obtain ⟨i6, hi6'⟩ : ∃ i6, i6 = (7 : Int) - ((i + 1 : Nat) : Int) := ⟨_, rfl⟩
          rw [← hi6'] at hws hmeas
          have hi6 := hd_ hi6'
          clear hi6'
          go_wp2_with (at_builtin; (refine app_bytesF (w0 := W0) W0.heap.size rfl _ _ 34 5 rfl Try.underlying34 infoB _ (.slice (some ⟨wr.heap.size, 0, none⟩) 1 1) M [x] rfl rfl (HO.keep (al1 (Below.refl _ _) _)) (rd_new (w := wr) [x] rfl rfl (one_bytes l0 l1) (show 1 ≤ maxLen by decide)) (al1 HB _) (Nat.le_trans HB.size (size_al _ _)) hlB.out ?_); intro v5 w5 HO5 HB5 hC5)
          rw [hNx.out] at HO5
          go_wp2
          rw [hws]
          exact ⟨⟨i + 1, hlt, hi6.out ▸ rfl, HO5, HB5⟩, hmeas.out⟩
        · obtain rfl : i = 8 := by omega
          have hvi : (7 : Int) - ((8 : Nat) : Int) = -1 := rfl
          rw [hvi]
          rw [← HP.out] at HO
          obtain ⟨AP, cP, rfl, _⟩ := HO.rd.form
          have hPl := padL_length rest n
          have hS8 := hS0.out.keep HB
          have hR8 := HR0.out.keep HB
          have hc8 : ∀ j, j < (wA s).size → wr.cell? ⟨g, 0 + j, none⟩ = (wA s)[j]? := hS8.1.part 0 (fun j hj => by rw [Nat.zero_add]; unfold hrC; rw [Array.getElem?_append_left hj])
          have hsl := hS8.2.2.1
          have hsz : (wA s).size = 8 := by rw [wA_size, hsl]
          have hiw : (Try.prog.info? 46).map (·.size) = some (wA s).size := by rw [hsz]; exact infoW8
          have hE : Hid (sumL s rest n = layS (blkN s (padL rest n) ((padL rest n).length / 64)) 8) := hd_ rfl
          have hPL := hd_ (show (padL rest n).length ≤ 300 by rw [HP.out]; have := HLn.out; simp; omega)
          generalize padL rest n = P at *
          have HC8 := hd_ hc8
          have hPm := hd_ hPl
          clear hlt hi hc8 hS8 hPl
          go_upto_region 11 with (first
            | (refine load_at rfl 46 _ rfl g 0 (wA s) _ rfl HC8.out Try.underlying46 rfl hiw ?_)
            | (refine store_box rfl 46 _ _ rfl _ _ _ (wA s) rfl rfl (Box.new _ _ _) hiw (by rw [hsz]; rfl) (wA_one _) ?_; intro w3 hbv hg3))
          have HBv := below_row (al1 (Below.refl wr.heap.size wr) _) hg3 (Nat.le_refl _) (size_al _ _)
          have hRv := hd_ (hR8.keep HBv)
          have HQ := hd_ HO.rd
          have HB0 := hd_ HB
          have HBQ := hd_ HBv
          have hne : Hid (w.heap.size ≠ wr.heap.size) := hd_ (by have := hR8.lt; omega)
          clear HBv hR8 HB HO hg3 HC8
          generalize wr = wq at *
          go_loopw [7] (fun vi wr => ∃ k : Nat, 64 * k ≤ P.length ∧ vi = .int .i64 ((64 * k : Nat) : Int) ∧ Box wr w.heap.size 22 (u8A zd32) ∧ Box wr wq.heap.size 46 (wA (blkN s P k)) ∧ Below wq.heap.size wq wr) (fun vi _ => P.length - (intOf vi).toNat)
          case atStart => exact ⟨0, Nat.zero_le _, rfl, hRv.out, hbv, HBQ.out⟩
          case round =>
            clear hRv hbv HBQ
            obtain ⟨k, hk, rfl, hb1, hbv, HB⟩ := hrel
            have h8 := blkN_length hsl P k
            have hPmm := hPm.out
            have hPLL := hPL.out
            by_cases hlt : 64 * k < P.length
            · have hltI : ((64 * k : Nat) : Int) < (P.length : Int) := by omega
              have hk2 : 64 * k + 64 ≤ P.length := by omega
              have hw := hd_ (wrap64_id (x := ((64 * k : Nat) : Int) + 64) (by omega) (by omega))
              obtain ⟨u, hu0, hRu⟩ := HQ.out.sl Try.underlying34 infoB (64 * k) (64 * k + 64) (by omega) hk2
              have hu : ∀ W, (Instr.slice 34 (.slice AP P.length cP) (some (.int .i64 ((64 * k : Nat) : Int))) (some (.int .i64 (((64 * k : Nat) : Int) + 64))) none).run Try.prog W = .ok u W := fun W => by
                have := hu0 W
                rw [show ((64 * k + 64 : Nat) : Int) = ((64 * k : Nat) : Int) + 64 by omega] at this
                exact this
              have hbk : blk (blkN s P k) ((P.take (64 * k + 64)).drop (64 * k)) = blkN s P (k + 1) := blkN_slice s P k
              have hul : ((P.take (64 * k + 64)).drop (64 * k)).length = 64 := by rw [List.length_drop, List.length_take]; omega
              generalize (P.take (64 * k + 64)).drop (64 * k) = D at *
              have hbkH := hd_ (And.intro hbk (And.intro hul hk2))
              have hRuH := hd_ hRu
              have hsz2 : (wA (blkN s P k)).size = 8 := by rw [wA_size, h8]
              have hHB := hd_ (And.intro hb1 HB)
              have hw' := hw.out
              have hk64 : Hid (((64 * k : Nat) : Int) + 64 = ((64 * (k + 1) : Nat) : Int)) := hd_ (by omega)
              have hms := hd_ (show P.length - 64 * (k + 1) < P.length - 64 * k by omega)
              clear hu0 hRu hk hk2 hbk hul hb1 HB hPmm hPLL hlt
              obtain ⟨m, hm⟩ : ∃ m, m = 64 * k := ⟨_, rfl⟩
              rw [← hm] at hltI hw' hu hk64 hms ⊢
              have hw2 : IntKind.i64.wrap ((m : Int) + 64) = (m : Int) + 64 := by rw [wrap_i64_64]; exact hw'
              have hmH := hd_ hm
              clear hm hw
              go_upto_region 13 with fail
              refine wp_region_any (by kernel_rfl) ?_
              change wpAny _ _ _ _ _ _ _ (World.drew _)
              refine one_take 1 _ _ (v := ?_) rfl (by kernel_rfl) (by kernel_rfl) (by kernel_rfl) (fun _ _ _ h => h) rfl ?_ ?_
              rotate_left
              · intro W; go_simp; try with_reducible rfl
              simp only [Act.put, List.setIfInBounds_toArray, List.set_cons_zero, List.set_cons_succ]
              refine one_take 2 _ _ (v := ?_) rfl (by kernel_rfl) (by kernel_rfl) (by kernel_rfl) (fun _ _ _ h => h) rfl ?_ ?_
              rotate_left
              · intro W; go_simp; try with_reducible rfl
              simp only [Act.put, List.setIfInBounds_toArray, List.set_cons_zero, List.set_cons_succ]
              refine one_take 3 _ _ (v := ?_) rfl (by kernel_rfl) (by kernel_rfl) (by kernel_rfl) (fun _ _ _ h => h) rfl ?_ ?_
              rotate_left
              · intro W; go_simp; try with_reducible rfl
              simp only [Act.put, List.setIfInBounds_toArray, List.set_cons_zero, List.set_cons_succ]
              refine one_take 4 _ _ (v := ?_) rfl (by kernel_rfl) (by kernel_rfl) (by kernel_rfl) (fun _ _ _ h => h) rfl ?_ ?_
              rotate_left
              · intro W; go_simp; try with_reducible rfl
              simp only [Act.put, List.setIfInBounds_toArray, List.set_cons_zero, List.set_cons_succ]
              refine one_take 5 _ _ (v := ?_) rfl (by kernel_rfl) (by kernel_rfl) (by kernel_rfl) (fun _ _ _ h => h) rfl ?_ ?_
              rotate_left
              · intro W; simp [execOp, Act.eval, Instr.sliceAt, hu, Result.andThen]; try with_reducible rfl
              simp only [Act.put, List.setIfInBounds_toArray, List.set_cons_zero, List.set_cons_succ]
              refine one_ready 0 _ _ rfl (by kernel_rfl) rfl (fun K hK => ?_)
              have hbd := hbv.keep (Below.refl wr.heap.size wr).drew
              refine wp_load_mid _ _ rfl wq.heap.size 0 rfl (wA (blkN s P k)).toList _ ?_ Try.underlying46 rfl (by rw [Array.length_toList, hsz2]; exact infoW8) ?_
              · intro j u hj
                rw [Array.getElem?_toList] at hj
                rw [Nat.zero_add]
                exact hbd.cell j hj
              simp only [Act.put, List.setIfInBounds_toArray, List.set_cons_zero, List.set_cons_succ, Array.toArray_toList]
              refine hK _ _ ?_
              clear hK K
              refine one_ready 6 _ _ rfl (by kernel_rfl) rfl (fun K hK => ?_)
              go_simp
              with_reducible refine (ref_block_any (blkN s P k) h8 _ D _ ((hRuH.out.keep hHB.out.2).keep (Below.refl wr.heap.size wr).drew) (by rw [hbkH.out.2.1]; exact Nat.le_refl _)).mono ?_
              rintro e w6 ⟨rfl, HB6⟩
              refine hK _ _ ?_
              clear hK K
              rw [hbkH.out.1]
              have hbe := bel_trans (Below.refl wr.heap.size wr).drew HB6
              have hb6 := hbv.keep hbe
              have h8n := blkN_length hsl P (k + 1)
              have hsz3 : (wA (blkN s P (k + 1))).size = 8 := by rw [wA_size, h8n]
              refine one_ready 7 _ _ rfl (by kernel_rfl) rfl (fun K hK => ?_)
              refine wp_store_mid _ _ _ rfl wq.heap.size 0 (wA (blkN s P (k + 1))) rfl rfl (hb6.there 0 _ (by rw [hsz2, hsz3]; decide)) (by rw [hsz3]; exact infoW8) (wA_one _) ?_
              refine hK _ _ ?_
              clear hK K
              obtain ⟨p7, hC7⟩ := hb6.puts (wA (blkN s P (k + 1))).toList 0
              rw [setL_whole h8 h8n] at p7
              have hB7 := hd_ (Chg.then (bel_trans hHB.out.2 hbe) hC7 (fun b hb => by subst hb; exact Nat.le_refl _) (Nat.le_trans hHB.out.2.size hbe.size))
              have hb17 := hd_ ((hHB.out.1.keep hbe).chg hC7 (fun e => hne.out e))
              generalize w6.setCells wq.heap.size 0 (wA (blkN s P (k + 1))).toList = w7 at *
              refine wpAny_done (by kernel_rfl) ?_ _
              go_wp2
              refine ⟨⟨k + 1, by have := hbkH.out.2.2; omega, by first | rw [hw', hk64.out] | rw [hk64.out], hb17.out, p7, hB7.out⟩, ?_⟩
              first
                | rw [hw', hk64.out]
                | rw [hk64.out]
              show P.length - ((64 * (k + 1) : Nat) : Int).toNat < P.length - ((m : Nat) : Int).toNat
              rw [Int.toNat_natCast, Int.toNat_natCast]
              exact hms.out
            · have hkE : k = P.length / 64 := by omega
              have hltI : ¬ ((64 * k : Nat) : Int) < (P.length : Int) := by omega
              obtain ⟨m, hm⟩ : ∃ m, m = 64 * k := ⟨_, rfl⟩
              rw [← hm] at hltI ⊢
              clear hm
              rw [hkE] at hbv
              have hz8 := blkN_length hsl P (P.length / 64)
              generalize blkN s P (P.length / 64) = Z at *
              have HBr := hd_ HB
              have hb1' := hd_ hb1
              clear hk hkE HB hb1 hPmm hPLL hlt
              go_upto_region 16 with fail
              simp only [zd32_lit]
              have hb8 := Box.new wr (u8A zd32) 22
              have hgg : Hid (w.heap.size ≠ wr.heap.size ∧ wq.heap.size ≠ wr.heap.size ∧ wq.heap.size ≤ wr.heap.size) := hd_ ⟨by have := hb1'.out.lt; omega, by have := hbv.lt; omega, HBr.out.size⟩
              have hbv8 := hbv.keep (al1 (Below.refl wr.heap.size wr) (.cells (u8A zd32) 22))
              have hb18 := hb1'.out.keep (al1 (Below.refl wr.heap.size wr) (.cells (u8A zd32) 22))
              have HB8 := al1 HBr.out (.cells (u8A zd32) 22)
              have hz0 : u8A zd32 = u8A (layI Z 0) := rfl
              generalize wr.alloc (.cells (u8A zd32) 22) = W8 at *
              generalize wr.heap.size = g8 at *
              rw [hz0] at hb8
              clear hbv hz0
              have hrs := hd_ (And.intro hb8 (And.intro hbv8 (And.intro hb18 HB8)))
              clear hb8 hbv8 hb18 HB8
              go_loopw [9] (fun vi wr => ∃ i : Nat, i ≤ 32 ∧ vi = .int .i64 (i : Int) ∧ Box wr g8 22 (u8A (layI Z i)) ∧ Box wr wq.heap.size 46 (wA Z) ∧ Box wr w.heap.size 22 (u8A zd32) ∧ Below wq.heap.size wq wr) (fun vi _ => 32 - (intOf vi).toNat)
              case atStart => exact ⟨0, Nat.zero_le _, rfl, hrs.out.1, hrs.out.2.1, hrs.out.2.2.1, hrs.out.2.2.2⟩
              case round =>
                clear hrs
                obtain ⟨i, hi, rfl, hb8, hbv, hb1, HB⟩ := hrel
                by_cases hlt : i < 32
                · obtain ⟨f1, f2, f3, f4, f5, f6, f7, f8⟩ := lay_facts i hlt
                  have hiI : (i : Int) < 32 := by omega
                  have cw := wA_load hbv (i / 4) (by omega)
                  have c8 := hb8.cell i (u8A_cell (layI Z i) i (by rw [layI_length]; exact hlt))
                  have fz := hb8.frozen i
                  have hst := hd_ (show layI Z (i + 1) = (layI Z i).set i (I (Z.getD (i / 4) 0#32) / 2 ^ (24 - 8 * (i % 4)) % 256) from rfl)
                  have hall := hd_ (And.intro hb8 (And.intro hbv (And.intro hb1 HB)))
                  clear hb8 hbv hb1 HB
                  generalize Z.getD (i / 4) 0#32 = x at *
                  generalize i / 4 = q at *
                  generalize i % 4 = r at *
                  go_wp2
                  obtain ⟨hb8, hbv, hb1, HB⟩ := hall.out
                  obtain ⟨p8, gg8⟩ := hb8.put i (.int .u8 (I x / 2 ^ (24 - 8 * r) % 256))
                  rw [u8A_set, ← hst.out] at p8
                  exact ⟨⟨i + 1, hlt, by go_num, p8, hbv.grown gg8 (fun e => hgg.out.2.1 (by injection e)), hb1.grown gg8 (fun e => hgg.out.1 (by injection e)), below_row HB gg8 hgg.out.2.2 HB.size⟩, by simp [intOf]; omega⟩
                · obtain rfl : i = 32 := by omega
                  rw [layI_layS hz8] at hb8
                  have hi8 : (Try.prog.info? 22).map (·.size) = some (u8A (layS Z 8)).size := by rw [u8A_size, layS_length]; kernel_rfl
                  have HBe := hd_ HB
                  clear HB hbv hlt hi
                  go_wp2_with (first
                    | (refine load_box rfl 22 _ rfl g8 22 (u8A (layS Z 8)) _ rfl hb8 Try.underlying22 rfl hi8 ?_)
                    | (refine store_box rfl 22 _ _ rfl w.heap.size 22 _ (u8A (layS Z 8)) rfl rfl hb1 hi8 (by rw [u8A_size, u8A_size, layS_length]; rfl) (u8A_one _) ?_; intro w9 hb9 hg9))
                  have HG := bel_trans HB10.out (HB0.out.trans (HBe.out.mono HB0.out.size))
                  refine bodyPost_ret (results_cell1 rfl _ _ _ rfl (run_load_box _ _ _ _ _ hb9 Try.underlying22 rfl hi8)) rfl ⟨by rw [hE.out], below_row HG hg9 (Nat.le_refl _) HG.size⟩
end Go.Proofs.Ytcaljnlicohkaaa
