/- SHA-256: the digest of a hasher. -/
import Derived.Test.YtcaljnlicohkaaaShaM
namespace Go.Proofs.Ytcaljnlicohkaaa
open Go.RowKit
set_option maxRecDepth 100000
set_option linter.unusedVariables false
def slLen : Value → Nat | .slice _ n _ => n | _ => 0
/-- how many zeros fill up -/
def zerosN (m : Nat) : Nat := (120 - (m + 1) % 64) % 64
def lenB (b : Nat) (i : Nat) : Int := ((b / 2 ^ (56 - 8 * i) % 256 : Nat) : Int)
/-- the last bytes of all, filled up -/
def padL (rest : List Int) (n : Nat) : List Int := ((rest ++ [128]) ++ List.replicate (zerosN rest.length) 0) ++ (List.range 8).map (lenB (n * 8 % 18446744073709551616))
def blkN (s : List W32) (L : List Int) : Nat → List W32
  | 0 => s
  | k + 1 => blk (blkN s L k) (L.drop (64 * k))
theorem blkN_length {s : List W32} (h : s.length = 8) (L : List Int) : ∀ k, (blkN s L k).length = 8
  | 0 => h
  | k + 1 => blk_length (blkN_length h L k) _
def sumL (s : List W32) (rest : List Int) (n : Nat) : List Int := layS (blkN s (padL rest n) ((padL rest n).length / 64)) 8
theorem padL_length (rest : List Int) (n : Nat) : (padL rest n).length % 64 = 0 := by
  unfold padL zerosN
  simp only [List.length_append, List.length_replicate, List.length_map, List.length_range, List.length_cons, List.length_nil]
  omega
theorem Hs.keep {w w1 : World} {g : Nat} {s : List W32} {v : Value} {rest : List Int} {n : Nat} (h : Hs w g s v rest n) (hb : Below w.heap.size w w1) : Hs w1 g s v rest n := ⟨h.1.keep hb, h.2.1.keep hb, h.2.2⟩
theorem Hs.cells {w : World} {g : Nat} {s : List W32} {v : Value} {rest : List Int} {n : Nat} (h : Hs w g s v rest n) :
    w.cell? ⟨g, 8, none⟩ = some v ∧ w.cell? ⟨g, 9, none⟩ = some (.int .u64 (n : Int)) ∧ w.cell? ⟨g, 10, none⟩ = some (.bool true) := by
  have hs : (wA s).size = 8 := by rw [wA_size, h.2.2.1]
  exact ⟨h.1.cell 8 (by unfold hsC; rw [Array.getElem?_append_right (by omega), hs]; rfl), h.1.cell 9 (by unfold hsC; rw [Array.getElem?_append_right (by omega), hs]; rfl), h.1.cell 10 (by unfold hsC; rw [Array.getElem?_append_right (by omega), hs]; rfl)⟩
set_option maxHeartbeats 2000000 in
theorem sha_HSum_any (g : Nat) (s : List W32) (v : Value) (rest : List Int) (n : Nat) (w : World) (h : Hs w g s v rest n) (hn : n < 18446744073709551616) (hl : rest.length ≤ 64) :
    Calls Try.prog 21 #[.pointer (some ⟨g, 0, none⟩)] w fun e w' => e = .returned (.agg (u8A (sumL s rest n))) ∧ Below w.heap.size w w' := by
  obtain ⟨q8, q9, q10⟩ := h.cells
  have hb1 := Box.new w (u8A zd32) 24
  have hB1 := al1 (Below.refl w.heap.size w) (.cells (u8A zd32) 24)
  have hS := hd_ (h.keep hB1)
  have r8 := cell_keep hB1 q8
  have r9 := cell_keep hB1 q9
  have r10 := cell_keep hB1 q10
  have hgl : Hid (g ≠ w.heap.size ∧ ([] : List Int).length + rest.length ≤ 140737488355328 ∧ rest.length + ([128] : List Int).length ≤ 140737488355328) := hd_ ⟨by have := h.1.lt; omega, by simp; omega, by simp; omega⟩
  clear h q8 q9 q10
  go_enter Try.func21, Try.ntmps21
  go_upto_region 1 with fail
  simp only [zd32_lit]
  generalize w.alloc (.cells (u8A zd32) 24) = W0 at *
  have hS0 := hd_ hS.out
  have HB10 := hd_ hB1
  have HR0 := hd_ hb1
  clear hS hB1 hb1
  go_upto_region 4 with (first
    | (at_builtin; (refine app_bytes (w0 := W0) W0.heap.size rfl _ _ 34 5 rfl Try.underlying34 infoB _ v [] rest rfl rfl (own_nil8 _ _ _) hS0.out.2.1.rd (Below.refl _ _) (Nat.le_refl _) hgl.out.2.1 ?_); intro v2 w2 HO2 HB2 hg2 hat2; rw [List.nil_append] at HO2)
    | (at_builtin; (refine app_box (w0 := W0) W0.heap.size rfl _ _ 34 5 rfl Try.underlying34 infoB v2 rest [128] rfl _ 1 1 rfl rfl (Nat.le_refl _) (by omega) (one_bytes (by omega) (by omega)) (fun j hj => (World.cell?_alloc_at _ _ _ j (by simp)).trans (cell_one8 _ j hj)) (HO2.keep (al1 (Below.refl _ _) _)) (HB2.alloc HB2.size _) (Nat.le_trans HB2.size (size_al _ _)) hgl.out.2.2 ?_); intro v3 w3 HO3 HB3 hg3 hat3))
  clear HO2 HB2 hg2 hat2 hg3 hat3 r8 r10
  go_loopw [3] (fun vb wr => ∃ j : Nat, j ≤ zerosN rest.length ∧ Own wr W0.heap.size 5 vb ((rest ++ [128]) ++ List.replicate j 0) ∧ Below W0.heap.size W0 wr) (fun vb _ => rest.length + 1 + zerosN rest.length - slLen vb)
  case atStart => exact ⟨0, Nat.zero_le _, by rw [List.replicate_zero, List.append_nil]; exact HO3, HB3⟩
  case round =>
    clear HO3 HB3
    obtain ⟨j, hj, HO, HB⟩ := hrel
    have hz : zerosN rest.length < 64 := by unfold zerosN; omega
    have hz2 : (rest.length + 1 + zerosN rest.length) % 64 = 56 := by unfold zerosN; omega
    have hz3 : j < zerosN rest.length → (rest.length + 1 + j) % 64 ≠ 56 := by intro h; unfold zerosN at h; omega
    obtain ⟨L, hL⟩ : ∃ L, L = (rest ++ [128]) ++ List.replicate j 0 := ⟨_, rfl⟩
    have hlen : L.length = rest.length + 1 + j := by rw [hL]; simp; omega
    rw [← hL] at HO
    have HL := hd_ hL
    clear hL
    obtain ⟨A3, c3, rfl, _⟩ := HO.rd.form
    by_cases hlt : j < zerosN rest.length
    · have hne := hz3 hlt
      have hmI : ¬ (L.length : Int) % 64 = 56 := by omega
      have hmB : ((L.length : Int) % 64 == 56) = false := by rw [beq_eq_false_iff_ne]; exact hmI
      have hlB : Hid (L.length + ([0] : List Int).length ≤ 140737488355328) := hd_ (by simp; omega)
      have hNx := hd_ (show L ++ [0] = (rest ++ [128]) ++ List.replicate (j + 1) 0 by rw [HL.out, List.replicate_succ', List.append_assoc])
      have hH := hd_ (And.intro hlen (And.intro hlt hz))
      clear hz hz2 hz3 hne hlen hlt hj
      go_wp2_with (at_builtin; (refine app_box (w0 := W0) W0.heap.size rfl _ _ 34 5 rfl Try.underlying34 infoB _ L [0] rfl _ 1 1 rfl rfl (Nat.le_refl _) (by omega) (one_bytes (by omega) (by omega)) (fun j hj => (World.cell?_alloc_at _ _ _ j (by simp)).trans (cell_one8 _ j hj)) (HO.keep (al1 (Below.refl _ _) _)) (HB.alloc HB.size _) (Nat.le_trans HB.size (size_al _ _)) hlB.out ?_); intro v5 w5 HO5 HB5 hg5 hat5)
      rw [hNx.out] at HO5
      obtain ⟨h1, h2, h3⟩ := hH.out
      have hl5 : slLen v5 = rest.length + 1 + (j + 1) := by
        obtain ⟨A5, c5, rfl, _⟩ := HO5.rd.form
        simp [slLen]; omega
      go_wp2
      go_roundw
      case rel => exact ⟨j + 1, h2, HO5, HB5⟩
      case measure => (rw [hl5]; simp only [slLen]; omega)
    · obtain rfl : j = zerosN rest.length := by omega
      have hmI : (L.length : Int) % 64 = 56 := by omega
      have hmB : ((L.length : Int) % 64 == 56) = true := by rw [beq_iff_eq]; exact hmI
      obtain ⟨b, hb⟩ : ∃ b, b = n * 8 % 18446744073709551616 := ⟨_, rfl⟩
      have hbI : IntKind.u64.wrap ((n : Int) * 8) = (b : Int) := by rw [IntKind.wrap_u64]; omega
      have hblt : b < 18446744073709551616 := by omega
      have hP : padL rest n = L ++ (List.range 8).map (lenB b) := by rw [HL.out, hb]; rfl
      have HP := hd_ hP
      have HLn := hd_ (show L.length ≤ 200 by omega)
      have hw9 := cell_keep HB r9
      clear hz hz2 hz3 hlt hj hlen hP hb r9
      go_upto_region 8 with fail
      clear hmI hmB
      go_loopw [3, 36] (fun vb vi wr => ∃ i : Nat, i ≤ 8 ∧ vi = .int .i64 i ∧ Own wr W0.heap.size 5 vb (L ++ (List.range i).map (lenB b)) ∧ Below W0.heap.size W0 wr) (fun _ vi _ => 8 - (intOf vi).toNat)
      case atStart => exact ⟨0, Nat.zero_le _, rfl, by simpa using HO, HB⟩
      case round =>
        clear HO HB hw9
        obtain ⟨i, hi, rfl, HO, HB⟩ := hrel
        by_cases hlt : i < 8
        · have hw0 : IntKind.i64.wrap (8 * (i : Int)) = ((8 * i : Nat) : Int) := by rw [IntKind.wrap_i64]; omega
          have hw1 : IntKind.i64.wrap (56 - ((8 * i : Nat) : Int)) = ((56 - 8 * i : Nat) : Int) := by rw [IntKind.wrap_i64]; omega
          have hv : (b : Int) / 2 ^ (56 - 8 * i) % 256 = lenB b i := by unfold lenB; rw [Int.natCast_emod, Int.natCast_ediv, Int.natCast_pow]; rfl
          have hlb : 0 ≤ lenB b i ∧ lenB b i < 256 := by unfold lenB; omega
          have hiI : (i : Int) < 8 := by omega
          have hi56 : Hid (8 * i ≤ 56) := hd_ (by omega)
          obtain ⟨M, hM⟩ : ∃ M, M = L ++ (List.range i).map (lenB b) := ⟨_, rfl⟩
          rw [← hM] at HO
          have hNx := hd_ (show M ++ [lenB b i] = L ++ (List.range (i + 1)).map (lenB b) by rw [hM, List.range_succ, List.map_append, List.append_assoc]; rfl)
          have hlB : Hid (M.length + ([lenB b i] : List Int).length ≤ 140737488355328) := hd_ (by rw [hM]; have := HLn.out; simp; omega)
          obtain ⟨l0, l1⟩ := hlb
          clear hM
          have hmin : min (56 - 8 * i) 64 = 56 - 8 * i := by omega
          generalize lenB b i = x at *
          generalize 56 - 8 * i = k at *
          generalize 8 * i = i8 at *
          go_wp2_with (at_builtin; (refine app_box (w0 := W0) W0.heap.size rfl _ _ 34 5 rfl Try.underlying34 infoB _ M [x] rfl _ 1 1 rfl rfl (Nat.le_refl _) (by omega) (one_bytes l0 l1) (fun j hj => (World.cell?_alloc_at _ _ _ j (by simp)).trans (cell_one8 _ j hj)) (HO.keep (al1 (Below.refl _ _) _)) (HB.alloc HB.size _) (Nat.le_trans HB.size (size_al _ _)) hlB.out ?_); intro v5 w5 HO5 HB5 hg5 hat5)
          rw [hNx.out] at HO5
          go_wp2
          exact ⟨⟨i + 1, by omega, by go_num, HO5, HB5⟩, by simp [intOf]; omega⟩
        · obtain rfl : i = 8 := by omega
          rw [← HP.out] at HO
          have hPl := padL_length rest n
          have hS8 := (hS0.out.keep HB)
          have hR8 := HR0.out.keep HB
          have hc8 : ∀ j, j < (wA s).size → wr.cell? ⟨g, 0 + j, none⟩ = (wA s)[j]? := hS8.1.part 0 (fun j hj => by rw [Nat.zero_add]; unfold hsC; rw [Array.getElem?_append_left hj])
          have hsl := hS0.out.2.2.1
          have hsz : (wA s).size = 8 := by rw [wA_size, hsl]
          have hiw : (Try.prog.info? 47).map (·.size) = some (wA s).size := by rw [hsz]; exact infoW
          have hE : Hid (sumL s rest n = layS (blkN s (padL rest n) ((padL rest n).length / 64)) 8) := hd_ rfl
          have hPL := hd_ (show (padL rest n).length ≤ 300 by rw [HP.out]; have := HLn.out; simp; omega)
          generalize padL rest n = P at *
          have HC8 := hd_ hc8
          clear hlt hi hc8 hS8
          go_wp2_with (first
            | (refine load_at rfl 47 _ rfl g 0 (wA s) _ rfl HC8.out Try.underlying47 rfl hiw ?_)
            | (refine store_box rfl 47 _ _ rfl _ _ _ (wA s) rfl rfl (Box.new _ _ _) hiw (by rw [hsz]; rfl) (wA_one _) ?_; intro w3 hbv hg3))
          have HBv := below_row (al1 (Below.refl wr.heap.size wr) _) hg3 (Nat.le_refl _) (size_al _ _)
          have hRv := hd_ (hR8.keep HBv)
          have HQ := hd_ HO.rd
          have HB0 := hd_ HB
          have HBQ := hd_ HBv
          have hne : Hid (w.heap.size ≠ wr.heap.size) := hd_ (by have := hR8.lt; omega)
          clear HBv hR8 HB HO hg3 HC8
          generalize wr = wq at *
          simp only [Act.put]
          go_loopw [3] (fun vb wr => ∃ k : Nat, k * 64 ≤ P.length ∧ Rd wq vb (P.drop (64 * k)) ∧ Box wr w.heap.size 24 (u8A zd32) ∧ Box wr wq.heap.size 47 (wA (blkN s P k)) ∧ Below wq.heap.size wq wr) (fun vb _ => slLen vb)
          case atStart => exact ⟨0, Nat.zero_le _, HQ.out, hRv.out, hbv, HBQ.out⟩
          case round =>
            clear HQ hRv hbv HBQ
            obtain ⟨k, hk, HRd, hb1, hbv, HB⟩ := hrel
            have h8 := blkN_length hsl P k
            obtain ⟨D, hD⟩ : ∃ D, D = P.drop (64 * k) := ⟨_, rfl⟩
            rw [← hD] at HRd
            have hDl : D.length = P.length - 64 * k := by rw [hD, List.length_drop]
            have hE2 := hd_ (show blkN s P (k + 1) = blk (blkN s P k) D by rw [hD]; rfl)
            have hD2 := hd_ (show D.drop 64 = P.drop (64 * (k + 1)) by rw [hD, List.drop_drop]; congr 1)
            clear hD
            obtain ⟨A5, c5, rfl, _⟩ := HRd.form
            by_cases hlt : 0 < D.length
            · have hltI : (0 : Int) < (D.length : Int) := by omega
              have hD64 : 64 ≤ D.length := by omega
              have hsz2 : (wA (blkN s P k)).size = 8 := by rw [wA_size, h8]
              have hiw2 : (Try.prog.info? 47).map (·.size) = some (wA (blkN s P k)).size := by rw [hsz2]; exact infoW
              have hiw3 : (Try.prog.info? 47).map (·.size) = some (wA (blk (blkN s P k) D)).size := by rw [wA_size, blk_length h8]; exact infoW
              have HH := hd_ (And.intro hk (And.intro hDl (And.intro hPl hD64)))
              have HRH := hd_ (HRd.keep HB)
              obtain ⟨u, hu, hRu⟩ := HRd.sl_l Try.underlying34 infoB 64 hD64
              have hu' : ∀ W, (Instr.slice 34 (.slice A5 D.length c5) (some (.int .i64 64)) none none).run Try.prog W = .ok u W := hu
              have hlu : slLen u = D.length - 64 := by
                obtain ⟨A6, c6, rfl, _⟩ := hRu.form
                simp [slLen]
              have HX := hd_ (And.intro hb1 (And.intro hRu (And.intro HB hlu)))
              clear hk hDl hPl hD64 HRd hb1 HB hu hRu hlu
              go_upto_region 14 with (first
                | (refine load_box rfl 47 _ rfl wq.heap.size 47 (wA (blkN s P k)) _ rfl hbv Try.underlying47 rfl hiw2 ?_)
                | (go_at_call 36; (with_reducible refine (sha_block_any (blkN s P k) h8 _ D _ HRH.out HH.out.2.2.2).mono ?_); rintro e w5 ⟨rfl, HB5⟩; have hbv5 := hbv.keep HB5)
                | (refine store_box rfl 47 _ _ rfl wq.heap.size 47 _ (wA (blk (blkN s P k) D)) rfl rfl hbv5 hiw3 (by rw [hsz2, wA_size, blk_length h8]) (wA_one _) ?_; intro w6 hb6 hg6))
              obtain ⟨hb1, hRu, HB, hlu⟩ := HX.out
              have HBn := hd_ (below_row (HB.trans (HB5.mono HB.size)) hg6 (Nat.le_refl _) (Nat.le_trans HB.size HB5.size))
              have hb1n := hd_ ((hb1.keep HB5).grown hg6 (fun h => hne.out (by injection h)))
              rw [← hE2.out] at hb6
              rw [hD2.out] at hRu
              have HLU := hd_ hlu
              have HRU := hd_ hRu
              clear hb1 hRu HB hlu hbv5 HB5 hbv
              go_wp2
              go_roundw
              case rel => exact ⟨k + 1, by have := HH.out; omega, HRU.out, hb1n.out, hb6, HBn.out⟩
              case measure => (rw [HLU.out]; simp only [slLen]; omega)
            · have hltI : ¬ (0 : Int) < (D.length : Int) := by omega
              have hkE : k = P.length / 64 := by omega
              rw [hkE] at hbv
              have hz8 := blkN_length hsl P (P.length / 64)
              have hiw2 : (Try.prog.info? 47).map (·.size) = some (wA (blkN s P (P.length / 64))).size := by rw [wA_size, hz8]; exact infoW
              have hi8 : (Try.prog.info? 24).map (·.size) = some (u8A (layS (blkN s P (P.length / 64)) 8)).size := by rw [u8A_size, layS_length]; kernel_rfl
              generalize blkN s P (P.length / 64) = Z at *
              have HB1 := hd_ HB
              have hb1' := hd_ hb1
              clear hk hkE HB hb1 hDl hPl HRd
              go_wp2_with (first
                | (refine load_box rfl 47 _ rfl wq.heap.size 47 (wA Z) _ rfl hbv Try.underlying47 rfl hiw2 ?_)
                | (go_at_call 37; (with_reducible refine (sha_laid_any Z hz8 _).mono ?_); rintro e w5 ⟨rfl, HB5⟩; have hb15 := hb1'.out.keep HB5)
                | (refine store_box rfl 24 _ _ rfl w.heap.size 24 _ (u8A (layS Z 8)) rfl rfl hb15 hi8 (by rw [u8A_size, u8A_size, layS_length]; rfl) (u8A_one _) ?_; intro w9 hb9 hg9))
              have HF := HB1.out.trans (HB5.mono HB1.out.size)
              have HG := bel_trans HB10.out (HB0.out.trans (HF.mono HB0.out.size))
              refine bodyPost_ret (results_cell1 rfl _ _ _ rfl (run_load_box _ _ _ _ _ hb9 Try.underlying24 rfl hi8)) rfl ⟨by rw [hE.out], below_row HG hg9 (Nat.le_refl _) HG.size⟩
end Go.Proofs.Ytcaljnlicohkaaa
