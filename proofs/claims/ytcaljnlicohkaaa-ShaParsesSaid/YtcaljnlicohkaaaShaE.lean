import Derived.Test.YtcaljnlicohkaaaShaD
namespace Go.Proofs.Ytcaljnlicohkaaa
open Go.RowKit
set_option maxRecDepth 100000
set_option linter.unusedVariables false
theorem hexL_getD : ∀ (ds : List Int) (j : Nat), j < ds.length → (hexL ds).getD (2 * j) 0 = hexN (ds.getD j 0 / 16) ∧ (hexL ds).getD (2 * j + 1) 0 = hexN (ds.getD j 0 % 16)
  | [], j, h => absurd h (by simp)
  | x :: r, 0, _ => ⟨rfl, rfl⟩
  | x :: r, j + 1, h => hexL_getD r j (by simpa using h)
theorem byL_str {l : List Int} (h : IsBytes l) : byL (strOfNums l) = l := by
  unfold byL
  rw [strOfNums_data, List.map_map]
  apply List.ext_getElem?
  intro i
  rw [List.getElem?_map]
  cases hi : l[i]? with
  | none => rfl
  | some x =>
    obtain ⟨h0, h1⟩ := h x (List.mem_of_getElem? hi)
    simp only [Option.map_some, Function.comp]
    congr 1
    rw [UInt8.toNat_ofNat']
    omega
theorem str_byL (s : ByteArray) : strOfNums (byL s) = s := by
  apply ByteArray.ext
  apply Array.toList_inj.1
  rw [strOfNums_data]
  unfold byL
  rw [List.map_map]
  have e : ((fun n : Int => UInt8.ofNat n.toNat) ∘ fun b : UInt8 => (b.toNat : Int)) = id := by
    funext b
    simp
  rw [e, List.map_id]
theorem digN_hexN {q : Int} (h0 : 0 ≤ q) (h1 : q < 16) : digN (hexN q) = q := by
  obtain ⟨n, rfl⟩ := Int.eq_ofNat_of_zero_le h0
  exact (hexN_digN (by omega) (by have := hexN_range h0 h1; omega)).1 rfl
theorem list_ext32 {a b : List Int} (ha : a.length = 32) (hb : b.length = 32) (h : ∀ j, j < 32 → a.getD j 0 = b.getD j 0) : a = b := by
  refine List.ext_getElem (by omega) fun i h1 h2 => ?_
  have := h i (by omega)
  rw [List.getD_eq_getElem?_getD, List.getD_eq_getElem?_getD, List.getElem?_eq_getElem h1, List.getElem?_eq_getElem h2] at this
  exact this
theorem par_hex {ds : List Int} (hd : ds.length = 32) (hb : IsBytes ds) : parE (hexL ds) = 0 ∧ parP (hexL ds) = 0 ∧ parD (hexL ds) = ds := by
  have hl : (hexL ds).length = 64 := by rw [hexL_length, hd]
  have hg : ∀ j, j < 64 → j < (hexL ds).length ∧ 0 ≤ digN ((hexL ds).getD j 0) := by
    intro j hj
    refine ⟨by omega, ?_⟩
    obtain ⟨p0, p1⟩ := byte_at hb (show j / 2 < ds.length by omega)
    obtain ⟨e1, e2⟩ := hexL_getD ds (j / 2) (by omega)
    by_cases h : j % 2 = 0
    · rw [show 2 * (j / 2) = j by omega] at e1
      rw [e1, digN_hexN (by omega) (by omega)]; omega
    · rw [show 2 * (j / 2) + 1 = j by omega] at e2
      rw [e2, digN_hexN (by omega) (by omega)]; omega
  have hn := badAt_none (T := hexL ds) 64 0 (fun j _ hj => hg j (by omega))
  unfold parE parP parD
  rw [hn]
  simp only [hl, Nat.lt_irrefl, if_false, true_and]
  refine list_ext32 (digD_length _ _) hd fun j hj => ?_
  obtain ⟨p0, p1⟩ := byte_at hb (show j < ds.length by omega)
  obtain ⟨e1, e2⟩ := hexL_getD ds j (by omega)
  rw [digD_getD _ 64 (by omega) j hj, if_pos (by omega), e1, e2, digN_hexN (by omega) (by omega), digN_hexN (by omega) (by omega)]
  omega
theorem badAt_end {T : List Int} : ∀ n i, badAt T i n = none → ∀ j, i ≤ j → j < i + n → j ≠ T.length ∧ 0 ≤ digN (T.getD j 0)
  | 0, i, _, j, h1, h2 => by omega
  | n + 1, i, h, j, h1, h2 => by
    rw [badAt] at h
    split at h
    · cases h
    · rename_i hc
      by_cases hj : j = i
      · subst hj
        exact ⟨fun e => hc (.inl e), by have := fun e => hc (.inr e); omega⟩
      · exact badAt_end n (i + 1) h j (by omega) (by omega)
theorem hex_par {T : List Int} (hT : IsBytes T) (h : parE T = 0) : hexL (parD T) = T ∧ (parD T).length = 32 ∧ IsBytes (parD T) := by
  unfold parE at h
  unfold parD
  cases hb : badAt T 0 64 with
  | some i => rw [hb] at h; simp at h
  | none =>
    rw [hb] at h
    have hE := badAt_end 64 0 hb
    by_cases hl : 64 < T.length
    · simp [hl] at h
    · have h64 : T.length = 64 := by
        rcases Nat.lt_or_ge T.length 64 with h1 | h1
        · exact absurd rfl (hE T.length (by omega) (by omega)).1
        · omega
      simp only [hl, if_false]
      have hlen := digD_length T 64
      refine ⟨?_, hlen, digD_range T (by omega) fun i hi => (hE i (by omega) (by omega)).2⟩
      refine List.ext_getElem (by rw [hexL_length, hlen, h64]) fun i h1 h2 => ?_
      have hg : ∀ (l : List Int) (h : i < l.length), l[i] = l.getD i 0 := fun l h => by rw [List.getD_eq_getElem?_getD, List.getElem?_eq_getElem h]; rfl
      rw [hg _ h1, hg _ h2]
      obtain ⟨e1, e2⟩ := hexL_getD (digD T 64) (i / 2) (by rw [hlen]; omega)
      rw [digD_getD T 64 (by omega) (i / 2) (by omega), if_pos (by omega)] at e1 e2
      obtain ⟨_, d1⟩ := hE (2 * (i / 2)) (by omega) (by omega)
      obtain ⟨_, d2⟩ := hE (2 * (i / 2) + 1) (by omega) (by omega)
      have d3 := digN_hi (T.getD (2 * (i / 2)) 0)
      have d4 := digN_hi (T.getD (2 * (i / 2) + 1) 0)
      have back : ∀ c : Int, 0 ≤ c → 0 ≤ digN c → hexN (digN c) = c := fun c hc hd => by
        have h1 := digN_hi c
        obtain ⟨n, hn⟩ := Int.eq_ofNat_of_zero_le hd
        rw [hn]
        exact (hexN_digN (by omega) hc).2 hn
      by_cases hp : i % 2 = 0
      · rw [show 2 * (i / 2) = i by omega] at *
        rw [e1, show (digN (T.getD i 0) * 16 + digN (T.getD (i + 1) 0)) / 16 = digN (T.getD i 0) by omega]
        exact back _ (byte_at hT h2).1 d1
      · rw [show 2 * (i / 2) + 1 = i by omega] at *
        rw [e2, show (digN (T.getD (2 * (i / 2)) 0) * 16 + digN (T.getD i 0)) % 16 = digN (T.getD i 0) by omega]
        exact back _ (byte_at hT h2).1 d2
theorem eqDig (a b : List Int) (ha : a.length = 32) (hb : b.length = 32) (W : World) : Sem.run Try.prog (Op.equalIn 10000 24 (.agg (u8A a)) (.agg (u8A b))) W = .ok (decide (a = b)) W := by
  obtain ⟨i0, hi, _⟩ := info_parts info8
  exact eqArr Try.underlying5 (by kernel_rfl) 9998 W Try.underlying24 hi a b ha hb
theorem bytes_ints {ds : List Int} (h : ∀ x ∈ ds, (Lit.int .u8 x).wf = true) : IsBytes ds := fun x hx => wf_u8 (h x hx)
set_option maxHeartbeats 1000000 in
theorem law_ShaPrints (w : World) (cs : Array Value) (hs : cs.size = 32) (x : List Int) (r : RInts .u8 32 w cs.toList x) :
    Calls Try.prog 3 #[.agg cs] w fun e w' => e = .returned (.bool true) ∧ Below w.heap.size w w' := by
  obtain ⟨hl, hc, hw⟩ := r
  have hb := bytes_ints hw
  obtain rfl : cs = u8A x := by rw [← Array.toArray_toList (xs := cs), hc]; rfl
  obtain ⟨z1, z2, z3⟩ := par_hex hl hb
  have hB := hexL_bytes hb
  have hS : byL (strOfNums (hexL x)) = hexL x := byL_str hB
  have hsz : (strOfNums (hexL x)).size ≤ 140737488351232 := by rw [strOfNums_size, hexL_length, hl]; decide
  have hPR := fun w => sha_Print_any x hl hb w
  have hPA := fun w => sha_Parse_any (strOfNums (hexL x)) hsz w
  have hRP := fun w => ref_Print_any x hl hb w
  have heq := eqDig x x hl hl
  rw [decide_eq_true rfl] at heq
  unfold ParRet at hPA
  rw [hS, z1, z2, z3] at hPA
  have hcz : (u8A x).size = 32 := by rw [u8A_size, hl]
  have hone := u8A_one x
  change ∀ w, Calls Try.prog 12 #[.agg (u8A x)] w _ at hPR
  clear hS hsz hB z1 z2 z3 hw hc hl hb hs
  generalize strOfNums (hexL x) = S at *
  generalize u8A x = cs at *
  have hbx := Box.new w cs 22
  have hB0 := al1 (Below.refl w.heap.size w) (.cells cs 22)
  have hinfo : (Try.prog.info? 22).map (·.size) = some cs.size := by rw [hcz]; exact infoD2
  have hinfo2 : (Try.prog.info? 24).map (·.size) = some cs.size := by rw [hcz]; exact infoD
  go_enter Try.func3, Try.ntmps3
  go_upto_region 1 with fail
  generalize w.alloc (.cells cs 22) = W0 at *
  go_wp2_with (refine load_box rfl 22 _ rfl w.heap.size 22 cs _ rfl hbx Try.underlying22 rfl hinfo ?_)
  refine (hPR _).mono ?_
  rintro e w1 ⟨rfl, HB1⟩
  have hb1 := hbx.keep HB1
  have hB1 := bel_trans hB0 HB1
  go_wp2_with fail
  refine (hPA _).mono ?_
  rintro e w2 ⟨rfl, HB2⟩
  have hb2 := hb1.keep HB2
  have hB2 := bel_trans hB1 HB2
  have hB2a := al1 (Below.refl w2.heap.size w2) (.cells #[.int .u8 0, .int .u8 0, .int .u8 0, .int .u8 0, .int .u8 0, .int .u8 0, .int .u8 0, .int .u8 0, .int .u8 0, .int .u8 0, .int .u8 0, .int .u8 0, .int .u8 0, .int .u8 0, .int .u8 0, .int .u8 0, .int .u8 0, .int .u8 0, .int .u8 0, .int .u8 0, .int .u8 0, .int .u8 0, .int .u8 0, .int .u8 0, .int .u8 0, .int .u8 0, .int .u8 0, .int .u8 0, .int .u8 0, .int .u8 0, .int .u8 0, .int .u8 0] 24)
  have hbn := Box.new w2 #[.int .u8 0, .int .u8 0, .int .u8 0, .int .u8 0, .int .u8 0, .int .u8 0, .int .u8 0, .int .u8 0, .int .u8 0, .int .u8 0, .int .u8 0, .int .u8 0, .int .u8 0, .int .u8 0, .int .u8 0, .int .u8 0, .int .u8 0, .int .u8 0, .int .u8 0, .int .u8 0, .int .u8 0, .int .u8 0, .int .u8 0, .int .u8 0, .int .u8 0, .int .u8 0, .int .u8 0, .int .u8 0, .int .u8 0, .int .u8 0, .int .u8 0, .int .u8 0] 24
  have hb3 := hb2.keep hB2a
  have hold : (#[.int .u8 0, .int .u8 0, .int .u8 0, .int .u8 0, .int .u8 0, .int .u8 0, .int .u8 0, .int .u8 0, .int .u8 0, .int .u8 0, .int .u8 0, .int .u8 0, .int .u8 0, .int .u8 0, .int .u8 0, .int .u8 0, .int .u8 0, .int .u8 0, .int .u8 0, .int .u8 0, .int .u8 0, .int .u8 0, .int .u8 0, .int .u8 0, .int .u8 0, .int .u8 0, .int .u8 0, .int .u8 0, .int .u8 0, .int .u8 0, .int .u8 0, .int .u8 0] : Array Value).size = cs.size := by rw [hcz]; rfl
  have hne : some w.heap.size ≠ some w2.heap.size := by
    have h1 := hb2.lt
    intro h
    injection h with h
    omega
  have HNE := hd_ hne
  clear hne
  go_upto_region 3 with (refine store_box rfl 24 _ _ rfl w2.heap.size 24 _ cs rfl rfl hbn hinfo2 hold hone ?_; intro w3 hb4 hg4)
  have hb5 := hb3.grown hg4 HNE.out
  have hB3 : Below w.heap.size w w3 := below_row (bel_trans hB2 hB2a) hg4 hB2.size (bel_trans hB2 hB2a).size
  go_wp2_with (refine load_box rfl 22 _ rfl w.heap.size 22 cs _ rfl hb5 Try.underlying22 rfl hinfo ?_)
  refine (hRP _).mono ?_
  rintro e w5 ⟨rfl, HB5⟩
  have hb6 := hb5.keep HB5
  have hb7 := hb4.keep HB5
  go_wp2_with (first
    | (refine load_boxg rfl 22 _ rfl w.heap.size 22 cs _ rfl hb6 Try.underlying22 rfl hinfo ?_)
    | (refine load_boxg rfl 24 _ rfl w2.heap.size 24 cs _ rfl hb7 Try.underlying24 rfl hinfo2 ?_))
  go_ret
  exact ⟨rfl, bel_trans hB3 HB5⟩
end Go.Proofs.Ytcaljnlicohkaaa
