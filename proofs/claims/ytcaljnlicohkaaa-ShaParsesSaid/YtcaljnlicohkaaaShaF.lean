import Derived.Test.YtcaljnlicohkaaaShaE
namespace Go.Proofs.Ytcaljnlicohkaaa
open Go.RowKit
set_option maxRecDepth 100000
set_option linter.unusedVariables false
theorem parD_length (T : List Int) : (parD T).length = 32 := by
  unfold parD
  split
  · rfl
  · split
    · rfl
    · exact digD_length T 64
set_option maxHeartbeats 2000000 in
theorem law_ShaParses (w : World) (v : Value) (x : ByteArray) (r : RStr w [v] x) :
    Calls Try.prog 4 #[v] w fun e w' => e = .returned (.bool true) ∧ Below w.heap.size w w' := by
  obtain ⟨hv, hs⟩ := r
  injection hv with hv
  subst hv
  have hPA := fun w => sha_Parse_any x hs w
  have hRA := fun w => ref_Parse_any x hs w
  have hBa := fun w => sha_Parse_any ⟨#[66, 97]⟩ (by decide) w
  have b1 : parE (byL ⟨#[66, 97]⟩) = 50 := by decide
  have b2 : parP (byL ⟨#[66, 97]⟩) = 0 := by decide
  have hDl := parD_length (byL x)
  have heq := eqDig (parD (byL x)) (parD (byL x)) hDl hDl
  rw [decide_eq_true rfl] at heq
  have hPr : parE (byL x) = 0 → ∀ w, Calls Try.prog 12 #[.agg (u8A (parD (byL x)))] w fun e w' => e = .returned (.string x) ∧ Below w.heap.size w w' := by
    intro h0 w
    obtain ⟨h1, h2, h3⟩ := hex_par (byL_bytes x) h0
    have := sha_Print_any (parD (byL x)) h2 h3 w
    rw [h1, str_byL] at this
    exact this
  have hcz : (u8A (parD (byL x))).size = 32 := by rw [u8A_size, hDl]
  have hone := u8A_one (parD (byL x))
  unfold ParRet at hPA hRA hBa
  rw [b1, b2] at hBa
  clear b1 b2 hDl
  generalize u8A (parD (byL x)) = cs at *
  generalize u8A (parD (byL ⟨#[66, 97]⟩)) = cb at *
  generalize parE (byL x) = E at *
  generalize parP (byL x) = N at *
  have HPR := hd_ hPr
  clear hPr
  have hold : (#[.int .u8 0, .int .u8 0, .int .u8 0, .int .u8 0, .int .u8 0, .int .u8 0, .int .u8 0, .int .u8 0, .int .u8 0, .int .u8 0, .int .u8 0, .int .u8 0, .int .u8 0, .int .u8 0, .int .u8 0, .int .u8 0, .int .u8 0, .int .u8 0, .int .u8 0, .int .u8 0, .int .u8 0, .int .u8 0, .int .u8 0, .int .u8 0, .int .u8 0, .int .u8 0, .int .u8 0, .int .u8 0, .int .u8 0, .int .u8 0, .int .u8 0, .int .u8 0] : Array Value).size = cs.size := by rw [hcz]; rfl
  have hinfo : (Try.prog.info? 22).map (·.size) = some cs.size := by rw [hcz]; exact infoD2
  have hinfo2 : (Try.prog.info? 24).map (·.size) = some cs.size := by rw [hcz]; exact infoD
  go_enter Try.func4, Try.ntmps4
  go_wp2_with fail
  refine (hPA _).mono ?_
  rintro e w1 ⟨rfl, HB1⟩
  have hB1a := al1 (Below.refl w1.heap.size w1) (.cells #[.int .u8 0, .int .u8 0, .int .u8 0, .int .u8 0, .int .u8 0, .int .u8 0, .int .u8 0, .int .u8 0, .int .u8 0, .int .u8 0, .int .u8 0, .int .u8 0, .int .u8 0, .int .u8 0, .int .u8 0, .int .u8 0, .int .u8 0, .int .u8 0, .int .u8 0, .int .u8 0, .int .u8 0, .int .u8 0, .int .u8 0, .int .u8 0, .int .u8 0, .int .u8 0, .int .u8 0, .int .u8 0, .int .u8 0, .int .u8 0, .int .u8 0, .int .u8 0] 24)
  have hbn := Box.new w1 #[.int .u8 0, .int .u8 0, .int .u8 0, .int .u8 0, .int .u8 0, .int .u8 0, .int .u8 0, .int .u8 0, .int .u8 0, .int .u8 0, .int .u8 0, .int .u8 0, .int .u8 0, .int .u8 0, .int .u8 0, .int .u8 0, .int .u8 0, .int .u8 0, .int .u8 0, .int .u8 0, .int .u8 0, .int .u8 0, .int .u8 0, .int .u8 0, .int .u8 0, .int .u8 0, .int .u8 0, .int .u8 0, .int .u8 0, .int .u8 0, .int .u8 0, .int .u8 0] 24
  go_upto_region 2 with (refine store_box rfl 24 _ _ rfl w1.heap.size 24 _ cs rfl rfl hbn hinfo2 hold hone ?_; intro w2 hb2 hg2)
  have hB2 : Below w.heap.size w w2 := below_row (bel_trans HB1 hB1a) hg2 HB1.size (bel_trans HB1 hB1a).size
  clear hbn
  go_wp2_with fail
  refine (hRA _).mono ?_
  rintro e w3 ⟨rfl, HB3⟩
  have hb3 := hb2.keep HB3
  have hB3 := bel_trans hB2 HB3
  have hB3a := al1 (Below.refl w3.heap.size w3) (.cells #[.int .u8 0, .int .u8 0, .int .u8 0, .int .u8 0, .int .u8 0, .int .u8 0, .int .u8 0, .int .u8 0, .int .u8 0, .int .u8 0, .int .u8 0, .int .u8 0, .int .u8 0, .int .u8 0, .int .u8 0, .int .u8 0, .int .u8 0, .int .u8 0, .int .u8 0, .int .u8 0, .int .u8 0, .int .u8 0, .int .u8 0, .int .u8 0, .int .u8 0, .int .u8 0, .int .u8 0, .int .u8 0, .int .u8 0, .int .u8 0, .int .u8 0, .int .u8 0] 22)
  have hbm := Box.new w3 #[.int .u8 0, .int .u8 0, .int .u8 0, .int .u8 0, .int .u8 0, .int .u8 0, .int .u8 0, .int .u8 0, .int .u8 0, .int .u8 0, .int .u8 0, .int .u8 0, .int .u8 0, .int .u8 0, .int .u8 0, .int .u8 0, .int .u8 0, .int .u8 0, .int .u8 0, .int .u8 0, .int .u8 0, .int .u8 0, .int .u8 0, .int .u8 0, .int .u8 0, .int .u8 0, .int .u8 0, .int .u8 0, .int .u8 0, .int .u8 0, .int .u8 0, .int .u8 0] 22
  have hb4 := hb3.keep hB3a
  have hne : some w1.heap.size ≠ some w3.heap.size := by
    have h1 := hb3.lt
    intro h
    injection h with h
    omega
  go_upto_region 3 with (refine store_box rfl 22 _ _ rfl w3.heap.size 22 _ cs rfl rfl hbm hinfo hold hone ?_; intro w4 hb5 hg5)
  have hb6 := hb4.grown hg5 hne
  have hB4 : Below w.heap.size w w4 := below_row (bel_trans hB3 hB3a) hg5 hB3.size (bel_trans hB3 hB3a).size
  clear hbm hne hb4 hb3 hb2 hg2 hg5 hB3a hB1a
  go_upto_region 5 with (first
    | (refine load_box rfl 24 _ rfl w1.heap.size 24 cs _ rfl hb6 Try.underlying24 rfl hinfo2 ?_)
    | (refine load_box rfl 22 _ rfl w3.heap.size 22 cs _ rfl hb5 Try.underlying22 rfl hinfo ?_))
  by_cases hE : E = 0
  · subst hE
    have hP2 := HPR.out rfl
    go_wp2_with (refine load_boxg rfl 24 _ rfl w1.heap.size 24 cs _ rfl hb6 Try.underlying24 rfl hinfo2 ?_)
    refine (hP2 _).mono ?_
    rintro e w5 ⟨rfl, HB5⟩
    go_wp2_with fail
    refine (hBa _).mono ?_
    rintro e w6 ⟨rfl, HB6⟩
    go_wp2
    go_ret
    exact ⟨rfl, bel_trans hB4 (bel_trans HB5 HB6)⟩
  · have hEB : (E == 0) = false := by rw [beq_eq_false_iff_ne]; exact hE
    go_wp2_with fail
    refine (hBa _).mono ?_
    rintro e w6 ⟨rfl, HB6⟩
    go_wp2
    go_ret
    exact ⟨rfl, bel_trans hB4 HB6⟩
end Go.Proofs.Ytcaljnlicohkaaa
