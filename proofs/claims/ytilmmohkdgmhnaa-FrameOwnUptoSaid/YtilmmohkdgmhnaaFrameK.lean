import Derived.Test.YtilmmohkdgmhnaaFrameL
namespace Go.Proofs.Ytilmmohkdgmhnaa
open Go.RowKit
set_option maxRecDepth 100000
set_option linter.unusedVariables false
def oneE (l : List Int) : Int := if decE l ≠ 0 then decE l else if decN l ≠ (l.length : Int) then 45 else 0
def oneK (l : List Int) : Int := if oneE l = 0 then decK l else 0
def oneBody (l : List Int) : List Int := if oneE l = 0 then decBody l else []
def OneRet (w : World) (l : List Int) (e : Ending) (w' : World) : Prop :=
  ∃ vb, e = .returned (.tuple #[.agg #[.int .i64 (oneK l), vb], .int .i64 (oneE l)]) ∧ Own w' w.heap.size 5 vb (oneBody l) ∧ Below w.heap.size w w'
theorem one_ret_bad {w w' : World} {l : List Int} {x : Int} {e : Ending} (hE : oneE l = x) (hx : x ≠ 0) (he : e = .returned (.tuple #[.agg #[.int .i64 0, .slice none 0 0], .int .i64 x])) (hb : Below w.heap.size w w') : OneRet w l e w' := by
  refine ⟨.slice none 0 0, ?_, ?_, hb⟩
  · unfold oneK; rw [he, if_neg (by rw [hE]; exact hx), hE]
  · unfold oneBody; rw [if_neg (by rw [hE]; exact hx)]; exact own_nil8 _ _ _
theorem one_ret_ok {w w' : World} {l : List Int} {e : Ending} {K : Int} {vb : Value} {T : List Int} (h1 : oneE l = 0) (hK : decK l = K) (hT : decBody l = T) (he : e = .returned (.tuple #[.agg #[.int .i64 K, vb], .int .i64 0])) (hO : Own w' w.heap.size 5 vb T) (hb : Below w.heap.size w w') : OneRet w l e w' := by
  refine ⟨vb, ?_, ?_, hb⟩
  · unfold oneK; rw [he, if_pos h1, hK, h1]
  · unfold oneBody; rw [if_pos h1, hT]; exact hO
set_option maxHeartbeats 1000000 in
theorem frame_One_any (v : Value) (l : List Int) (w : World) (HR : Rd w v l) :
    Calls Try.prog 32 #[v] w (OneRet w l) := by
  have hlen := HR.2.len (P := Try.prog) 24 5 3 Try.underlying24
  have hbx := Box.new w #[.int .i64 0, .slice none 0 0] 28
  have hB0 := al1 (Below.refl w.heap.size w) (.cells #[.int .i64 0, .slice none 0 0] 28)
  have hsz : w.heap.size < (w.alloc (.cells #[.int .i64 0, .slice none 0 0] 28)).heap.size := by simp
  have hR0 := HR.keep hB0
  go_enter Try.func32, Try.ntmps32
  go_upto_region 1 with fail
  generalize w.alloc (.cells #[.int .i64 0, .slice none 0 0] 28) = W0 at *
  have HSZ := hd_ hsz
  clear hsz
  go_wp2_with fail
  refine (frame_Decode_any _ _ _ hR0).mono ?_
  rintro e w1 ⟨vb, rfl, HO1, HB1⟩
  have hb1 := hbx.keep HB1
  have hB1 := bel_trans hB0 HB1
  obtain ⟨A, c, rfl, hA⟩ := own_slice HO1
  have HA := hd_ (hA _ HSZ.out)
  clear hA
  by_cases hE : decE l = 0
  · by_cases hN : decN l = (l.length : Int)
    · have h1 : oneE l = 0 := by unfold oneE; rw [if_neg (by rw [hE]; simp), if_neg (by rw [hN]; simp)]
      have H1 := hd_ h1
      clear h1
      rw [hE, hN]
      clear hE hN
      obtain ⟨K, hK⟩ : ∃ K, decK l = K := ⟨_, rfl⟩
      obtain ⟨T, hT⟩ : ∃ T, decBody l = T := ⟨_, rfl⟩
      rw [hT] at HO1 HA
      rw [hK, hT]
      have HK := hd_ hK
      have HT := hd_ hT
      clear hK hT
      have hB2 := al1 (Below.refl w1.heap.size w1) (.cells #[.int .i64 K, .slice A T.length c] 28)
      have hb2 := hb1.keep hB2
      have HO2 := HO1.keep hB2
      go_wp2_with (refine store_box rfl 28 _ _ rfl w.heap.size 28 _ #[.int .i64 K, .slice A T.length c] rfl rfl hb2 infoF rfl (one2 _ _ _ _ _) ?_; intro w9 hb9 hg9)
      exact bodyPost_ret (results_cell2 rfl _ _ _ rfl (run_load_box _ _ _ _ _ hb9 Try.underlying28 rfl infoF)) rfl (one_ret_ok H1.out HK.out HT.out rfl (own_base (HO2.kept hg9 (.inr HA.out)) hB0.size) (below_row (bel_trans hB1 hB2) hg9 (Nat.le_refl _) (bel_trans hB1 hB2).size))
    · have h1 : oneE l = 45 := by unfold oneE; rw [if_neg (by rw [hE]; simp), if_pos hN]
      rw [hE]
      generalize decK l = K at *
      generalize decBody l = T at *
      have hN2 : (decN l != (l.length : Int)) = true := by simpa using hN
      generalize decN l = D at *
      have hB2 := al1 (Below.refl w1.heap.size w1) (.cells #[.int .i64 K, .slice A T.length c] 28)
      have hb2 := hb1.keep hB2
      have H1 := hd_ h1
      clear h1 hE
      go_wp2_with (refine store_box rfl 28 _ _ rfl w.heap.size 28 _ #[.int .i64 0, .slice none 0 0] rfl rfl hb2 infoF rfl (one2 _ _ _ _ _) ?_; intro w9 hb9 hg9)
      exact bodyPost_ret (results_cell2 rfl _ _ _ rfl (run_load_box _ _ _ _ _ hb9 Try.underlying28 rfl infoF)) rfl (one_ret_bad H1.out (by decide) rfl (below_row (bel_trans hB1 hB2) hg9 (Nat.le_refl _) (bel_trans hB1 hB2).size))
  · have h1 : oneE l = decE l := by unfold oneE; rw [if_pos hE]
    generalize decK l = K at *
    generalize decBody l = T at *
    have hE2 : (decE l != 0) = true := by simpa using hE
    have H1 := hd_ h1
    have HE := hd_ hE
    clear h1
    generalize decN l = D at *
    generalize decE l = E at *
    have hB2 := al1 (Below.refl w1.heap.size w1) (.cells #[.int .i64 K, .slice A T.length c] 28)
    have hb2 := hb1.keep hB2
    go_wp2_with (refine store_box rfl 28 _ _ rfl w.heap.size 28 _ #[.int .i64 0, .slice none 0 0] rfl rfl hb2 infoF rfl (one2 _ _ _ _ _) ?_; intro w9 hb9 hg9)
    exact bodyPost_ret (results_cell2 rfl _ _ _ rfl (run_load_box _ _ _ _ _ hb9 Try.underlying28 rfl infoF)) rfl (one_ret_bad H1.out HE.out rfl (below_row (bel_trans hB1 hB2) hg9 (Nat.le_refl _) (bel_trans hB1 hB2).size))
theorem ref_Same_true (k : Int) (A : Option Addr) (n c : Nat) (A2 : Option Addr) (n2 c2 : Nat) (l : List Int) (w : World) (HR : Rd w (.slice A n c) l) (HS : Rd w (.slice A2 n2 c2) l) :
    Calls Try.prog 56 #[.agg #[.int .i64 k, .slice A n c], .agg #[.int .i64 k, .slice A2 n2 c2]] w fun e w' => e = .returned (.bool true) ∧ Below w.heap.size w w' := by
  have hB := al1 (al1 (Below.refl w.heap.size w) (.cells #[.int .i64 k, .slice A n c] 33)) (.cells #[.int .i64 k, .slice A2 n2 c2] 33)
  have h1 := (HR.keep hB).str (P := Try.prog) 24 5 9 Try.underlying24 Try.underlying5 Try.underlying9
  have h2 := (HS.keep hB).str (P := Try.prog) 24 5 9 Try.underlying24 Try.underlying5 Try.underlying9
  have h3 : ((strOfNums l).toList == (strOfNums l).toList) = true := beq_self_eq_true _
  have HB := hd_ hB
  clear hB
  go_enter Try.func56, Try.ntmps56
  go_wp2
  go_ret
  exact ⟨rfl, HB.out⟩
theorem frame_same_true (k : Int) (A : Option Addr) (n c : Nat) (A2 : Option Addr) (n2 c2 : Nat) (l : List Int) (w : World) (HR : Rd w (.slice A n c) l) (HS : Rd w (.slice A2 n2 c2) l) :
    Calls Try.prog 25 #[.agg #[.int .i64 k, .slice A n c], .agg #[.int .i64 k, .slice A2 n2 c2]] w fun e w' => e = .returned (.bool true) ∧ Below w.heap.size w w' := by
  have hB := al1 (al1 (Below.refl w.heap.size w) (.cells #[.int .i64 k, .slice A n c] 28)) (.cells #[.int .i64 k, .slice A2 n2 c2] 33)
  have q0 : ((w.alloc (.cells #[.int .i64 k, .slice A n c] 28)).alloc (.cells #[.int .i64 k, .slice A2 n2 c2] 33)).cell? ⟨w.heap.size + 1, 0, none⟩ = some (.int .i64 k) := World.cell?_alloc_at _ _ _ 0 (by simp)
  have q1 : ((w.alloc (.cells #[.int .i64 k, .slice A n c] 28)).alloc (.cells #[.int .i64 k, .slice A2 n2 c2] 33)).cell? ⟨w.heap.size + 1, 1, none⟩ = some (.slice A2 n2 c2) := World.cell?_alloc_at _ _ _ 1 (by simp)
  have p0 : ((w.alloc (.cells #[.int .i64 k, .slice A n c] 28)).alloc (.cells #[.int .i64 k, .slice A2 n2 c2] 33)).cell? ⟨w.heap.size, 0, none⟩ = some (.int .i64 k) := cell_keep (al1 (Below.refl _ _) _) (World.cell?_alloc_at _ _ _ 0 rfl)
  have p1 : ((w.alloc (.cells #[.int .i64 k, .slice A n c] 28)).alloc (.cells #[.int .i64 k, .slice A2 n2 c2] 33)).cell? ⟨w.heap.size, 1, none⟩ = some (.slice A n c) := cell_keep (al1 (Below.refl _ _) _) (World.cell?_alloc_at _ _ _ 1 rfl)
  go_enter Try.func25, Try.ntmps25
  go_upto_region 1 with fail
  generalize (w.alloc (.cells #[.int .i64 k, .slice A n c] 28)).alloc (.cells #[.int .i64 k, .slice A2 n2 c2] 33) = W0 at *
  have hR0 := HR.keep hB
  have hS0 := HS.keep hB
  go_region_with (first
    | (go_at_call 21; with_reducible refine (plain_any k A n c _).mono ?_; rintro e w1 ⟨rfl, HB1⟩; have K1 : Below W0.heap.size W0 w1 := bel_trans (Below.refl _ _).drew HB1; have q01 := cell_keep K1 q0; have q11 := cell_keep K1 q1)
    | (go_at_call 56; with_reducible refine (ref_Same_true k A n c A2 n2 c2 l _ (hR0.keep K1) (hS0.keep K1)).mono ?_; rintro e w2 ⟨rfl, HB2⟩))
  all_goals
    go_wp2
    go_ret
    exact ⟨rfl, bel_trans hB (bel_trans K1 HB2)⟩
end Go.Proofs.Ytilmmohkdgmhnaa
