/- The document's digest of some parts. -/
import Derived.Test.YtcaljnlicohkaaaShbF
namespace Go.Proofs.Ytcaljnlicohkaaa
open Go.RowKit
set_option maxRecDepth 100000
set_option linter.unusedVariables false
/-- the document's hasher that has taken the bytes L -/
def HrL (W : World) (g : Nat) (v : Value) (L : List Int) : Prop := Hr W g (wrS beginL L) v (wrR L) L.length
theorem HrL.new (w : World) : Calls Try.prog 26 #[] w fun e w' => ∃ g, e = .returned (.pointer (some ⟨g, 0, none⟩)) ∧ HrL w' g (.slice none 0 0) [] ∧ w.heap.size ≤ g ∧ Below w.heap.size w w' := ref_New_any w
theorem HrL.write {w : World} {g : Nat} {v : Value} {L : List Int} (h : HrL w g v L) (y : Value) (B : List Int) (HR : Rd w y B) (hB : B.length ≤ 140737488351232) (hy : B ≠ [] → ∀ k, y.ownBlock = some k → k ≠ g ∧ v.ownBlock ≠ some k) :
    Calls Try.prog 27 #[.pointer (some ⟨g, 0, none⟩), y] w fun e w' => e = .returned (.tuple #[]) ∧ ∃ v', HrL w' g v' (L ++ B) ∧ Chg (fun k => k = g ∨ v.ownBlock = some k) w w' ∧ (∀ k, v'.ownBlock = some k → v.ownBlock = some k ∨ w.heap.size ≤ k) := by
  refine (ref_Write_any g _ v _ _ y B w h (by rw [wrR_length]; omega) HR hB hy).mono ?_
  rintro e w' ⟨rfl, v', h', hc, ho⟩
  refine ⟨rfl, v', ?_, hc, ho⟩
  rw [wrS_comp, wrR_comp, ← List.length_append] at h'
  exact h'
theorem HrL.keep {w w1 : World} {g : Nat} {v : Value} {L : List Int} (h : HrL w g v L) (hb : Below w.heap.size w w1) : HrL w1 g v L := Hr.keep h hb
theorem HrL.sum {w : World} {g : Nat} {v : Value} {L : List Int} (h : HrL w g v L) : Calls Try.prog 28 #[.pointer (some ⟨g, 0, none⟩)] w fun e w' => e = .returned (.agg (u8A (digL L))) ∧ Below w.heap.size w w' := by
  refine (ref_HSum_any g _ v _ _ w h (by rw [wrR_length]; omega)).mono ?_
  rintro e w' ⟨rfl, hb⟩
  refine ⟨?_, hb⟩
  rw [digL, sumL_mod]
set_option maxHeartbeats 1000000 in
theorem ref_Sum_any (v : Value) (xss : List (List Int)) (w : World) (HR : RdL w v xss) (hl : ∀ xs ∈ xss, xs.length ≤ 140737488351232) :
    Calls Try.prog 18 #[v] w fun e w' => e = .returned (.agg (u8A (digL xss.flatten))) ∧ Below w.heap.size w w' := by
  obtain ⟨A, cap, rfl, hn, hm, _, hc⟩ := HR.form
  clear HR
  unfold maxLen at hm
  have hb1 := Box.new w (u8A zd32) 22
  have hB1 := al1 (Below.refl w.heap.size w) (.cells (u8A zd32) 22)
  have hsz := hB1.size
  go_enter Try.func18, Try.ntmps18
  go_upto_region 1 with fail
  simp only [zd32_lit]
  generalize w.alloc (.cells (u8A zd32) 22) = W0 at *
  have hcH := hd_ hc
  have hbH := hd_ hb1
  have HBH := hd_ hB1
  have hLH := hd_ hl
  have hszH := hd_ hsz
  clear hc hb1 hB1 hl hsz
  go_upto_region 3 with (go_at_call 26; refine (HrL.new _).mono ?_; rintro e w2 ⟨g, rfl, HH, hg, HB2⟩)
  have hgH := hd_ hg
  have HHH := hd_ HH
  have HBH2 := hd_ HB2
  clear hg HH HB2
  go_loopw [9] (fun vi wr => ∃ (k : Nat) (vh : Value), k ≤ xss.length ∧ vi = .int .i64 k ∧ HrL wr g vh (xss.take k).flatten ∧ (∀ kk, vh.ownBlock = some kk → W0.heap.size ≤ kk) ∧ Below W0.heap.size W0 wr) (fun i _ => xss.length - (intOf i).toNat)
  case atStart => exact ⟨0, _, Nat.zero_le _, rfl, by rw [List.take_zero]; exact HHH.out, fun kk hkk => absurd hkk (by simp [Value.ownBlock]), HBH2.out⟩
  case round =>
    obtain ⟨k, vh, hk, rfl, hH, hvo, hB⟩ := hrel
    by_cases hlt : k < xss.length
    · obtain ⟨b, off, u, rfl, hcell0, hu0⟩ := hcH.out k hlt
      have hBB := bel_trans HBH.out hB
      have hcell := cell_keep hBB hcell0
      have hp := flatten_take_succ xss k hlt
      have hpl := hLH.out _ (getD_mem xss k hlt)
      have hun : xss.getD k [] ≠ [] → ∀ kk, u.ownBlock = some kk → kk ≠ g ∧ vh.ownBlock ≠ some kk := fun hne kk e => by
        have h1 := rd_lt hu0 hne kk e
        have h2 := hgH.out
        have h3 := hszH.out
        exact ⟨by omega, fun e2 => by have := hvo kk e2; omega⟩
      have hu := hd_ (And.intro (hu0.keep hBB) (And.intro hH (And.intro hpl hun)))
      have hBk := hd_ (And.intro hB hvo)
      have hpH := hd_ hp
      clear hH hcell0 hu0 hpl hBB hp hB hun hvo
      generalize xss.getD k [] = p at *
      go_wp2_with (go_at_call 27; with_reducible refine (hu.out.2.1.write u p hu.out.1 hu.out.2.2.1 hu.out.2.2.2).mono ?_; rintro e w5 ⟨rfl, v5, hH5, hC5, ho5⟩)
      go_roundw
      case rel => exact ⟨k + 1, v5, hlt, by go_num, by rw [hpH.out]; exact hH5, fun kk hkk => by
          rcases ho5 kk hkk with h1 | h1
          · exact hBk.out.2 kk h1
          · have := hBk.out.1.size; omega, Chg.then hBk.out.1 hC5 (fun b hb => by
          rcases hb with h1 | h1
          · subst h1; exact hgH.out
          · exact hBk.out.2 b h1) hBk.out.1.size⟩
      case measure => (simp [intOf]; try omega)
    · obtain rfl : k = xss.length := by omega
      rw [List.take_length] at hH
      have hi8 : (Try.prog.info? 22).map (·.size) = some (u8A (digL xss.flatten)).size := by rw [u8A_size, digL_length]; kernel_rfl
      have hz8 : (u8A zd32).size = (u8A (digL xss.flatten)).size := by rw [u8A_size, u8A_size, digL_length]; rfl
      have h1 := u8A_one (digL xss.flatten)
      obtain ⟨L, hL⟩ : ∃ L, L = digL xss.flatten := ⟨_, rfl⟩
      rw [← hL] at hi8 hz8 h1
      have HL := hd_ hL
      clear hL
      have hbr := hbH.out.keep hB
      have hBH := hd_ hB
      have hHH := hd_ hH
      clear hB hH
      go_wp2_with (first
        | (go_at_call 28; (with_reducible refine (hHH.out.sum).mono ?_); rintro e w3 ⟨rfl, HB3⟩; rw [← HL.out]; have hb3 := hbr.keep HB3)
        | (refine store_box rfl 22 _ _ rfl w.heap.size 22 _ (u8A L) rfl rfl hb3 hi8 hz8 h1 ?_; intro w9 hb9 hg9))
      have HF := bel_trans HBH.out (bel_trans hBH.out HB3)
      refine bodyPost_ret (results_cell1 rfl _ _ _ rfl (run_load_box _ _ _ _ _ hb9 Try.underlying22 rfl hi8)) rfl ⟨by rw [HL.out], below_row HF hg9 (Nat.le_refl _) HF.size⟩
end Go.Proofs.Ytcaljnlicohkaaa
