/- SHA-256: the digest of some parts. -/
import Derived.Test.YtcaljnlicohkaaaShaT
namespace Go.Proofs.Ytcaljnlicohkaaa
open Go.RowKit
set_option maxRecDepth 100000
set_option linter.unusedVariables false
theorem flatten_take_succ (xss : List (List Int)) (k : Nat) (h : k < xss.length) : (xss.take (k + 1)).flatten = (xss.take k).flatten ++ xss.getD k [] := by
  rw [List.take_add_one, List.getElem?_eq_getElem h, List.flatten_append, List.getD_eq_getElem?_getD, List.getElem?_eq_getElem h]
  simp
theorem getD_mem (xss : List (List Int)) (k : Nat) (h : k < xss.length) : xss.getD k [] ∈ xss := by
  rw [List.getD_eq_getElem?_getD, List.getElem?_eq_getElem h]
  exact List.getElem_mem h
set_option maxHeartbeats 1000000 in
theorem sha_Sum_any (v : Value) (xss : List (List Int)) (w : World) (HR : RdL w v xss) (hl : ∀ xs ∈ xss, xs.length ≤ 140737488351232) :
    Calls Try.prog 17 #[v] w fun e w' => e = .returned (.agg (u8A (digL xss.flatten))) ∧ Below w.heap.size w w' := by
  obtain ⟨A, cap, rfl, hn, hm, _, hc⟩ := HR.form
  clear HR
  unfold maxLen at hm
  have hb1 := Box.new w (u8A zd32) 24
  have hB1 := al1 (Below.refl w.heap.size w) (.cells (u8A zd32) 24)
  have hsz := hB1.size
  go_enter Try.func17, Try.ntmps17
  go_upto_region 1 with fail
  simp only [zd32_lit]
  generalize w.alloc (.cells (u8A zd32) 24) = W0 at *
  have hcH := hd_ hc
  have hbH := hd_ hb1
  have HBH := hd_ hB1
  have hLH := hd_ hl
  have hszH := hd_ hsz
  clear hc hb1 hB1 hl hsz
  go_upto_region 3 with (go_at_call 20; refine (HsL.new _).mono ?_; rintro e w2 ⟨g, rfl, HH, hg, HB2⟩)
  have hgH := hd_ hg
  have HHH := hd_ HH
  have HBH2 := hd_ HB2
  clear hg HH HB2
  go_loopw [9] (fun vi wr => ∃ k : Nat, k ≤ xss.length ∧ vi = .int .i64 k ∧ HsL wr g (xss.take k).flatten ∧ Below W0.heap.size W0 wr) (fun i _ => xss.length - (intOf i).toNat)
  case atStart => exact ⟨0, Nat.zero_le _, rfl, by rw [List.take_zero]; exact HHH.out, HBH2.out⟩
  case round =>
    obtain ⟨k, hk, rfl, hH, hB⟩ := hrel
    by_cases hlt : k < xss.length
    · obtain ⟨b, off, u, rfl, hcell0, hu0⟩ := hcH.out k hlt
      have hBB := bel_trans HBH.out hB
      have hcell := cell_keep hBB hcell0
      have hp := flatten_take_succ xss k hlt
      have hpl := hLH.out _ (getD_mem xss k hlt)
      have hun : xss.getD k [] ≠ [] → u.ownBlock ≠ some g := fun hne e => by have h1 := rd_lt hu0 hne g e; have h2 := hgH.out; have h3 := hszH.out; omega
      have hu := hd_ (And.intro (hu0.keep hBB) (And.intro hH (And.intro hpl hun)))
      clear hun
      have hBk := hd_ hB
      have hpH := hd_ hp
      clear hH hcell0 hu0 hpl hBB hp hB
      generalize xss.getD k [] = p at *
      go_wp2_with (go_at_call 22; with_reducible refine (hu.out.2.1.write u p hu.out.1 hu.out.2.2.1 hu.out.2.2.2).mono ?_; rintro e w5 ⟨rfl, hH5, hC5⟩)
      go_roundw
      case rel => exact ⟨k + 1, by omega, by go_num, by rw [hpH.out]; exact hH5, Chg.then hBk.out hC5 (fun b hb => by subst hb; exact hgH.out) hBk.out.size⟩
      case measure => (simp [intOf]; try omega)
    · obtain rfl : k = xss.length := by omega
      rw [List.take_length] at hH
      have hi8 : (Try.prog.info? 24).map (·.size) = some (u8A (digL xss.flatten)).size := by rw [u8A_size, digL_length]; kernel_rfl
      have hz8 : (u8A zd32).size = (u8A (digL xss.flatten)).size := by rw [u8A_size, u8A_size, digL_length]; rfl
      have h1 := u8A_one (digL xss.flatten)
      obtain ⟨L, hL⟩ : ∃ L, L = digL xss.flatten := ⟨_, rfl⟩
      rw [← hL] at hi8 hz8 h1
      have HL := hd_ hL
      clear hL
      have hbr := hbH.out.keep hB
      have hBH := hd_ hB
      have hHH := hd_ hH
      clear hB hH
      go_wp2_with (first
        | (go_at_call 21; (with_reducible refine (hHH.out.sum).mono ?_); rintro e w3 ⟨rfl, HB3⟩; rw [← HL.out]; have hb3 := hbr.keep HB3)
        | (refine store_box rfl 24 _ _ rfl w.heap.size 24 _ (u8A L) rfl rfl hb3 hi8 hz8 h1 ?_; intro w9 hb9 hg9))
      have HF := bel_trans HBH.out (bel_trans hBH.out HB3)
      refine bodyPost_ret (results_cell1 rfl _ _ _ rfl (run_load_box _ _ _ _ _ hb9 Try.underlying24 rfl hi8)) rfl ⟨by rw [HL.out], below_row HF hg9 (Nat.le_refl _) HF.size⟩
end Go.Proofs.Ytcaljnlicohkaaa
