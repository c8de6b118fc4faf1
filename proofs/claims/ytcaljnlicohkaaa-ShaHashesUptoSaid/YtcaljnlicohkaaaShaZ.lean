/- SHA-256: a hasher reset. -/
import Derived.Test.YtcaljnlicohkaaaShaY
namespace Go.Proofs.Ytcaljnlicohkaaa
open Go.RowKit
set_option maxRecDepth 100000
set_option linter.unusedVariables false
theorem hsC_one {s : List W32} (h : s.length = 8) {v : Value} (hv : v.oneCell' = true) {n : Int} : (hsC s v n).all (·.oneCell') = true := by
  obtain ⟨a, b, c, d, e, f, g, i, rfl⟩ := eight h
  unfold Value.oneCell' at hv
  simp [hsC, wA, wv, Value.oneCell']
  exact hv
theorem infoH : (Try.prog.info? 50).map (·.size) = some 11 := by kernel_rfl
set_option maxHeartbeats 1000000 in
theorem sha_Reset_any (g : Nat) (s : List W32) (v : Value) (rest : List Int) (n : Nat) (w : World) (h : Hs w g s v rest n) :
    Calls Try.prog 23 #[.pointer (some ⟨g, 0, none⟩)] w fun e w' => e = .returned (.tuple #[]) ∧ Hs w' g beginL (.slice none 0 0) [] 0 ∧ Chg (fun k => k = g) w w' := by
  obtain ⟨q8, q9, q10⟩ := h.cells
  have hH := hd_ h
  have hi : (Try.prog.info? 50).map (·.size) = some (hsC beginL (.slice none 0 0) ((0 : Nat) : Int)).size := by rw [hsC_size rfl]; exact infoH
  have h1 := hsC_one (s := beginL) rfl (v := .slice none 0 0) rfl (n := ((0 : Nat) : Int))
  have hold : (hsC s v (n : Int)).size = (hsC beginL (.slice none 0 0) ((0 : Nat) : Int)).size := by rw [hsC_size h.2.2.1, hsC_size rfl]
  generalize hC : hsC beginL (.slice none 0 0) ((0 : Nat) : Int) = C at *
  have HC := hd_ hC
  clear h q8 q9 hC
  go_enter Try.func23, Try.ntmps23
  go_upto_region 1 with fail
  go_wp2_with (first
    | (go_at_call 20; refine (sha_New_any _).mono ?_; rintro e w2 ⟨g2, rfl, HH, hg2, HB2⟩; have hb2 := HH.1; rw [HC.out] at hb2; have hb3 := hH.out.1.keep HB2)
    | (refine load_box rfl 50 _ rfl g2 50 C _ rfl hb2 Try.underlying50 rfl hi ?_)
    | (refine store_box rfl 50 _ _ rfl g 50 _ C rfl rfl hb3 hi hold h1 ?_; intro w5 hb5 hg5))
  refine bodyPost_end (results_none rfl _ _ _) rfl ?_
  rw [← HC.out] at hb5
  exact ⟨rfl, ⟨hb5, own_nil8 _ _ _, rfl, by simp [Value.ownBlock]⟩, (Chg.below (S := fun k => k = g) HB2).trans (Chg.of hg5) (fun b _ e => by injection e)⟩
end Go.Proofs.Ytcaljnlicohkaaa
