/- The laws PackNames and PackRoom. -/
import Derived.Test.YtlaeiipiboabaaaPrX
namespace Go.Proofs.Ytlaeiipiboabaaa
open Go.RowKit
set_option maxRecDepth 100000
set_option linter.unusedVariables false
theorem lit_own8 (W : World) (base : Nat) (hb : base ≤ W.heap.size) (ds : List Int) (hd : IsBytes ds) (n : Nat) (hn : ds.length = n) (hm : n ≤ maxLen) : Own (W.alloc (.cells (u8A ds) 5)) base 5 (.slice (some ⟨W.heap.size, 0, none⟩) n n) ds := by
  subst hn
  refine ⟨hd, ?_⟩
  have := World.ownsRow_lit (e := 5) (size := 1) W (u8A ds) ds.length hb hm (by rw [u8A_size, Nat.mul_one])
  have e : (u8A ds).toList = nums8 ds := rfl
  rw [e] at this
  exact this
theorem law_PackNames (w : World) :
    Calls Try.prog 3 #[] w fun e w' => e = .returned (.bool true) ∧ Below w.heap.size w w' := by
  have hO := hd_ (lit_own8 w 0 (Nat.zero_le _) [172, 2] (by intro b hb; simp at hb; omega) 2 rfl (by unfold maxLen; omega))
  have hB0 := hd_ (al1 (Below.refl w.heap.size w) (.cells (u8A [172, 2]) 5))
  have hR := hd_ (show rUint [172, 2] 0 0 = (300, 2, 0) by decide)
  go_enter Try.func3, Try.ntmps3
  go_wp2_with (first
    | (go_at_call 14; refine (R_New_any _ [172, 2] _ hO.out.rd (by decide)).mono ?_; rintro e w1 ⟨g, v, rfl, HR1, hg, hv, HB1⟩)
    | (go_at_call 15; refine (R_Uint_any g v [172, 2] 0 0 w1 HR1).mono ?_; rintro e w2 ⟨rfl, HP2⟩; rw [hR.out] at HP2 ⊢))
  go_ret
  refine ⟨rfl, ?_⟩
  have h1 := bel_trans hB0.out HB1
  exact Chg.then h1 HP2.2 (fun b hb => by subst hb; exact Nat.le_trans hB0.out.size hg) h1.size
end Go.Proofs.Ytlaeiipiboabaaa
