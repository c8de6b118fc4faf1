/- SHA-256: a hasher. -/
import Derived.Test.YtcaljnlicohkaaaShaL
import Derived.Test.YtcaljnlicohkaaaMem9
namespace Go.Proofs.Ytcaljnlicohkaaa
open Go.RowKit
set_option maxRecDepth 100000
set_option linter.unusedVariables false
/-- a hasher's cells -/
def hsC (s : List W32) (v : Value) (n : Int) : Array Value := wA s ++ #[v, .int .u64 n, .bool true]
theorem hsC_size {s : List W32} (h : s.length = 8) (v : Value) (n : Int) : (hsC s v n).size = 11 := by unfold hsC; rw [Array.size_append, wA_size, h]; rfl
/-- a hasher: its words, its rest, its count -/
def Hs (W : World) (g : Nat) (s : List W32) (v : Value) (rest : List Int) (n : Nat) : Prop :=
  Box W g 50 (hsC s v (n : Int)) ∧ Own W 0 5 v rest ∧ s.length = 8 ∧ v.ownBlock ≠ some g
set_option maxHeartbeats 1000000 in
theorem sha_New_any (w : World) :
    Calls Try.prog 20 #[] w fun e w' => ∃ g, e = .returned (.pointer (some ⟨g, 0, none⟩)) ∧ Hs w' g beginL (.slice none 0 0) [] 0 ∧ w.heap.size ≤ g ∧ Below w.heap.size w w' := by
  go_enter Try.func20, Try.ntmps20
  go_wp2_with (go_at_call 35; refine (sha_begin_any _).mono ?_; rintro e w1 ⟨rfl, HB1⟩)
  have hE : ∀ cs, cs = hsC beginL (.slice none 0 0) 0 → Hs (w1.alloc (.cells cs 50)) w1.heap.size beginL (.slice none 0 0) [] 0 := fun cs h => by
    subst h
    exact ⟨Box.new _ _ _, own_nil8 _ _ _, rfl, by simp [Value.ownBlock]⟩
  go_ret
  exact ⟨_, rfl, hE _ (by kernel_rfl), HB1.size, bel_trans HB1 (al1 (Below.refl _ _) _)⟩
end Go.Proofs.Ytcaljnlicohkaaa
