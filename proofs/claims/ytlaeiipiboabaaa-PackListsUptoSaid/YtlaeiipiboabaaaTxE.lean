/- The law's function 'lend' of texts. -/
import Derived.Test.YtlaeiipiboabaaaTxD
namespace Go.Proofs.Ytlaeiipiboabaaa
open Go.RowKit
set_option maxRecDepth 100000
set_option linter.unusedVariables false
abbrev xyS : List ByteArray := [⟨#[120]⟩, ⟨#[121]⟩]
def LendS (w : World) (l : List ByteArray) (e : Ending) (w' : World) : Prop := ∃ u p, e = .returned (.tuple #[u, p]) ∧ RdS w' u (l ++ xyS) ∧ RdS w' p l ∧ Below w.heap.size w w'
theorem rds_of {w : World} {base n : Nat} {e : TypeId} {v : Value} {l : List ByteArray} (h : w.ownsRow base e 1 v n (l.map Value.string)) (hn : n = l.length) : RdS w v l := by subst hn; exact RdC.own h
set_option maxHeartbeats 2000000 in
theorem lendS_any (v : Value) (l : List ByteArray) (w : World) (HR : RdS w v l) (hl : l.length * 16 ≤ 140737488351232) :
    Calls Try.prog 16 #[v] w (LendS w l) := by
  have hlen : ∀ W, Sem.run Try.prog (Builtin.len_ #[28] 3 #[v]) W = .ok (.int .i64 (l.length : Int)) W := RdC.len (P := Try.prog) HR 28 9 3 Try.underlying28
  have hB0 := al1 (Below.refl w.heap.size w) (.cells #[] 9)
  have hO0 := hd_ (lit_ownS w w.heap.size (Nat.le_refl _) [] 0 rfl (by decide))
  have hR0 := hd_ (HR.keep hB0)
  have hB0 := hd_ hB0
  clear HR
  go_enter Try.func16, Try.ntmps16
  go_upto_region 2 with (first
    | (at_builtin; refine app_rd w.heap.size rfl _ _ 28 9 (.string ⟨#[]⟩) 1 16 rfl Try.underlying28 infoS rfl (by decide) (.slice (some ⟨w.heap.size, 0, none⟩) 0 0) v 0 l.length ([].map Value.string) (l.map Value.string) rfl rfl hO0.out hR0.out (one_strs l) hB0.out.size (by decide) (by omega) ?_; intro v1 w1 h1 hg1 hat1; have hB1 := hB0.out.grown hg1 hB0.out.size (fun k hk => (show w.heap.size ≤ k from by have h1 : some w.heap.size = some k := hk; injection h1 with h1; omega)); have hO1 := row_keep h1 (al1 (Below.refl w1.heap.size w1) (.cells (xyS.map Value.string).toArray 9)); have hR1 : RdC 1 (w1.alloc (.cells (xyS.map Value.string).toArray 9)) (.slice (some ⟨w1.heap.size, 0, none⟩) 2 2) 2 (xyS.map Value.string) := RdC.own (lit_ownS w1 0 (Nat.zero_le _) xyS 2 rfl (by decide)); have hB2 := bel_trans hB1 (al1 (Below.refl w1.heap.size w1) (.cells (xyS.map Value.string).toArray 9)))
    | (at_builtin; refine app_rd w.heap.size rfl _ _ 28 9 (.string ⟨#[]⟩) 1 16 rfl Try.underlying28 infoS rfl (by decide) v1 (.slice (some ⟨w1.heap.size, 0, none⟩) 2 2) (0 + l.length) 2 ([].map Value.string ++ l.map Value.string) (xyS.map Value.string) rfl rfl hO1 hR1 (one_strs xyS) hB2.size (by decide) (by omega) ?_; intro v2 w2 h2 hg2 hat2))
  have hB3 := hB2.grown hg2 hB2.size (fun k hk => by
    rcases hat1 with h4 | h4
    · have h5 : some k = some w.heap.size := hk.symm.trans h4
      injection h5 with h5; omega
    · have h5 := hk.symm.trans h4
      injection h5 with h5
      have := hB0.out.size
      omega)
  have hW := hd_ (rds_of (l := l ++ xyS) (by rw [List.map_append]; exact h2) (by rw [List.length_append]; simp))
  have hBe := hd_ hB3
  obtain ⟨p, hs0, hRp0⟩ := RdC.sl_h (P := Try.prog) Try.underlying28 infoS hW.out l.length (by rw [List.length_append]; omega)
  have hRp := hd_ (show RdS w2 p l by
    have e : ((l ++ xyS).map Value.string).take (l.length * 1) = l.map Value.string := by
      rw [Nat.mul_one, List.map_append, List.take_left' (by rw [List.length_map])]
    rw [e] at hRp0
    exact hRp0)
  clear h1 hg1 hat1 hB1 hO1 hR1 hB2 h2 hg2 hat2 hB3 hRp0 hO0 hR0 hB0
  go_quiet (fail)
  go_wp2
  go_ret2
  exact ⟨v2, p, rfl, hW.out.keep (below_drewN (Below.refl _ _) _), hRp.out.keep (below_drewN (Below.refl _ _) _), below_drewN hBe.out _⟩
end Go.Proofs.Ytlaeiipiboabaaa
