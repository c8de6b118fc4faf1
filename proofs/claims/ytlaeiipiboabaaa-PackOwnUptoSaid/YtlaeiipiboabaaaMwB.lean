/- The law's function 'wrote': both writers, looked at. -/
import Derived.Test.YtlaeiipiboabaaaMwA
import Derived.Test.YtlaeiipiboabaaaLend
namespace Go.Proofs.Ytlaeiipiboabaaa
open Go.RowKit
set_option maxRecDepth 100000
set_option linter.unusedVariables false
theorem wrote_any (g h : Nat) (v x : Value) (s : WS) (w : World) (t : Bw w g h v x s) (hl : s.2.length ≤ 140737488270000) :
    Calls Try.prog 27 #[.pointer (some ⟨g, 0, none⟩), .pointer (some ⟨h, 0, none⟩)] w fun e w' => e = .returned (.bool true) ∧ Below w.heap.size w w' := by
  obtain ⟨err, L⟩ := s
  obtain ⟨c, hc⟩ : ∃ c : Value, c = if err = 0 then x else .slice none 0 0 := ⟨_, rfl⟩
  obtain ⟨M, hM⟩ : ∃ M : List Int, M = if err = 0 then L else [] := ⟨_, rfl⟩
  have hRc := hd_ (show Rd w c M by
    rw [hc, hM]
    by_cases h0 : err = 0
    · rw [if_pos h0, if_pos h0]; exact t.2.1.2.rd
    · rw [if_neg h0, if_neg h0]; exact (own_nil8 w 0 5).rd)
  have hlen := t.2.1.2.rd.2.len (P := Try.prog) 25 5 3 Try.underlying25
  have hWB := hd_ (show Calls Try.prog 23 #[.pointer (some ⟨g, 0, none⟩)] w (fun e w' => ∃ u, e = .returned (.tuple #[u, .int .i64 err]) ∧ Own w' w.heap.size 5 u M ∧ Below w.heap.size w w') by rw [hM]; exact W_Bytes_any g v (err, L) w t.1 (by simp only at hl ⊢; omega))
  have hXB := hd_ (fun W (hb : Below w.heap.size w W) => show Calls Try.prog 26 #[.pointer (some ⟨h, 0, none⟩)] W (fun e w' => e = .returned (.tuple #[c, .int .i64 err]) ∧ Below W.heap.size W w') by rw [hc]; exact X_Bytes_any h x (err, L) W (t.2.1.keep hb))
  have hT := hd_ t
  clear t hc hM hl
  go_enter Try.func27, Try.ntmps27
  go_wp2_with (first
    | (go_at_call 23; (with_reducible refine hWB.out.mono ?_); rintro e w1 ⟨b1, rfl, HO1, HB1⟩)
    | (go_at_call 26; (with_reducible refine (hXB.out _ HB1).mono ?_); rintro e w2 ⟨rfl, HB2⟩))
  have HB := bel_trans HB1 HB2
  have hX2 := hT.out.2.1.keep HB
  have q0 : w2.cell? ⟨h, 0, none⟩ = some x := hX2.1.cell 0 rfl
  have hSz : Hid (∀ m : Nat, Calls Try.prog 47 #[.pointer (some ⟨g, 0, none⟩)] (w2.drewN m) fun e w' => e = .returned (.int .i64 L.length) ∧ w' = w2.drewN m) := hd_ fun m => (W_Size_any g v (err, L) _ (hT.out.1.keep (below_drewN HB m))).mono fun _ _ h => ⟨h.1, h.2.symm⟩
  have hSm : Hid (∀ m : Nat, Calls Try.prog 19 #[b1, c] (w2.drewN m) fun e w' => e = .returned (.bool true) ∧ w' = w2.drewN m) := hd_ fun m => (Same_any b1 c M M _ ((HO1.keep HB2).rd.keep (below_drewN (Below.refl _ _) m)) (hRc.out.keep (below_drewN HB m))).mono fun _ _ h => ⟨by rw [h.1, decide_eq_true rfl], h.2.symm⟩
  have HBH := hd_ HB
  clear HB HB1 HB2 HO1 hX2
  go_quiet ((first
    | (go_at_call 47; exact Calls.quiet_of_same (hSz.out _))
    | (go_at_call 19; exact Calls.quiet_of_same (hSm.out _))))
  go_wp2
  go_ret
  exact ⟨rfl, below_drewN HBH.out _⟩
end Go.Proofs.Ytlaeiipiboabaaa
