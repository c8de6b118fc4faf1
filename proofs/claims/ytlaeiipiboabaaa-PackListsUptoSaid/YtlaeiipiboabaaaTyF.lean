/- The law PackOpens. -/
import Derived.Test.YtlaeiipiboabaaaTyD
import Derived.Test.YtlaeiipiboabaaaTyE
import Derived.Test.YtlaeiipiboabaaaTxE
import Derived.Test.YtlaeiipiboabaaaLend
import Derived.Test.YtlaeiipiboabaaaPlA
namespace Go.Proofs.Ytlaeiipiboabaaa
open Go.RowKit
set_option maxRecDepth 100000
set_option linter.unusedVariables false
theorem opA_cases {B : List Int} (hB : IsBytes B) : ((opA B).1 ≠ 0 ∧ (opA B).2 = []) ∨ ((opA B).1 = 0 ∧ (opA B).2.length ≤ 1048576) := by
  by_cases h : (opA B).1 = 0
  · refine .inr ⟨h, ?_⟩
    have := txA_opA hB (l := (opA B).2) (by rw [← h])
    exact ((txA_ok _).1 (by rw [this])).1.1
  · refine .inl ⟨h, ?_⟩
    unfold opA at h ⊢
    split
    · rfl
    · rename_i h2
      rw [if_neg h2] at h
      exact absurd rfl h
abbrev ezS : List ByteArray := [⟨#[]⟩, ⟨#[122]⟩]
theorem txA_ez : txA ezS = (0, [2, 0, 0, 0, 1, 122]) := by
  have q1 : lq ⟨#[122]⟩ ⟨#[]⟩ = false := by kernel_rfl
  have b0 : byL ⟨#[]⟩ = [] := rfl
  have b1 : byL ⟨#[122]⟩ = [122] := rfl
  have z0 : (ByteArray.mk #[]).size = 0 := rfl
  have z1 : (ByteArray.mk #[122]).size = 1 := rfl
  have l0 : lebB 0 = [0] := lebB_lo (by decide)
  have l1 : lebB 1 = [1] := lebB_lo (by decide)
  have l2 : lebB 2 = [2] := lebB_lo (by decide)
  simp [txA, txR, q1, b0, b1, z0, z1, shL, l0, l1, l2]
set_option maxHeartbeats 4000000 in
theorem law_PackOpens (w : World) (v : Value) (B : List Int) (HR : Rd w v B) (hl : B.length ≤ 140737488351232) :
    Calls Try.prog 8 #[v] w fun e w' => e = .returned (.bool true) ∧ Below w.heap.size w w' := by
  have hIn := hd_ (And.intro HR hl)
  have hc := opA_cases HR.1
  have hP := hd_ (fun W u (h : Rd W u B) => P_Open_any u B W h (by omega))
  have hX := hd_ (fun W u (h : Rd W u B) => X_Open_any u B W h (by omega))
  have hlm : (opA B).2.length ≤ 9000000000000 := by rcases hc with h | h <;> (first | omega | (rw [h.2]; decide))
  generalize opA B = R at *
  obtain ⟨E, M⟩ := R
  simp only at hlm
  unfold OpRet at hP hX
  simp only at hP hX
  have hSm := hd_ (fun W a b (h1 : RdS W a M) (h2 : RdS W b M) => same_true a b M W h1 h2 hlm)
  have hPe := hd_ (fun W u (h : Rd W u [2, 0, 0, 0, 1, 122]) => show Calls Try.prog 33 #[u] W (OpRet W (0, ezS)) from by have := P_Open_any u _ W h (by decide); rw [opA_txA txA_ez] at this; exact this)
  clear HR hl hc hlm
  go_enter Try.func8, Try.ntmps8
  go_upto_region 6 with (first
    | (go_at_call 32; (with_reducible refine (Lend_any v B _ hIn.out.1 hIn.out.2).mono ?_); rintro e w1 ⟨g1, c1, q1, rfl, HOw, HRq, hqb, HB1⟩; have hPc := hP.out w1 q1 HRq)
    | (go_at_call 33; (with_reducible refine hPc.mono ?_); rintro e w2 ⟨u2, rfl, HS2, HB2⟩; have hB02 := bel_trans HB1 HB2; have hXc := hX.out w2 v (hIn.out.1.keep hB02))
    | (go_at_call 34; (with_reducible refine hXc.mono ?_); rintro e w3 ⟨u3, rfl, HS3, HB3⟩; have hB13 := bel_trans HB2 HB3; have hSc := hSm.out w3 u2 u3 (HS2.keep HB3) HS3)
    | (go_at_call 20; (with_reducible refine hSc.mono ?_); rintro e w4 ⟨rfl, m4, rfl⟩; have hB14 := bel_trans hB13 (below_drewN (Below.refl w3.heap.size w3) m4); have hB04 := bel_trans HB1 hB14; have hK := Kept_true _ v B _ ((HOw.keep hB14).rd) (hIn.out.1.keep hB04) hIn.out.2)
    | (go_at_call 35; (with_reducible refine hK.mono ?_); rintro e w6 ⟨rfl, HB6⟩))
  have hB06 := hd_ (bel_trans hB04 HB6)
  clear hPc hXc hSc hK HOw HRq HB1 HB2 hB02 HB3 hB13 hB14 hB04 HB6 hP hX hSm HS2 HS3
  have hB7 := hd_ (al1 (Below.refl w6.heap.size w6) (.cells (u8A [2, 0, 0, 0, 1, 122]) 5))
  have hL7 := lit_own8 w6 0 (Nat.zero_le _) [2, 0, 0, 0, 1, 122] (by intro b hb; simp at hb; omega) 6 rfl (by unfold maxLen; omega)
  have hPc := hd_ (hPe.out _ _ hL7.rd)
  clear hL7
  go_wp2_with (first
    | (go_at_call 33; refine hPc.out.mono ?_; rintro e w8 ⟨u8, rfl, HS8, HB8⟩; have hB9 := al1 (Below.refl w8.heap.size w8) (.cells (ezS.map Value.string).toArray 9); have hSc := hd_ (same_true u8 _ ezS _ (HS8.keep hB9) (rds_of (lit_ownS w8 0 (Nat.zero_le _) ezS 2 rfl (by decide)) rfl) (by decide)))
    | (go_at_call 20; refine hSc.out.mono ?_; rintro e w9 ⟨rfl, m9, rfl⟩))
  go_ret
  exact ⟨rfl, bel_trans hB06.out (bel_trans hB7.out (bel_trans HB8 (below_drewN hB9 _)))⟩
end Go.Proofs.Ytlaeiipiboabaaa
