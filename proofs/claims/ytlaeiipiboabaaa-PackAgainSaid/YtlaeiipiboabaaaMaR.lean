/- A row laid down where it fits. -/
import Derived.Test.YtlaeiipiboabaaaPwX
namespace Go.Proofs.Ytlaeiipiboabaaa
open Go.RowKit
set_option maxRecDepth 100000
set_option linter.unusedVariables false
set_option maxHeartbeats 8000000 in
theorem W_Row_fit (g : Nat) (v : Value) (L : List Int) (k u : ByteArray) (n : Nat) (w : World) (h : Wr w g v (0, L)) (hk0 : ¬ k.size = 0) (hn1 : 1 ≤ n) (hk1 : (k.size : Int) ≤ 1024) (hu1 : (u.size : Int) ≤ 65536) (hn2 : (n : Int) ≤ 1152921504606846976) (hl : L.length + k.size + u.size ≤ 140737488354900) :
    Calls Try.prog 43 #[.pointer (some ⟨g, 0, none⟩), .agg (rowC k u (n : Int))] w (WrRet w g v (0, L ++ (lebB k.size ++ byL k) ++ (lebB u.size ++ byL u) ++ lebB n)) := by
  have hB0 := al1 (Below.refl w.heap.size w) (.cells (rowC k u (n : Int)) 51)
  have hbR := Box.new w (rowC k u (n : Int)) 51
  have hS0 := h.keep hB0
  unfold rowC at *
  have hkL := toList_ne hk0
  have hkE : k.toList.isEmpty = false := by rw [List.isEmpty_eq_false_iff]; exact hkL
  have hn1I : 1 ≤ (n : Int) := by omega
  have e1d : decide ((k.size : Int) ≤ 1024) = true := decide_eq_true hk1
  have e2d : decide ((u.size : Int) ≤ 65536) = true := decide_eq_true hu1
  clear h
  have hT1 : wText (0, L) (byL k) 1024 = (0, L ++ (lebB k.size ++ byL k)) := by
    unfold wText; rw [if_neg (by simp), if_neg (by omega), if_neg (by rw [byL_length]; omega), byL_length]
  have hN1 : (L ++ (lebB k.size ++ byL k)).length + u.size ≤ 140737488354920 := by
    rw [List.length_append, List.length_append, byL_length]
    have := lebB_10 (v := k.size) (by omega)
    omega
  generalize L ++ (lebB k.size ++ byL k) = L1 at *
  have hT2 : wText (0, L1) (byL u) 65536 = (0, L1 ++ (lebB u.size ++ byL u)) := by
    unfold wText; rw [if_neg (by simp), if_neg (by omega), if_neg (by rw [byL_length]; omega), byL_length]
  have hN2 : (L1 ++ (lebB u.size ++ byL u)).length ≤ 140737488355000 := by
    rw [List.length_append, List.length_append, byL_length]
    have := lebB_10 (v := u.size) (by omega)
    omega
  generalize L1 ++ (lebB u.size ++ byL u) = L2 at *
  have hT3 : wInt (0, L2) (n : Int) 1152921504606846976 = (0, L2 ++ lebB n) := by
    unfold wInt; rw [if_neg (by simp), if_neg (by omega), if_neg (by omega), Int.toNat_natCast]
  generalize L2 ++ lebB n = L3 at *
  have hl1 := hd_ (show L.length + k.size ≤ 140737488355300 by omega)
  have hl2 := hd_ (show L1.length + u.size ≤ 140737488355300 by omega)
  have hl3 := hd_ (show L2.length ≤ 140737488355300 by omega)
  have HT1 := hd_ hT1
  have HT2 := hd_ hT2
  have HT3 := hd_ hT3
  clear hT1 hT2 hT3 hN1 hN2 hl
  go_enter Try.func43, Try.ntmps43
  go_upto_region 1 with fail
  generalize w.alloc (.cells #[.string k, .string u, .int .i64 (n : Int)] 51) = W0 at *
  have q0 : W0.cell? ⟨w.heap.size, 0, none⟩ = some (.string k) := hbR.cell 0 rfl
  have q1 : W0.cell? ⟨w.heap.size, 1, none⟩ = some (.string u) := hbR.cell 1 rfl
  have q2 : W0.cell? ⟨w.heap.size, 2, none⟩ = some (.int .i64 (n : Int)) := hbR.cell 2 rfl
  have hb := hd_ (hS0.1.keep (Below.refl W0.heap.size W0).drew)
  go_region_with (go_at_call 50; (with_reducible refine (must_go g _ _ 32 _ hb.out rfl).mono ?_); rintro e w1 ⟨rfl, rfl⟩)
  all_goals
    go_upto_region 2 with fail
    have hb2 := hd_ (hS0.1.keep ((Below.refl W0.heap.size W0).drew).drew)
    have hS2 := hd_ (hS0.keep ((Below.refl W0.heap.size W0).drew).drew)
    go_region_with (go_at_call 50; (with_reducible refine (must_go g _ _ 31 _ hb2.out rfl).mono ?_); rintro e w1 ⟨rfl, rfl⟩)
  all_goals
    have hR2 := hd_ (hbR.keep ((Below.refl W0.heap.size W0).drew).drew)
    have nR : w.heap.size ≠ g := (box_box hbR hS0.1 (by decide))
    have NR := hd_ nR
    have HB2 := hd_ (bel_trans hB0 ((Below.refl W0.heap.size W0).drew).drew)
    have hv2 : v.ownBlock ≠ some w.heap.size := own_box hS0.2 hbR (by decide)
    have HV2 := hd_ hv2
    clear q1 q2 hb2 hb nR hv2
    generalize W0.drew.drew = W2 at *
    have y0 : W2.cell? ⟨w.heap.size, 0, none⟩ = some (.string k) := hR2.out.cell 0 rfl
    go_wp2_with (first
      | (go_at_call 39; (with_reducible refine (W_Text_any g v (0, L) k 1024 W2 hS2.out hl1.out).mono ?_); rintro e w3 ⟨rfl, HP3⟩; rw [HT1.out] at HP3; obtain ⟨v3, HW3, HC3, HO3⟩ := HP3; have HO3 := hd_ HO3; have hR3 := hR2.out.chg HC3 (fun h => h.elim NR.out (fun h => HV2.out h.symm)); have y1 : w3.cell? ⟨w.heap.size, 1, none⟩ = some (.string u) := hR3.cell 1 rfl)
      | (go_at_call 39; (with_reducible refine (W_Text_any g v3 (0, L1) u 65536 w3 HW3 hl2.out).mono ?_); rintro e w4 ⟨rfl, HP4⟩; rw [HT2.out] at HP4; obtain ⟨v4, HW4, HC4, HO4⟩ := HP4; have HO4 := hd_ HO4; have hR4 := hR3.chg HC4 (fun h => h.elim NR.out (fun h => own_box HW3.2 hR3 (by decide) h.symm)); have y2 : w4.cell? ⟨w.heap.size, 2, none⟩ = some (.int .i64 (n : Int)) := hR4.cell 2 rfl)
      | (go_at_call 59; (with_reducible refine (W_Int_any g v4 (0, L2) (n : Int) 1152921504606846976 w4 HW4 (le60 hn2) hl3.out).mono ?_); rintro e w5 ⟨rfl, HP5⟩; rw [HT3.out] at HP5))
    go_end0
    exact ⟨rfl, (WrPost.trans (s1 := (0, L1)) HO3.out HC3 (WrPost.trans (s1 := (0, L2)) HO4.out HC4 HP5)).after HB2.out⟩
end Go.Proofs.Ytlaeiipiboabaaa
