import Derived.Test.YtdmogbkfmeihfaaCrcG
import Derived.Lib.SlBytesConst
import Derived.Deep.QuietTactic
import Derived.BigQuiet
namespace Go.Proofs.Ytdmogbkfmeihfaa
open Go.RowKit
set_option maxRecDepth 100000
set_option linter.unusedVariables false
theorem info8 : (Try.prog.info? 5).map (fun i => (i.zero, i.size, i.bytes)) = some (some (.int .u8 0), 1, 1) := by kernel_rfl
theorem infoS : (Try.prog.info? 22).map (fun i => (i.zero, i.size, i.bytes)) = some (some (.slice none 0 0), 1, 24) := by kernel_rfl
theorem eq4 (a0 a1 a2 a3 b0 b1 b2 b3 : Int) (W : World) : (Op.equalIn 10000 129 (.agg #[.int .u8 a0, .int .u8 a1, .int .u8 a2, .int .u8 a3]) (.agg #[.int .u8 b0, .int .u8 b1, .int .u8 b2, .int .u8 b3])).run Try.prog W = .ok (eqL [a0, a1, a2, a3] [b0, b1, b2, b3]) W := by
  obtain ⟨i0, hi, _⟩ := info_parts info8
  exact eqArr Try.underlying5 (by kernel_rfl) 9998 W Try.underlying129 hi [a0, a1, a2, a3] [b0, b1, b2, b3] rfl rfl
attribute [local go_sem] u32_signed not_I xorOnes_I xor_I
/-! ### Holds -/
def holdsB (l : List Int) : Bool := decide (4 ≤ l.length) && decide (B4 (sumW (l.take (l.length - 4))) = l.drop (l.length - 4))
theorem crc_Sum_one (v : Value) (xs : List Int) (w : World) (HR : Rd w v xs) (hv : v.oneCell' = true) : RdL (w.alloc (.cells #[v] 22)) (.slice (some ⟨w.heap.size, 0, none⟩) 1 1) [xs] := by
  have hb : Below w.heap.size w (w.alloc (.cells #[v] 22)) := (Below.refl _ _).alloc (Nat.le_refl _) _
  refine ⟨[v], rfl, ⟨rfl, _, _, rfl, Nat.le_refl _, by decide, (fun h => by cases h), fun j hj => ⟨_, 0, rfl, ?_⟩⟩, ?_, ?_⟩
  · rw [Nat.zero_add, World.cell?_alloc_new]
    simp
  · intro u hu
    simp only [List.mem_cons, List.not_mem_nil, or_false] at hu
    subst hu; exact hv
  · intro j hj
    have : j = 0 := by simp at hj; exact hj
    subst this
    exact HR.keep hb
theorem Rd.one {w : World} {v : Value} {xs : List Int} (h : Rd w v xs) : v.oneCell' = true := by
  obtain ⟨A, c, rfl, _⟩ := h.form; rfl
theorem below_drewN {B : Nat} {w W : World} (h : Below B w W) (n : Nat) : Below B w (W.drewN n) := ⟨h.os, h.tape, h.output, h.size, h.block⟩
theorem rdl_drew {w : World} {v : Value} {xss : List (List Int)} (h : RdL w v xss) : RdL w.drew v xss := h
theorem crc_Holds_short (v : Value) (l : List Int) (w : World) (HR : Rd w v l) (hl : l.length < 4) : Calls Try.prog 54 #[v] w fun e w' => e = .returned (.bool (holdsB l)) ∧ Below w.heap.size w w' := by
  have hlen := HR.2.len (P := Try.prog) 22 5 3 Try.underlying22
  have hb : holdsB l = false := by unfold holdsB; rw [decide_eq_false (by omega)]; rfl
  rw [hb]
  go_enter Try.func54, Try.ntmps54
  go_wp2
  go_ret
  exact ⟨rfl, Below.refl _ _⟩
set_option maxHeartbeats 1000000 in
theorem crc_Holds_long (v : Value) (l : List Int) (w : World) (HR : Rd w v l) (hl : 4 ≤ l.length) (hm : l.length ≤ 281474976710656) : Calls Try.prog 54 #[v] w fun e w' => e = .returned (.bool (holdsB l)) ∧ Below w.heap.size w w' := by
  have hlen := HR.2.len (P := Try.prog) 22 5 3 Try.underlying22
  obtain ⟨n, hn⟩ : ∃ n, l.length = n + 4 := ⟨l.length - 4, by omega⟩
  have hn4 : l.length - 4 = n := by omega
  obtain ⟨u1, hs1, hR1⟩ := HR.sl_h Try.underlying22 info8 n (by omega)
  obtain ⟨u2, hs2, hR2⟩ := HR.sl_l Try.underlying22 info8 n (by omega)
  have hd : (l.drop n).length = 4 := by rw [List.length_drop]; omega
  obtain ⟨A, cap, rfl, hc1, hc2, hc3, hc4⟩ := hR2.form
  obtain ⟨b, off, rfl, k0⟩ := hc4 0 (by omega)
  obtain ⟨b1, o1, e1, k1⟩ := hc4 1 (by omega)
  injection e1 with e1; injection e1 with e1 e2; subst e1; subst e2
  obtain ⟨b1, o1, e1, k2⟩ := hc4 2 (by omega)
  injection e1 with e1; injection e1 with e1 e2; subst e1; subst e2
  obtain ⟨b1, o1, e1, k3⟩ := hc4 3 (by omega)
  injection e1 with e1; injection e1 with e1 e2; subst e1; subst e2
  rw [hd] at hs2 hR2
  have hlist : l.drop n = [(l.drop n).getD 0 0, (l.drop n).getD 1 0, (l.drop n).getD 2 0, (l.drop n).getD 3 0] := by
    generalize l.drop n = t at hd
    match t, hd with
    | [a, b, c, d], _ => rfl
  have hfin : holdsB l = decide (B4 (sumW (l.take n)) = [(l.drop n).getD 0 0, (l.drop n).getD 1 0, (l.drop n).getD 2 0, (l.drop n).getD 3 0]) := by
    unfold holdsB; rw [hn4, decide_eq_true hl, Bool.true_and, ← hlist]
  rw [hfin]
  obtain ⟨A1, cp1, rfl, _, _, _, _⟩ := hR1.form
  have hone : RdL (w.alloc (.cells #[.slice A1 (l.take n).length cp1] 22)) (.slice (some ⟨w.heap.size, 0, none⟩) 1 1) [l.take n] := crc_Sum_one _ _ w hR1 rfl
  generalize (l.drop n).getD 0 0 = c0 at *
  generalize (l.drop n).getD 1 0 = c1 at *
  generalize (l.drop n).getD 2 0 = c2 at *
  generalize (l.drop n).getD 3 0 = c3 at *
  generalize l.take n = m at *
  clear hlist hfin hc4 hR2 hR1 hd hn4 hl
  rw [hn] at hlen hm
  clear hn
  rw [Nat.add_zero] at k0
  have KS : ∀ w', Below w.heap.size w w' → (Below w.heap.size w w' ∧ w'.cell? ⟨b, off, none⟩ = some (.int .u8 c0) ∧ w'.cell? ⟨b, off + 1, none⟩ = some (.int .u8 c1) ∧ w'.cell? ⟨b, off + 2, none⟩ = some (.int .u8 c2) ∧ w'.cell? ⟨b, off + 3, none⟩ = some (.int .u8 c3)) :=
    fun w' hw => ⟨hw, cell_keep hw k0, cell_keep hw k1, cell_keep hw k2, cell_keep hw k3⟩
  have heq := eq4
  have harr : ∀ W : World, (Instr.arrayAt 129 (.slice (some ⟨b, off, none⟩) 4 cap)).run Try.prog W = .ok (.pointer (some ⟨b, off, none⟩)) W := fun W => run_arrayAt W 129 5 4 _ 4 cap Try.underlying129 (by decide)
  go_enter Try.func54, Try.ntmps54
  go_wp2
  go_region_held3 (fun w' => Below w.heap.size w w' ∧ w'.cell? ⟨b, off, none⟩ = some (.int .u8 c0) ∧ w'.cell? ⟨b, off + 1, none⟩ = some (.int .u8 c1) ∧ w'.cell? ⟨b, off + 2, none⟩ = some (.int .u8 c2) ∧ w'.cell? ⟨b, off + 3, none⟩ = some (.int .u8 c3))
    (first | exact KS _ (Below.refl _ _).drew | exact KS _ ((Below.refl _ _).alloc (Nat.le_refl _) _).drew | exact KS _ (bel_trans ((Below.refl _ _).alloc (Nat.le_refl _) _).drew (by assumption)) | exact KS _ ((bel_trans ((Below.refl _ _).alloc (Nat.le_refl _) _).drew (by assumption)).alloc (bel_trans ((Below.refl _ _).alloc (Nat.le_refl _) _).drew (by assumption)).size _))
    (first | (go_at_call 79; refine (crc_Sum_any _ _ _ (rdl_drew hone)).mono ?_; rintro e w' ⟨rfl, hb⟩) | (go_at_call 78; refine (crc_laid_any _ _).mono ?_; rintro e w' ⟨rfl, rfl⟩))
  all_goals
    go_wp2
    go_ret
    exact ⟨rfl, (bel_trans ((Below.refl _ _).alloc (Nat.le_refl _) _).drew hb).alloc (bel_trans ((Below.refl _ _).alloc (Nat.le_refl _) _).drew hb).size _⟩
theorem crc_Holds_any (v : Value) (l : List Int) (w : World) (HR : Rd w v l) (hm : l.length ≤ 281474976710656) : Calls Try.prog 54 #[v] w fun e w' => e = .returned (.bool (holdsB l)) ∧ Below w.heap.size w w' := by
  by_cases h : l.length < 4
  · exact crc_Holds_short v l w HR h
  · exact crc_Holds_long v l w HR (by omega) hm
theorem holds_miss {l : List Int} {n k : Nat} (hl : l.length = n + 4) {t : List Int} (ht : t = B4 (sumW (l.take n))) (hk : k < 4) (h : l.getD (n + k) 0 ≠ t.getD k 0) : holdsB l = false := by
  unfold holdsB
  rw [show l.length - 4 = n by omega, Bool.and_eq_false_iff]
  refine .inr (decide_eq_false fun e => h ?_)
  subst ht
  rw [e, List.getD_eq_getElem?_getD, List.getD_eq_getElem?_getD, List.getElem?_drop]
theorem holds_all {l : List Int} {n : Nat} (hl : l.length = n + 4) {t : List Int} (ht : t = B4 (sumW (l.take n))) (h : ∀ k, k < 4 → l.getD (n + k) 0 = t.getD k 0) : holdsB l = true := by
  unfold holdsB
  rw [show l.length - 4 = n by omega, Bool.and_eq_true]
  refine ⟨decide_eq_true (by omega), decide_eq_true ?_⟩
  rw [← ht]
  have ht4 : t.length = 4 := by rw [ht]; rfl
  refine List.ext_getElem (by rw [List.length_drop]; omega) fun i h1 h2 => ?_
  have := h i (by omega)
  rw [List.getD_eq_getElem?_getD, List.getD_eq_getElem?_getD, List.getElem?_eq_getElem (by omega), List.getElem?_eq_getElem h1] at this
  rw [List.getElem_drop]
  exact this.symm
theorem B4_cell (x : W32) : ∀ n, n < 4 → (#[Value.int .u8 (I x % 256), .int .u8 (I x / 256 % 256), .int .u8 (I x / 65536 % 256), .int .u8 (I x / 16777216 % 256)] : Array Value)[n]? = some (.int .u8 ((B4 x).getD n 0)) := by
  intro n hn
  have : n = 0 ∨ n = 1 ∨ n = 2 ∨ n = 3 := by omega
  rcases this with rfl | rfl | rfl | rfl <;> rfl
end Go.Proofs.Ytdmogbkfmeihfaa
