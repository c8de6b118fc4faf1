/- An element of what is read, by its address; sizes: over any program. -/
import Derived.Test.YtilmmohkdgmhnaaMem2
namespace Go.Proofs.Ytilmmohkdgmhnaa
open Go.RowKit
section
variable {P : Program} {t e : TypeId} (ht : P.underlying t = some (.slice e)) {z : Value} {s b : Nat} (hinfo : (P.info? e).map (fun i => (i.zero, i.size, i.bytes)) = some (some z, s, b))
include ht hinfo
/-- the address of element j -/
theorem RdC.at {w : World} {v : Value} {n : Nat} {cs : List Value} (h : RdC s w v n cs) (k : IntKind) (j : Nat) (hj : j < n) (hs : 0 < s) :
    ∃ bl off, (∀ W, (Instr.indexAt t v (.int k (j : Int))).run P W = .ok (.pointer (some ⟨bl, off, none⟩)) W) ∧ ∀ i, i < s → w.cell? ⟨bl, off + i, none⟩ = cs[j * s + i]? := by
  obtain ⟨hl, A, cap, rfl, h1, h2, h3, h4⟩ := h
  have hle : j * s + s ≤ n * s := by rw [← Nat.succ_mul]; exact Nat.mul_le_mul_right _ hj
  obtain ⟨bl, off, rfl, _⟩ := h4 (j * s) (by omega)
  have hel : P.elem t = e := by simp [Program.elem, ht]
  refine ⟨bl, off + j * s, fun W => ?_, fun i hi => ?_⟩
  · rw [run_indexAt_slice (P := P) W t _ _ _ k _ (by rw [hel]; exact ht), hel, if_pos (by omega), run_size hinfo]
    simp [Result.andThen, Addr.add_lit]
  · obtain ⟨bl', off', ha, hc⟩ := h4 (j * s + i) (by omega)
    injection ha with ha
    injection ha with e1 e2
    subst e1; subst e2
    rw [Nat.add_assoc]
    exact hc
end
theorem Rd.at {P : Program} {t e : TypeId} (ht : P.underlying t = some (.slice e)) (hinfo : (P.info? e).map (fun i => (i.zero, i.size, i.bytes)) = some (some (.int .u8 0), 1, 1)) {w : World} {v : Value} {xs : List Int} (h : Rd w v xs) (k : IntKind) (j : Nat) (hj : j < xs.length) :
    ∃ bl off, (∀ W, (Instr.indexAt t v (.int k (j : Int))).run P W = .ok (.pointer (some ⟨bl, off, none⟩)) W) ∧ w.cell? ⟨bl, off, none⟩ = some (.int .u8 (xs.getD j 0)) := by
  obtain ⟨bl, off, h1, h2⟩ := h.2.at ht hinfo k j hj (by omega)
  refine ⟨bl, off, h1, ?_⟩
  have := h2 0 (by omega)
  rw [Nat.add_zero, Nat.mul_one, Nat.add_zero, nums8_get xs j hj] at this
  exact this
theorem Rd.lt63 {w : World} {v : Value} {xs : List Int} (h : Rd w v xs) : xs.length ≤ 9223372036854775807 := by
  obtain ⟨_, _, _, h1, h2, _⟩ := h.form
  unfold maxLen at h2
  omega
end Go.Proofs.Ytilmmohkdgmhnaa
