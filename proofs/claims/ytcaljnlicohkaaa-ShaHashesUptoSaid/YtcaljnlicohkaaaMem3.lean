/- An element of what is read, by its address; sizes: over any program. -/
import Derived.Test.YtcaljnlicohkaaaMem2
import Derived.Laws.OwnMore
namespace Go.Proofs.Ytcaljnlicohkaaa
open Go.RowKit
section
variable {P : Program} {t e : TypeId} (ht : P.underlying t = some (.slice e)) {z : Value} {s b : Nat} (hinfo : (P.info? e).map (fun i => (i.zero, i.size, i.bytes)) = some (some z, s, b))
include ht hinfo
/-- the address of element j -/
theorem RdC.at {w : World} {v : Value} {n : Nat} {cs : List Value} (h : RdC s w v n cs) (k : IntKind) (j : Nat) (hj : j < n) (hs : 0 < s) :
    ∃ bl off, (∀ W, (Instr.indexAt t v (.int k (j : Int))).run P W = .ok (.pointer (some ⟨bl, off, none⟩)) W) ∧ ∀ i, i < s → w.cell? ⟨bl, off + i, none⟩ = cs[j * s + i]? := by
  obtain ⟨hl, A, cap, rfl, h1, h2, h3, h4⟩ := h
  have hle : j * s + s ≤ n * s := by rw [← Nat.succ_mul]; exact Nat.mul_le_mul_right _ hj
  obtain ⟨bl, off, rfl, _⟩ := h4 (j * s) (by omega)
  have hel : P.elem t = e := by simp [Program.elem, ht]
  refine ⟨bl, off + j * s, fun W => ?_, fun i hi => ?_⟩
  · rw [run_indexAt_slice (P := P) W t _ _ _ k _ (by rw [hel]; exact ht), hel, if_pos (by omega), run_size hinfo]
    simp [Result.andThen, Addr.add_lit]
  · obtain ⟨bl', off', ha, hc⟩ := h4 (j * s + i) (by omega)
    injection ha with ha
    injection ha with e1 e2
    subst e1; subst e2
    rw [Nat.add_assoc]
    exact hc
end
theorem Rd.at {P : Program} {t e : TypeId} (ht : P.underlying t = some (.slice e)) (hinfo : (P.info? e).map (fun i => (i.zero, i.size, i.bytes)) = some (some (.int .u8 0), 1, 1)) {w : World} {v : Value} {xs : List Int} (h : Rd w v xs) (k : IntKind) (j : Nat) (hj : j < xs.length) :
    ∃ bl off, (∀ W, (Instr.indexAt t v (.int k (j : Int))).run P W = .ok (.pointer (some ⟨bl, off, none⟩)) W) ∧ w.cell? ⟨bl, off, none⟩ = some (.int .u8 (xs.getD j 0)) := by
  obtain ⟨bl, off, h1, h2⟩ := h.2.at ht hinfo k j hj (by omega)
  refine ⟨bl, off, h1, ?_⟩
  have := h2 0 (by omega)
  rw [Nat.add_zero, Nat.mul_one, Nat.add_zero, nums8_get xs j hj] at this
  exact this
theorem Rd.lt63 {w : World} {v : Value} {xs : List Int} (h : Rd w v xs) : xs.length ≤ 9223372036854775807 := by
  obtain ⟨_, _, _, h1, h2, _⟩ := h.form
  unfold maxLen at h2
  omega
/-! ### a store into a row of one's own -/
theorem Own.slot {W : World} {base : Nat} {e : TypeId} {v : Value} {xs : List Int} (h : Own W base e v xs) (hne : xs ≠ []) : ∃ g cap, v = .slice (some ⟨g, 0, none⟩) xs.length cap ∧ base ≤ g ∧ xs.length ≤ cap ∧ cap ≤ 9223372036854775807 ∧
    (∀ j, j < xs.length → W.cell? ⟨g, j, none⟩ = some (.int .u8 (xs.getD j 0))) ∧ (∀ j, W.frozen? ⟨g, j, none⟩ = false) := by
  rcases h.2.2 with ⟨rfl, h0⟩ | ⟨g, cap, cur, rfl, hb, hh, h1, h2, _⟩
  · exact absurd (List.eq_nil_of_length_eq_zero (by simpa using h0)) hne
  · refine ⟨g, cap, rfl, hb, h1, by unfold maxLen at h2; omega, fun j hj => ?_, fun j => h.2.frozenAt j⟩
    have := h.2.cells (g := g) rfl j _ (nums8_get xs j hj)
    rw [← this]
    unfold Addr.add
    split <;> simp_all
theorem Own.put {W : World} {base : Nat} {e : TypeId} {g n cap : Nat} {xs : List Int} (h : Own W base e (.slice (some ⟨g, 0, none⟩) n cap) xs) (j : Nat) (b : Int) (h0 : 0 ≤ b) (h1 : b < 256) :
    Own (W.setCell ⟨g, j, none⟩ (.int .u8 b)) base e (.slice (some ⟨g, 0, none⟩) n cap) (xs.set j b) ∧ W.grownBy (W.setCell ⟨g, j, none⟩ (.int .u8 b)) (some g) := by
  have hn : n = xs.length := by rcases h.2.2 with ⟨h', _⟩ | ⟨g', cap', cur, h', _⟩ <;> simp at h' <;> omega
  subst hn
  obtain ⟨k1, k2⟩ := h.2.stored j (.int .u8 b)
  refine ⟨⟨?_, ?_⟩, k2⟩
  · intro x hx
    rcases List.mem_or_eq_of_mem_set hx with h3 | h3
    · exact h.1 x h3
    · subst h3; exact ⟨h0, h1⟩
  · rw [List.length_set]
    have e1 : nums8 (xs.set j b) = (nums8 xs).set j (.int .u8 b) := by unfold nums8; rw [List.map_set]
    rw [e1]
    exact k1
theorem below_put {B : Nat} {w0 W : World} {e : TypeId} {g n cap : Nat} {xs : List Int} (h : Own W B e (.slice (some ⟨g, 0, none⟩) n cap) xs) (hb : Below B w0 W) (hB : B ≤ W.heap.size) (j : Nat) (u : Value) : Below B w0 (W.setCell ⟨g, j, none⟩ u) := by
  have hn : n = xs.length := by rcases h.2.2 with ⟨h', _⟩ | ⟨g', cap', cur, h', _⟩ <;> simp at h' <;> omega
  subst hn
  exact below_grown hb h.2 (h.2.stored j u).2 hB
end Go.Proofs.Ytcaljnlicohkaaa
