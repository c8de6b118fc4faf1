/- copy into a row of one's own: over any program. -/
import Derived.Test.YtcaljnlicohkaaaMem3
import Derived.Laws.CopyOwn
namespace Go.Proofs.Ytcaljnlicohkaaa
open Go.RowKit
section
variable {P : Program} {ops : Array Oper} {rest : List Oper} {o : Oper} {a : Act} {Q : Exit → Act → World → Prop}
theorem copy_at {w0 W : World} (base : Nat) (hgd : o.guard = none) (d s : Operand) (t e : TypeId)
    (ho : o.op = .call { callee := .builtin .copy, args := #[d, s], argTypes := #[t, t] })
    (ht : P.underlying t = some (.slice e)) (hinfo : (P.info? e).map (fun i => (i.zero, i.size, i.bytes)) = some (some (.int .u8 0), 1, 1))
    (g cap off : Nat) (xs ys : List Int) (dp : Option Addr) (dLen dCap : Nat) (y : Value) (hd : a.eval d = .slice dp dLen dCap) (hdp : 0 < ys.length → dp = some ⟨g, off, none⟩) (hdl : ys.length ≤ dLen) (hs : a.eval s = y)
    (HO : Own W base e (.slice (some ⟨g, 0, none⟩) xs.length cap) xs) (HR : Rd W y ys) (hl : off + ys.length ≤ xs.length) (HB : Below base w0 W) (hB : base ≤ W.heap.size)
    (h : ∀ w1, Own w1 base e (.slice (some ⟨g, 0, none⟩) xs.length cap) (xs.take off ++ (ys ++ xs.drop (off + ys.length))) → Below base w0 w1 → W.grownBy w1 (some g) → wpList P ops Q rest (a.put o.dst (.int .i64 (ys.length : Int))) w1) :
    wpList P ops Q (o :: rest) a W := by
  have hsz : (P.info? e).map (·.size) = some 1 := by
    obtain ⟨i0, hi, _, h2, _⟩ := info_parts hinfo
    rw [hi]; simp [h2]
  have hy := HR.1
  obtain ⟨A, c, rfl, h1, h2, h3, h4⟩ := HR.form
  by_cases h0 : ys.length = 0
  · obtain rfl : ys = [] := List.eq_nil_of_length_eq_zero h0
    refine wpList_copy_nothing hgd d s t t ho e ht hsz dp A dLen dCap _ c hd hs (by simp) ?_
    have := h W (by simpa using HO) HB (World.grownBy.refl W _)
    exact this
  · obtain ⟨bl, of, rfl, _⟩ := h4 0 (by omega)
    have hdp := hdp (by omega)
    subst hdp
    rcases HO.2.2 with ⟨h', _⟩ | ⟨g', cap', cur, h', hbg, hh, k1, k2, k3, k4⟩
    · simp at h'
    simp only [Value.slice.injEq, Option.some.injEq, Addr.mk.injEq, and_true, true_and] at h'
    obtain ⟨rfl, rfl⟩ := h'
    have hcur : cur.size = cap := by rw [k3, Nat.mul_one]
    have htake : cur.toList.take xs.length = nums8 xs := by rw [← k4, Nat.mul_one]
    have hcl : cur.toList.length = cap := by rw [Array.length_toList]; exact hcur
    refine wpList_copy_own hgd d s t t ho e ht hsz g off dLen dCap ⟨bl, of, none⟩ ys.length c hd hs cur e hh (nums8 ys) (by rw [nums8_length]; exact (Nat.min_eq_left hdl).symm) ?_ (by rw [nums8_length]; omega) (nums8_one ys) ?_
    · intro j v hv
      have hj : j < ys.length := by have := (List.getElem?_eq_some_iff.1 hv).1; rwa [nums8_length] at this
      obtain ⟨b', o', ha, hc⟩ := h4 j hj
      injection ha with ha
      injection ha with e1 e2
      subst e1; subst e2
      rw [Addr.add_lit, hc, ← hv, nums8_get ys j hj]
    · rw [nums8_length]
      have hlen : (xs.take off ++ (ys ++ xs.drop (off + ys.length))).length = xs.length := by
        rw [List.length_append, List.length_append, List.length_take, List.length_drop]; omega
      have hnew : ((cur.toList.take off ++ (nums8 ys ++ cur.toList.drop (off + ys.length))).take xs.length) = nums8 (xs.take off ++ (ys ++ xs.drop (off + ys.length))) := by
        rw [nums8_append, nums8_append]
        have e1 : nums8 (xs.take off) = cur.toList.take off := by
          unfold nums8 at htake ⊢
          rw [List.map_take, ← htake, List.take_take, Nat.min_eq_left (by omega)]
        have e2 : nums8 (xs.drop (off + ys.length)) = (cur.toList.take xs.length).drop (off + ys.length) := by
          unfold nums8 at htake ⊢
          rw [List.map_drop, htake]
        rw [e1, e2, List.take_append, List.take_append, List.length_take, nums8_length, hcl]
        have m1 : min off cap = off := Nat.min_eq_left (by omega)
        have e3 : (nums8 ys).take (xs.length - off) = nums8 ys := List.take_of_length_le (by rw [nums8_length]; omega)
        rw [m1, List.take_take, Nat.min_eq_right (by omega : off ≤ xs.length), e3]
        congr 2
        rw [List.drop_take]
        congr 1
        omega
      refine h _ ⟨?_, ?_, .inr ⟨g, cap, _, by rw [hlen], hbg, setRow_heap W g cur _ e _ hh, by rw [hlen]; exact k1, k2, ?_, ?_⟩⟩ (below_setRow HB hbg _) ⟨rfl, rfl, rfl, by simp [World.setRow], fun k _ hk => setRow_other W g k _ (fun e => hk (by simp [e]))⟩
      · exact bytes_append (bytes_take HO.1 _) (bytes_append hy (bytes_drop HO.1 _))
      · rw [nums8_length, hlen, Nat.mul_one]
      · rw [Nat.mul_one, List.size_toArray, List.length_append, List.length_append, List.length_take, List.length_drop, nums8_length, hcl]
        omega
      · rw [hlen, Nat.mul_one]
        exact hnew
end
/-! ### cuts with their room told -/
section
variable {P : Program} {t e : TypeId} (ht : P.underlying t = some (.slice e)) (hinfo : (P.info? e).map (fun i => (i.zero, i.size, i.bytes)) = some (some (.int .u8 0), 1, 1))
include ht hinfo
theorem Rd.sl_lm {w : World} {v : Value} {xs : List Int} (h : Rd w v xs) (l k : Nat) (hlk : l ≤ k) (hkn : k ≤ xs.length) :
    ∃ u, (∀ W, (Instr.slice t v (some (.int .i64 l)) (some (.int .i64 k)) (some (.int .i64 k))).run P W = .ok u W) ∧ Rd w u ((xs.take k).drop l) := by
  obtain ⟨A, cap, rfl, h1, h2, h3, h4⟩ := h.form
  have hel : P.elem t = e := by simp [Program.elem, ht]
  refine ⟨sliced A l k k 1, fun W => ?_, h.cut l k k hlk hkn (Nat.le_refl _) (by omega)⟩
  rw [run_slice_lhm (P := P) W t A xs.length cap (by rw [hel]; exact ht) .i64 .i64 .i64 l k k (by omega) (by omega) (by omega) (by omega), hel, run_size hinfo]
  simp
theorem Rd.sl_m {w : World} {v : Value} {xs : List Int} (h : Rd w v xs) (k : Nat) (hkn : k ≤ xs.length) :
    ∃ u, (∀ W, (Instr.slice t v none (some (.int .i64 k)) (some (.int .i64 k))).run P W = .ok u W) ∧ Rd w u (xs.take k) := by
  obtain ⟨A, cap, rfl, h1, h2, h3, h4⟩ := h.form
  have hel : P.elem t = e := by simp [Program.elem, ht]
  have hc := h.cut 0 k k (Nat.zero_le _) hkn (Nat.le_refl _) (by omega)
  rw [List.drop_zero] at hc
  refine ⟨sliced A 0 k k 1, fun W => ?_, hc⟩
  rw [run_slice_hm (P := P) W t A xs.length cap (by rw [hel]; exact ht) .i64 .i64 k k (by omega) (by omega) (by omega), hel, run_size hinfo]
  simp
end
end Go.Proofs.Ytcaljnlicohkaaa
