/- The program's Size, Encode, Check of a state; opener that no call made. -/
import Derived.Test.YtdmogbkfmeihfaaIeC
namespace Go.Proofs.Ytdmogbkfmeihfaa
open Go.RowKit
set_option maxRecDepth 100000
set_option linter.unusedVariables false
theorem own_toNi {W : World} {base : Nat} {e : TypeId} {v : Value} {xs : List Int} (h : Own W base e v xs) : OwnN W v xs := by
  by_cases hv : v = .slice none 0 0
  · subst hv
    obtain ⟨A, c, he, _⟩ := h.rd.form
    injection he with _ e2 _
    exact .inl ⟨rfl, List.eq_nil_of_length_eq_zero e2.symm⟩
  · exact .inr ((h.toF hv).low (Nat.zero_le _))
def encA (seq : Int) (l : List RowT) : Int × List Int := if (laidA seq l).1 ≠ 0 then ((laidA seq l).1, []) else (0, sealB (laidA seq l).2)
def sizA (seq : Int) (l : List RowT) : Int × Int := if (laidA seq l).1 ≠ 0 then (0, (laidA seq l).1) else (((laidA seq l).2.length : Int) + 4, 0)
theorem laid_len (seq : Int) (l : List RowT) : (laidA seq l).2.length ≤ 268435456 := by
  rw [laid_chk]
  split
  · simp
  · rename_i h
    have h : chkA seq l = 0 := by simpa using h
    unfold chkA at h
    split at h
    · exact absurd h (by decide)
    split at h
    · exact absurd h (by decide)
    split at h
    · exact absurd h (by decide)
    split at h
    · exact absurd h (by decide)
    · simp only [List.length_append]; omega
theorem wrap_a4 (n : Nat) (h : n ≤ 268435456) : wrap64 ((n : Int) + 4) = (n : Int) + 4 := by unfold wrap64; omega
set_option maxHeartbeats 1000000 in
theorem Encode_any (seq : Int) (v : Value) (l : List RowT) (w : World) (HR : RdR w v l) :
    Calls Try.prog 22 #[.agg (stC seq v)] w (ImRet w (encA seq l)) := by
  have hbS := hd_ (Box.new w (stC seq v) 36)
  have hB0 := hd_ (al1 (Below.refl w.heap.size w) (.cells (stC seq v) 36))
  have hL := hd_ (laid_any seq v l _ (HR.keep hB0.out))
  have hll := laid_len seq l
  unfold encA
  obtain ⟨E, M, hEM⟩ : ∃ E M, laidA seq l = (E, M) := ⟨_, _, rfl⟩
  rw [hEM] at hL hll ⊢
  simp only at hll ⊢
  have hL := hd_ (show Calls Try.prog 47 #[.agg (stC seq v)] (w.alloc (.cells (stC seq v) 36)) (fun e w' => ∃ u, e = .returned (.tuple #[u, .int .i64 E]) ∧ (OwnN w' u M ∧ ∀ k, u.ownBlock = some k → (w.alloc (.cells (stC seq v) 36)).heap.size ≤ k) ∧ Below (w.alloc (.cells (stC seq v) 36)).heap.size (w.alloc (.cells (stC seq v) 36)) w') from hL.out)
  have hSl := hd_ (fun W u (h : Rd W u M) => crc_Seal_any u M W h (by omega))
  clear hEM HR hll
  by_cases hE : E = 0
  · subst hE
    rw [if_neg (by simp)]
    go_enter Try.func22, Try.ntmps22
    go_wp2_with (first
      | (refine load_boxI ?hw 36 _ rfl w.heap.size 36 (stC seq v) _ rfl hbS.out Try.underlying36 rfl infoSt ?_; (case hw => first | rfl | simp [Region.wanted, yielded]))
      | (go_at_call 47; (with_reducible refine hL.out.mono ?_); rintro e w1 ⟨u1, rfl, ⟨HN1, hf1⟩, HB1⟩; have hS1 := hSl.out w1 u1 HN1.rd)
      | (go_at_call 48; (with_reducible refine hS1.mono ?_); rintro e w2 ⟨u2, rfl, HO2, HB2⟩))
    go_ret2
    exact ⟨_, rfl, ⟨own_toNi HO2, fun k e => by have := (own_lt HO2 k e).1; have h2 := HB1.size; have h3 := hB0.out.size; omega⟩, bel_trans hB0.out (bel_trans HB1 HB2)⟩
  · have hEB : (E == 0) = false := by rw [beq_eq_false_iff_ne]; exact hE
    rw [if_pos hE]
    go_enter Try.func22, Try.ntmps22
    go_wp2_with (first
      | (refine load_boxI ?hw 36 _ rfl w.heap.size 36 (stC seq v) _ rfl hbS.out Try.underlying36 rfl infoSt ?_; (case hw => first | rfl | simp [Region.wanted, yielded]))
      | (go_at_call 47; (with_reducible refine hL.out.mono ?_); rintro e w1 ⟨u1, rfl, ⟨HN1, hf1⟩, HB1⟩))
    go_ret2
    exact ⟨_, rfl, im_nil _ _, bel_trans hB0.out HB1⟩
def TwoInt (w : World) (R : Int × Int) (e : Ending) (w' : World) : Prop := e = .returned (.tuple #[.int .i64 R.1, .int .i64 R.2]) ∧ Below w.heap.size w w'
set_option maxHeartbeats 1000000 in
theorem Size_any (seq : Int) (v : Value) (l : List RowT) (w : World) (HR : RdR w v l) :
    Calls Try.prog 23 #[.agg (stC seq v)] w (TwoInt w (sizA seq l)) := by
  have hbS := hd_ (Box.new w (stC seq v) 36)
  have hB0 := hd_ (al1 (Below.refl w.heap.size w) (.cells (stC seq v) 36))
  have hL := hd_ (laid_any seq v l _ (HR.keep hB0.out))
  have hll := laid_len seq l
  unfold sizA
  obtain ⟨E, M, hEM⟩ : ∃ E M, laidA seq l = (E, M) := ⟨_, _, rfl⟩
  rw [hEM] at hL hll ⊢
  simp only at hll ⊢
  have hL := hd_ (show Calls Try.prog 47 #[.agg (stC seq v)] (w.alloc (.cells (stC seq v) 36)) (fun e w' => ∃ u, e = .returned (.tuple #[u, .int .i64 E]) ∧ (OwnN w' u M ∧ ∀ k, u.ownBlock = some k → (w.alloc (.cells (stC seq v) 36)).heap.size ≤ k) ∧ Below (w.alloc (.cells (stC seq v) 36)).heap.size (w.alloc (.cells (stC seq v) 36)) w') from hL.out)
  have ha := wrap_a4 M.length hll
  clear hEM HR hll
  by_cases hE : E = 0
  · subst hE
    rw [if_neg (by simp)]
    go_enter Try.func23, Try.ntmps23
    go_wp2_with (first
      | (refine load_boxI ?hw 36 _ rfl w.heap.size 36 (stC seq v) _ rfl hbS.out Try.underlying36 rfl infoSt ?_; (case hw => first | rfl | simp [Region.wanted, yielded]))
      | (go_at_call 47; (with_reducible refine hL.out.mono ?_); rintro e w1 ⟨u1, rfl, ⟨HN1, hf1⟩, HB1⟩; have hl1 := HN1.rd.2.len (P := Try.prog) 22 5 3 Try.underlying22))
    go_ret2
    exact ⟨by first | rfl | (simp only [ha]; rfl), bel_trans hB0.out HB1⟩
  · have hEB : (E == 0) = false := by rw [beq_eq_false_iff_ne]; exact hE
    rw [if_pos hE]
    go_enter Try.func23, Try.ntmps23
    go_wp2_with (first
      | (refine load_boxI ?hw 36 _ rfl w.heap.size 36 (stC seq v) _ rfl hbS.out Try.underlying36 rfl infoSt ?_; (case hw => first | rfl | simp [Region.wanted, yielded]))
      | (go_at_call 47; (with_reducible refine hL.out.mono ?_); rintro e w1 ⟨u1, rfl, ⟨HN1, hf1⟩, HB1⟩))
    go_ret2
    exact ⟨rfl, bel_trans hB0.out HB1⟩
theorem sizA_err (seq : Int) (l : List RowT) : (sizA seq l).2 = (laidA seq l).1 := by
  unfold sizA
  by_cases h : (laidA seq l).1 = 0
  · rw [if_neg (fun h2 => h2 h), h]
  · rw [if_pos h]
theorem encA_err (seq : Int) (l : List RowT) : (encA seq l).1 = (laidA seq l).1 := by
  unfold encA
  by_cases h : (laidA seq l).1 = 0
  · rw [if_neg (fun h2 => h2 h), h]
  · rw [if_pos h]
theorem laid_err (seq : Int) (l : List RowT) : (laidA seq l).1 = chkA seq l := by
  rw [laid_chk]
  by_cases h : chkA seq l = 0
  · rw [if_neg (fun h2 => h2 h), h]
  · rw [if_pos h]
set_option maxHeartbeats 1000000 in
theorem ICheck_any (seq : Int) (v : Value) (l : List RowT) (w : World) (HR : RdR w v l) :
    Calls Try.prog 24 #[.agg (stC seq v)] w fun e w' => e = .returned (.int .i64 (chkA seq l)) ∧ Below w.heap.size w w' := by
  have hbS := hd_ (Box.new w (stC seq v) 36)
  have hB0 := hd_ (al1 (Below.refl w.heap.size w) (.cells (stC seq v) 36))
  have hL := hd_ (Size_any seq v l _ (HR.keep hB0.out))
  rw [← laid_err, ← sizA_err]
  generalize sizA seq l = R at *
  clear HR
  go_enter Try.func24, Try.ntmps24
  go_wp2_with (first
    | (refine load_boxI ?hw 36 _ rfl w.heap.size 36 (stC seq v) _ rfl hbS.out Try.underlying36 rfl infoSt ?_; (case hw => first | rfl | simp [Region.wanted, yielded]))
    | (go_at_call 23; (with_reducible refine hL.out.mono ?_); rintro e w1 ⟨rfl, HB1⟩))
  go_ret
  exact ⟨rfl, bel_trans hB0.out HB1⟩
end Go.Proofs.Ytdmogbkfmeihfaa
