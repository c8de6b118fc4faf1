/- The law ImageOne. -/
import Derived.Test.YtdmogbkfmeihfaaIdM
namespace Go.Proofs.Ytdmogbkfmeihfaa
open Go.RowKit
set_option maxRecDepth 100000
set_option linter.unusedVariables false
theorem dec_zero {B : List Int} (hB : IsBytes B) {s : Int} {l : List RowT} (h : decA B = (0, s, l)) : encA s l = (0, B) ∧ chkA s l = 0 ∧ l.length ≤ B.length / 4 := by
  unfold decA at h
  by_cases h1 : 268435456 < B.length
  · rw [if_pos h1] at h; injection h with h; cases h
  rw [if_neg h1] at h
  by_cases h2 : B.length < 10 ∨ B.take 4 ≠ hwi
  · rw [if_pos h2] at h; injection h with h; cases h
  rw [if_neg h2] at h
  cases h3 : holdsB B with
  | false => rw [h3, if_pos rfl] at h; injection h with h; cases h
  | true =>
    rw [h3, if_neg (by simp)] at h
    cases h4 : readA ((B.take (B.length - 4)).drop 4) with
    | none => rw [h4] at h; simp only at h; injection h with h; cases h
    | some x =>
      obtain ⟨s', l'⟩ := x
      rw [h4] at h
      simp only at h
      injection h with _ h
      injection h with e1 e2
      subst e1; subst e2
      have hten : ¬ B.length < 10 := fun h => h2 (.inl h)
      have hm : B.take 4 = hwi := Classical.byContradiction fun h => h2 (.inr h)
      have hlen : ((B.take (B.length - 4)).drop 4).length = B.length - 8 := by rw [List.length_drop, List.length_take]; omega
      obtain ⟨k1, k2, k3, _⟩ := read_enc _ (bytes_drop (bytes_take hB _) 4) (by rw [hlen]; omega) _ _ h4
      have e : hwi ++ (B.take (B.length - 4)).drop 4 = B.take (B.length - 4) := by
        have := List.take_append_drop 4 (B.take (B.length - 4))
        rw [List.take_take, Nat.min_eq_left (by omega), hm] at this
        exact this
      refine ⟨?_, k1, by rw [hlen] at k3; omega⟩
      unfold encA
      rw [laid_chk, if_neg (show ¬ chkA s' l' ≠ 0 from fun h => h k1)]
      show ((0 : Int), sealB (hdI s' l' ++ allR l')) = (0, B)
      rw [k2, e]
      unfold holdsB at h3
      rw [Bool.and_eq_true] at h3
      unfold sealB
      rw [of_decide_eq_true h3.2, List.take_append_drop]
theorem dec_bad {B : List Int} {E s : Int} {l : List RowT} (h : decA B = (E, s, l)) (hE : E ≠ 0) : s = 0 ∧ l = [] := by
  unfold decA at h
  split at h
  · injection h with _ h; injection h with h1 h2; exact ⟨h1.symm, h2.symm⟩
  split at h
  · injection h with _ h; injection h with h1 h2; exact ⟨h1.symm, h2.symm⟩
  split at h
  · injection h with _ h; injection h with h1 h2; exact ⟨h1.symm, h2.symm⟩
  split at h
  · injection h with _ h; injection h with h1 h2; exact ⟨h1.symm, h2.symm⟩
  · injection h with h _; exact absurd h.symm hE
set_option maxHeartbeats 8000000 in
theorem law_ImageOne (w : World) (v : Value) (B : List Int) (HR : Rd w v B) (hl : B.length ≤ 140737488351232) :
    Calls Try.prog 9 #[v] w fun e w' => e = .returned (.bool true) ∧ Below w.heap.size w w' := by
  obtain ⟨R, hR⟩ : ∃ R, R = decA B := ⟨_, rfl⟩
  have hP : Hid (∀ W u, Rd W u B → Calls Try.prog 30 #[u] W (DecRet W (decA B))) := hd_ (fun W u h => Decode_any u B W h (by omega))
  rw [← hR] at hP
  obtain ⟨E, s, l⟩ := R
  have hP : Hid (∀ W u, Rd W u B → Calls Try.prog 30 #[u] W (fun e w' => ∃ q, e = .returned (.tuple #[.agg (stC s q), .int .i64 E]) ∧ w'.ownsRow W.heap.size 61 3 q l.length (rowsV l) ∧ Below W.heap.size W w' ∧ l.length ≤ 1048576)) := hP
  have hPc := hd_ (hP.out w v HR)
  have hRH := hd_ HR
  have hlen := HR.2.len (P := Try.prog) 22 5 3 Try.underlying22
  by_cases hE : E = 0
  · subst hE
    obtain ⟨k1, k2, k3⟩ := dec_zero HR.1 hR.symm
    have hEn := hd_ (fun W u (h : RdR W u l) => show Calls Try.prog 22 #[.agg (stC s u)] W (ImRet W (0, B)) from by have := Encode_any s u l W h; rw [k1] at this; exact this)
    have hCk := hd_ (fun W u (h : RdR W u l) => show Calls Try.prog 24 #[.agg (stC s u)] W (fun e w' => e = .returned (.int .i64 0) ∧ Below W.heap.size W w') from by have := ICheck_any s u l W h; rw [k2] at this; exact this)
    have hSm := hd_ (fun W q (h : Rd W v B) (hq : Rd W q B) => show Calls Try.prog 25 #[v, q] W (fun e w' => e = .returned (.bool true) ∧ W = w') from by have := Same_any v q B B W h hq; rw [decide_eq_true rfl] at this; exact this)
    obtain ⟨n4, hn4⟩ : ∃ n, n = B.length / 4 := ⟨_, rfl⟩
    have hq : (B.length : Int).tdiv 4 = (n4 : Int) := by rw [hn4]; rfl
    have hq20 : (l.length : Int) ≤ (n4 : Int) := by rw [hn4]; exact Int.ofNat_le.2 k3
    have hw4 := hd_ (show wrap64 (n4 : Int) = (n4 : Int) from by clear hR hP hPc hRH hlen hEn hCk hSm k1 k2; unfold wrap64; omega)
    have hq2 := hd_ hq20
    clear hq20
    clear HR hl hR hP k1 k2 k3 hn4
    go_enter Try.func9, Try.ntmps9
    go_upto_region 2 with (first
      | (go_at_call 30; (with_reducible refine hPc.out.mono ?_); rintro e w2 ⟨u1, rfl, HO1, HB2, hll⟩; obtain ⟨Au, cu, hu, _⟩ := (rdr_of (l := l) HO1 rfl).form; subst hu)
      | (refine store_box rfl 36 _ _ rfl _ _ _ (stC s (.slice Au l.length cu)) rfl rfl (Box.new _ _ _) infoSt rfl (stC_one _ _ _ _) ?_; intro w3 hb3 hg3))
    have HB3 := below_row (al1 (Below.refl w2.heap.size w2) _) hg3 (Nat.le_refl _) (size_al _ _)
    have hO1 := hd_ (row_keep HO1 HB3)
    have hlen1 := (rdr_of (l := l) HO1 rfl).len
    have HB03 := hd_ (bel_trans HB2 HB3)
    have hb3 := hd_ hb3
    try simp only [Act.put]
    clear HB2 HB3 HO1 hg3 hPc
    generalize Value.slice Au l.length cu = u1 at *
    generalize w2.heap.size = g3 at *
    have hEc := hd_ (hEn.out w3 u1 (rdr_of hO1.out rfl))
    go_upto_region 5 with (first
      | (refine load_boxI ?hw 36 _ rfl g3 36 (stC s u1) _ rfl hb3.out Try.underlying36 rfl infoSt ?_; (case hw => first | rfl | simp [Region.wanted, yielded]))
      | (go_at_call 22; (with_reducible refine hEc.out.mono ?_); rintro e w4 ⟨q4, rfl, ⟨HN4, hf4⟩, HB4⟩))
    have HB04 := hd_ (bel_trans HB03.out HB4)
    have hb4 := hd_ (hb3.out.keep HB4)
    have q1 := hb4.out.cell 1 (v := u1) rfl
    have hSc := hd_ (hSm.out w4 q4 (hRH.out.keep HB04.out) HN4.rd)
    have hCc := hd_ (hCk.out w4 u1 ((rdr_of hO1.out rfl).keep HB4))
    have hB4H := hd_ HB4
    clear HB4 hEc HN4 hf4 hEn hCk hSm
    go_wp2_with (first
      | (go_at_call 25; (with_reducible refine hSc.out.mono ?_); rintro e wz ⟨rfl, rfl⟩)
      | (refine load_boxI ?hw 36 _ rfl g3 36 (stC s u1) _ rfl hb4.out Try.underlying36 rfl infoSt ?_; (case hw => first | rfl | simp [Region.wanted, yielded]))
      | (go_at_call 24; (with_reducible refine hCc.out.mono ?_); rintro e w5 ⟨rfl, HB5⟩; have q2 := cell_keep HB5 q1))
    go_ret
    refine ⟨?_, bel_trans HB04.out HB5⟩
    show Ending.returned (.bool (decide ((l.length : Int) ≤ wrap64 (n4 : Int)))) = _
    rw [hw4.out, decide_eq_true hq2.out]
  · obtain ⟨rfl, rfl⟩ := dec_bad hR.symm hE
    clear HR hl hR hP
    go_enter Try.func9, Try.ntmps9
    go_upto_region 2 with (first
      | (go_at_call 30; (with_reducible refine hPc.out.mono ?_); rintro e w2 ⟨u1, rfl, HO1, HB2, hll⟩; obtain ⟨Au, cu, hu, _⟩ := (rdr_of (l := []) HO1 rfl).form; simp only [List.length_nil] at hu; subst hu)
      | (refine store_box rfl 36 _ _ rfl _ _ _ (stC 0 (.slice Au 0 cu)) rfl rfl (Box.new _ _ _) infoSt rfl (stC_one _ _ _ _) ?_; intro w3 hb3 hg3))
    have HB3 := below_row (al1 (Below.refl w2.heap.size w2) _) hg3 (Nat.le_refl _) (size_al _ _)
    have hlen1 := (rdr_of (l := []) HO1 rfl).len
    have HB03 := hd_ (bel_trans HB2 HB3)
    have q0 := hb3.cell 0 (v := .int .i64 0) rfl
    have q1 := hb3.cell 1 (v := .slice Au 0 cu) rfl
    try simp only [Act.put]
    clear HB2 HB3 HO1 hg3 hPc hb3
    go_wp2_with (go_at_call 19; (with_reducible refine (lives_any _).mono ?_); rintro e w7 ⟨rfl, HB7⟩)
    go_ret
    exact ⟨rfl, bel_trans HB03.out HB7⟩
end Go.Proofs.Ytdmogbkfmeihfaa
