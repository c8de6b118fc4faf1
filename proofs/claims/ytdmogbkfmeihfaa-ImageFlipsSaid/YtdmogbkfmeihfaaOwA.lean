/- Lists of one's own, written over and grown: over any program. -/
import Derived.Test.YtdmogbkfmeihfaaCpA
namespace Go.Proofs.Ytdmogbkfmeihfaa
open Go.RowKit
set_option maxRecDepth 100000
set_option linter.unusedVariables false
theorem cell_put (W : World) (g j i : Nat) (u : Value) (hj : (W.cell? ⟨g, j, none⟩).isSome = true) : (W.setCell ⟨g, j, none⟩ u).cell? ⟨g, i, none⟩ = if i = j then some u else W.cell? ⟨g, i, none⟩ := by
  by_cases h : i = j
  · subst h
    obtain ⟨x, hx⟩ := Option.isSome_iff_exists.1 hj
    rw [if_pos rfl, World.cell?_setCell_same _ _ _ hx]
  · rw [if_neg h, World.cell?_setCell_other _ _ _ _ (fun e => by injection e with _ e; exact h e.symm)]
theorem frozen_put (W : World) (g j i : Nat) (u : Value) : (W.setCell ⟨g, j, none⟩ u).frozen? ⟨g, i, none⟩ = W.frozen? ⟨g, i, none⟩ := World.frozen?_setCells g [u] j W ⟨g, i, none⟩
theorem chg_put (W : World) (g j : Nat) (u : Value) : Chg (fun k => k = g) W (W.setCell ⟨g, j, none⟩ u) := chg_setCells g [u] j W
theorem OwnF.put {W : World} {base g n cap : Nat} {xs : List Int} (h : OwnF W base (.slice (some ⟨g, 0, none⟩) n cap) xs) (j : Nat) (hj : j < xs.length) (b : Int) (h0 : 0 ≤ b) (h1 : b < 256) :
    OwnF (W.setCell ⟨g, j, none⟩ (.int .u8 b)) base (.slice (some ⟨g, 0, none⟩) n cap) (xs.set j b) := by
  obtain ⟨hb, g', cap', hv, k1, k2, k3, k4, k5, k6, k7⟩ := h
  injection hv with e1 e2 e3
  injection e1 with e1
  injection e1 with e1
  subst e1; subst e3; subst e2
  have hc := chg_put W g j (.int .u8 b)
  refine ⟨?_, g, cap, by rw [List.length_set], k1, Nat.lt_of_lt_of_le k2 hc.size, by rw [List.length_set]; exact k3, k4, fun i hi => ?_, fun i hi => ?_, fun i hi => ?_⟩
  · intro x hx
    rcases List.mem_or_eq_of_mem_set hx with h3 | h3
    · exact hb x h3
    · subst h3; exact ⟨h0, h1⟩
  · rw [List.length_set] at hi
    rw [cell_put W g j i _ (k6 j (by omega))]
    by_cases e : i = j
    · subst e
      rw [if_pos rfl, List.getD_eq_getElem?_getD, List.getElem?_set_self hi]
      rfl
    · rw [if_neg e, k5 i hi, List.getD_eq_getElem?_getD, List.getD_eq_getElem?_getD, List.getElem?_set_ne (fun h => e h.symm)]
  · rw [cell_put W g j i _ (k6 j (by omega))]
    split
    · rfl
    · exact k6 i hi
  · rw [frozen_put]; exact k7 i hi
/-- append onto such a row: in place, or into a new one -/
theorem run_appG {P : Program} {W : World} (t ty e : TypeId) (ht : P.underlying t = some (.slice e)) (hinfo : (P.info? e).map (fun i => (i.zero, i.size, i.bytes)) = some (some (.int .u8 0), 1, 1))
    {v y : Value} {xs ys : List Int} (HO : OwnN W v xs) (HR : Rd W y ys) (hl : xs.length + ys.length ≤ 140737488355328) :
    ∃ v1 w1, (Builtin.append_ #[t, t] ty #[v, y]).run P W = .ok v1 w1 ∧ OwnN w1 v1 (xs ++ ys) ∧ ((v1.ownBlock = v.ownBlock ∧ Chg (fun k => v.ownBlock = some k) W w1) ∨ ((∀ k, v1.ownBlock = some k → W.heap.size ≤ k) ∧ Below W.heap.size W w1)) := by
  rcases HO with ⟨rfl, rfl⟩ | HO
  · obtain ⟨v1, w1, hr, h2, h3, h5⟩ := run_app (P := P) W.heap.size t ty e (.int .u8 0) 1 1 ht hinfo rfl (by omega) (World.ownsRow_nil W W.heap.size e 1) HR.2 (nums8_one ys) (Nat.le_refl _) (by omega) (by simp at hl; omega)
    have hO : Own w1 W.heap.size e v1 ys := ⟨HR.1, by simpa using h2⟩
    refine ⟨v1, w1, hr, ?_, .inr ⟨fun k hk => (h2.lt k hk).1, ((Chg.of h3).mono (S' := fun _ => False) (fun b _ e => by cases e)).to_below (fun b h => h.elim) (Nat.le_refl _)⟩⟩
    rw [List.nil_append]
    by_cases hv : v1 = .slice none 0 0
    · subst hv
      obtain ⟨A, c, he, _⟩ := hO.rd.form
      injection he with _ e2 _
      exact .inl ⟨rfl, List.eq_nil_of_length_eq_zero e2.symm⟩
    · exact .inr ((hO.toF hv).low (Nat.zero_le _))
  · obtain ⟨v1, w1, hr, h2, h3, h5⟩ := run_appF (P := P) 0 t ty e ht hinfo HO HR (Nat.zero_le _) hl
    refine ⟨v1, w1, hr, .inr h2, ?_⟩
    rcases h5 with h5 | h5
    · exact .inl ⟨h5, h3⟩
    · obtain ⟨i0, hi, hz0, hz1, hz2⟩ := info_parts hinfo
      have hb0 : (∀ k, v1.ownBlock = some k → W.heap.size ≤ k) := h5
      refine .inr ⟨h5, ?_⟩
      -- a new row leaves all that was there
      obtain ⟨hb, g, cap, rfl, k1, k2, k3, k4, k5, k6, k7⟩ := HO
      obtain ⟨hby, hlen, A, capy, rfl, hc1, hc2, hc3, hc4⟩ := HR
      rw [nums8_length, Nat.mul_one] at hlen
      obtain ⟨_, g2, cap2, hv2, _, hg2, _⟩ := h2
      have hge := h5 g2 (by rw [hv2]; rfl)
      cases A with
      | none =>
        have hcap := hc3 rfl
        subst hcap
        obtain rfl : ys = [] := List.eq_nil_of_length_eq_zero (by omega)
        have hr2 : (Builtin.append_ #[t, t] ty #[.slice (some ⟨g, 0, none⟩) xs.length cap, .slice none 0 0]).run P W = .ok (.slice (some ⟨g, 0, none⟩) xs.length cap) W := by
          simp [Builtin.append_, run_underlying ht, sizeOf, typeInfo, hi, Builtin.lenOf, Builtin.firstCells, k3, storeCells]
        have := hr.symm.trans hr2
        injection this with e1 e2
        subst e2
        exact Below.refl _ _
      | some ad =>
        have hcells : ∀ j u, (nums8 ys)[j]? = some u → W.cell? (ad.add j) = some u := by
          intro j u hu
          have hj := (List.getElem?_eq_some_iff.1 hu).1
          obtain ⟨b, off, ha, hc⟩ := hc4 j hj
          injection ha with ha
          subst ha
          rw [Addr.add_lit, hc, hu]
        by_cases hroom : xs.length + ys.length ≤ cap
        · have hr2 := run_append_room_cells (P := P) W t ty e i0 ht hi g 0 xs.length cap ad ys.length capy (nums8 ys) (by rw [nums8_length, hz1, Nat.mul_one]) hcells (nums8_one ys) hroom
            (fun j hj => by rw [nums8_length] at hj; rw [hz1]; exact k6 _ (by omega)) (fun j hj => by rw [nums8_length] at hj; rw [hz1]; exact k7 _ (by omega))
          have := hr.symm.trans hr2
          injection this with e1 e2
          rw [hv2] at e1
          injection e1 with e1
          injection e1 with e1
          injection e1 with e1
          omega
        · obtain ⟨v', w', hr2, ho, hg⟩ := run_append_arg_grows (P := P) W t ty e i0 (.int .u8 0) 1 1 ht hi hz0 hz1 hz2 rfl (by omega) ⟨g, 0, none⟩ xs.length cap (nums8 xs) (by rw [nums8_length, Nat.mul_one])
            (fun j u hu => by
              have hj := (List.getElem?_eq_some_iff.1 hu).1
              rw [nums8_length] at hj
              rw [Addr.add_lit, Nat.zero_add, k5 j hj, ← hu, nums8_get xs j hj])
            ad ys.length capy (nums8 ys) (by rw [nums8_length, Nat.mul_one]) hcells (by omega) (by simp only [maxLen]; omega) (by omega)
          have := hr.symm.trans hr2
          injection this with e1 e2
          subst e2
          exact ((Chg.of hg).mono (S' := fun _ => False) (fun b _ e => by cases e)).to_below (fun b h => h.elim) (Nat.le_refl _)
/-- append onto what has no room left: a new row -/
theorem run_app_full {P : Program} {W : World} (t ty e : TypeId) (ht : P.underlying t = some (.slice e)) (hinfo : (P.info? e).map (fun i => (i.zero, i.size, i.bytes)) = some (some (.int .u8 0), 1, 1))
    {A : Option Addr} {n : Nat} {y : Value} {xs ys : List Int} (HX : Rd W (.slice A n n) xs) (HR : Rd W y ys) (hy : ys ≠ []) (hl : xs.length + ys.length ≤ 140737488355328) :
    ∃ v1 w1, (Builtin.append_ #[t, t] ty #[.slice A n n, y]).run P W = .ok v1 w1 ∧ OwnN w1 v1 (xs ++ ys) ∧ (∀ k, v1.ownBlock = some k → W.heap.size ≤ k) ∧ Below W.heap.size W w1 := by
  have hy1 : 0 < ys.length := List.length_pos_iff.2 hy
  cases A with
  | none =>
    obtain ⟨A, c, he, h1, h2, h3, _⟩ := HX.form
    injection he with e1 e2 e3
    have hc := h3 e1.symm
    obtain rfl : xs = [] := List.eq_nil_of_length_eq_zero (by omega)
    have hn0 : n = 0 := by simpa using e2
    subst hn0
    obtain ⟨v1, w1, hr, k1, k2⟩ := run_appG (P := P) (W := W) t ty e ht hinfo (v := .slice none 0 0) (xs := []) (OwnN.nil W) HR hl
    refine ⟨v1, w1, hr, k1, ?_⟩
    rcases k2 with ⟨k2, k3⟩ | k2
    · exact ⟨fun k hk => absurd (k2.symm.trans hk) (by simp [Value.ownBlock]), (k3.mono (S' := fun _ => False) (fun b _ e => by cases e)).to_below (fun b h => h.elim) (Nat.le_refl _)⟩
    · exact k2
  | some ad0 =>
    obtain ⟨i0, hi, hz0, hz1, hz2⟩ := info_parts hinfo
    obtain ⟨hbx, hlx, Ax, capx, hvx, q1, q2, q3, q4⟩ := HX
    obtain ⟨hby, hlen, A, capy, rfl, hc1, hc2, hc3, hc4⟩ := HR
    injection hvx with e1 e2 e3
    subst e1; subst e3
    rw [nums8_length, Nat.mul_one] at hlen hlx
    cases A with
    | none => have := hc3 rfl; omega
    | some ad =>
      have hcells : ∀ j u, (nums8 ys)[j]? = some u → W.cell? (ad.add j) = some u := by
        intro j u hu
        have hj := (List.getElem?_eq_some_iff.1 hu).1
        obtain ⟨b, off, ha, hc⟩ := hc4 j hj
        injection ha with ha
        subst ha
        rw [Addr.add_lit, hc, hu]
      have hcellx : ∀ j u, (nums8 xs)[j]? = some u → W.cell? (ad0.add j) = some u := by
        intro j u hu
        have hj := (List.getElem?_eq_some_iff.1 hu).1
        obtain ⟨b, off, ha, hc⟩ := q4 j hj
        injection ha with ha
        subst ha
        rw [Addr.add_lit, hc, hu]
      have hn : n = xs.length := e2
      subst hn
      obtain ⟨v', w', hr2, ho, hg⟩ := run_append_arg_grows (P := P) W t ty e i0 (.int .u8 0) 1 1 ht hi hz0 hz1 hz2 rfl (by omega) ad0 xs.length xs.length (nums8 xs) (by rw [nums8_length, Nat.mul_one]) hcellx
        ad ys.length capy (nums8 ys) (by rw [nums8_length, Nat.mul_one]) hcells (by omega) (by simp only [maxLen]; omega) (by omega)
      have hO : Own w' W.heap.size e v' (xs ++ ys) := ⟨bytes_append hbx hby, by rw [nums8_append, List.length_append]; exact ho⟩
      have hv : v' ≠ .slice none 0 0 := fun e => by
        obtain ⟨A, c, hv, h8, _⟩ := hO.rd.form
        rw [e] at hv
        injection hv with _ e2 _
        rw [List.length_append] at e2
        omega
      have hF := (hO.toF hv)
      exact ⟨v', w', hr2, .inr (hF.low (Nat.zero_le _)), fun k hk => (hF.lt k hk).1, ((Chg.of hg).mono (S' := fun _ => False) (fun b _ e => by cases e)).to_below (fun b h => h.elim) (Nat.le_refl _)⟩
/-- a row of one-cell values, by cells -/
structure CRow (W : World) (g n : Nat) (gs : Nat → Value) : Prop where
  lt : g < W.heap.size
  cell : ∀ j, j < n → W.cell? ⟨g, j, none⟩ = some (gs j)
  free : ∀ j, j < n → W.frozen? ⟨g, j, none⟩ = false
theorem CRow.chg {S : Nat → Prop} {w w1 : World} {g n : Nat} {gs : Nat → Value} (h : CRow w g n gs) (hc : Chg S w w1) (hn : ¬ S g) : CRow w1 g n gs := by
  have hg := hc.block g h.lt hn
  exact ⟨Nat.lt_of_lt_of_le h.lt hc.size, fun j hj => by rw [World.cell?_of_block (w := w) (a := ⟨g, j, none⟩) hg]; exact h.cell j hj, fun j hj => by rw [World.frozen?_of_block (w := w) (a := ⟨g, j, none⟩) hg]; exact h.free j hj⟩
theorem CRow.keep {w w1 : World} {g n : Nat} {gs : Nat → Value} (h : CRow w g n gs) (hb : Below w.heap.size w w1) : CRow w1 g n gs := h.chg (Chg.below (S := fun _ => False) hb) (fun h => h)
def upd (f : Nat → Value) (i : Nat) (v : Value) : Nat → Value := fun j => if j = i then v else f j
def updL (f : Nat → List Int) (i : Nat) (v : List Int) : Nat → List Int := fun j => if j = i then v else f j
theorem upd_self (f : Nat → Value) (i : Nat) (v : Value) : upd f i v i = v := if_pos rfl
theorem upd_ne (f : Nat → Value) (i j : Nat) (v : Value) (h : j ≠ i) : upd f i v j = f j := if_neg h
theorem updL_self (f : Nat → List Int) (i : Nat) (v : List Int) : updL f i v i = v := if_pos rfl
theorem updL_ne (f : Nat → List Int) (i j : Nat) (v : List Int) (h : j ≠ i) : updL f i v j = f j := if_neg h
theorem CRow.put {w : World} {g n : Nat} {gs : Nat → Value} (h : CRow w g n gs) (i : Nat) (hi : i < n) (u : Value) : CRow (w.setCell ⟨g, i, none⟩ u) g n (upd gs i u) := by
  have hs : (w.cell? ⟨g, i, none⟩).isSome = true := by rw [h.cell i hi]; rfl
  refine ⟨Nat.lt_of_lt_of_le h.lt (chg_put w g i u).size, fun j hj => ?_, fun j hj => by rw [frozen_put]; exact h.free j hj⟩
  rw [cell_put w g i j u hs]
  unfold upd
  split
  · rfl
  · exact h.cell j hj
end Go.Proofs.Ytdmogbkfmeihfaa
