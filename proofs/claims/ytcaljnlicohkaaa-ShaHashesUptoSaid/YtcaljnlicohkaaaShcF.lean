/- The law ShaHashes, two hashers through any calls: merged out of ShcA, ShcB. -/
import Derived.Test.YtcaljnlicohkaaaShcP
namespace Go.Proofs.Ytcaljnlicohkaaa
open Go.RowKit
set_option maxRecDepth 100000
set_option linter.unusedVariables false
/-- a place that is new in W1 -/
def Nw (W W1 : World) (k : Nat) : Prop := W.heap.size ≤ k ∧ k < W1.heap.size
def HsZ (W : World) (g : Nat) (Z : Nat → Prop) (L : List Int) : Prop := ∃ v, Hs W g (wrS beginL L) v (wrR L) (L.length % 18446744073709551616) ∧ Z g ∧ ∀ k, v.ownBlock = some k → Z k
def HrZ (W : World) (g : Nat) (Z : Nat → Prop) (L : List Int) : Prop := ∃ u, HrL W g u L ∧ Z g ∧ ∀ k, u.ownBlock = some k → Z k
section
variable {W W1 : World} {g : Nat} {Z S : Nat → Prop} {L : List Int}
theorem HsZ.l (h : HsZ W g Z L) : HsL W g L := by
  obtain ⟨v, h1, _⟩ := h
  exact ⟨v, h1⟩
theorem HsZ.at (h : HsZ W g Z L) : Z g := by obtain ⟨v, _, h1, _⟩ := h; exact h1
theorem HrZ.at (h : HrZ W g Z L) : Z g := by obtain ⟨v, _, h1, _⟩ := h; exact h1
theorem HsZ.chg (h : HsZ W g Z L) (hc : Chg S W W1) (hn : ∀ k, Z k → ¬ S k) : HsZ W1 g Z L := by
  obtain ⟨v, h1, h2, h3⟩ := h
  exact ⟨v, Hs.chg h1 hc (hn g h2) (fun k e => hn k (h3 k e)), h2, h3⟩
theorem HrZ.chg (h : HrZ W g Z L) (hc : Chg S W W1) (hn : ∀ k, Z k → ¬ S k) : HrZ W1 g Z L := by
  obtain ⟨v, h1, h2, h3⟩ := h
  exact ⟨v, Hr.chg h1 hc (hn g h2) (fun k e => hn k (h3 k e)), h2, h3⟩
theorem HsZ.write (h : HsZ W g Z L) (y : Value) (B : List Int) (HR : Rd W y B) (hB : B.length ≤ 140737488351232) (hy : B ≠ [] → y.ownBlock ≠ some g) :
    Calls Try.prog 22 #[.pointer (some ⟨g, 0, none⟩), y] W fun e w' => e = .returned (.tuple #[]) ∧ HsZ w' g (fun k => Z k ∨ Nw W w' k) (L ++ B) ∧ Chg Z W w' := by
  obtain ⟨v, h, hz, hv⟩ := h
  refine (sha_Write_any g _ v _ _ y B W h (Nat.mod_lt _ (by decide)) (by rw [wrR_length]; omega) HR hB hy).mono ?_
  rintro e w' ⟨rfl, v', h', hc, hf⟩
  refine ⟨rfl, ⟨v', ?_, .inl hz, fun k e => .inr ⟨hf k e, (h'.2.1.2.lt k e).2⟩⟩, hc.mono (fun b _ e => by subst e; exact hz)⟩
  rw [wrS_comp, wrR_comp] at h'
  rw [List.length_append]
  rw [Nat.mod_add_mod] at h'
  exact h'
theorem HrZ.write (h : HrZ W g Z L) (y : Value) (B : List Int) (HR : Rd W y B) (hB : B.length ≤ 140737488351232) (hy : B ≠ [] → ∀ k, y.ownBlock = some k → ¬ Z k) :
    Calls Try.prog 27 #[.pointer (some ⟨g, 0, none⟩), y] W fun e w' => e = .returned (.tuple #[]) ∧ HrZ w' g (fun k => Z k ∨ Nw W w' k) (L ++ B) ∧ Chg Z W w' := by
  obtain ⟨u, h, hz, hv⟩ := h
  refine (h.write y B HR hB (fun hb k e => ⟨fun e2 => hy hb k e (e2 ▸ hz), fun e2 => hy hb k e (hv k e2)⟩)).mono ?_
  rintro e w' ⟨rfl, v', h', hc, ho⟩
  refine ⟨rfl, ⟨v', h', .inl hz, fun k e => ?_⟩, hc.mono (fun b _ e => ?_)⟩
  · rcases ho k e with e2 | e2
    · exact .inl (hv k e2)
    · exact .inr ⟨e2, h'.2.1.lt k e⟩
  · rcases e with e | e
    · rw [e]; exact hz
    · exact hv b e
theorem HsZ.reset (h : HsZ W g Z L) : Calls Try.prog 23 #[.pointer (some ⟨g, 0, none⟩)] W fun e w' => e = .returned (.tuple #[]) ∧ HsZ w' g (fun k => Z k ∨ Nw W w' k) [] ∧ Chg Z W w' := by
  obtain ⟨v, h, hz, hv⟩ := h
  refine (sha_Reset_any g _ v _ _ W h).mono ?_
  rintro e w' ⟨rfl, h', hc⟩
  exact ⟨rfl, ⟨_, h', .inl hz, fun k e => by cases e⟩, hc.mono (fun b _ e => by subst e; exact hz)⟩
theorem hsZ_new (w : World) : Calls Try.prog 20 #[] w fun e w' => ∃ g, e = .returned (.pointer (some ⟨g, 0, none⟩)) ∧ HsZ w' g (Nw w w') [] ∧ Below w.heap.size w w' := by
  refine (sha_New_any w).mono ?_
  rintro e w' ⟨g, rfl, h, hg, hb⟩
  exact ⟨g, rfl, ⟨_, h, ⟨hg, h.1.lt⟩, fun k e => by cases e⟩, hb⟩
theorem hrZ_new (w : World) : Calls Try.prog 26 #[] w fun e w' => ∃ g, e = .returned (.pointer (some ⟨g, 0, none⟩)) ∧ HrZ w' g (Nw w w') [] ∧ Below w.heap.size w w' := by
  refine (HrL.new w).mono ?_
  rintro e w' ⟨g, rfl, h, hg, hb⟩
  exact ⟨g, rfl, ⟨_, h, ⟨hg, h.1.lt⟩, fun k e => by cases e⟩, hb⟩
theorem hsZ_load {w : World} {L : List Int} (y : Value) (HR : Rd w y (savedL L)) (hl : L.length ≤ 1152921504606846976) : Calls Try.prog 31 #[y] w fun e w' => ∃ g, e = .returned (.tuple #[.pointer (some ⟨g, 0, none⟩), .int .i64 0]) ∧ HsZ w' g (Nw w w') L ∧ Below w.heap.size w w' := by
  have hls : loadR (savedL L) = some (wrS beginL L, wrR L, L.length % 18446744073709551616) := load_save (blkN_length rfl L _) _ _ (by rw [Nat.mod_eq_of_lt (by omega)]; exact hl) (by rw [wrR_length]; omega)
  refine (sha_load_yes hls y w HR (by have := savedL_length L; omega)).mono ?_
  rintro e w' ⟨g, v, rfl, hs, hg, hv, hb⟩
  exact ⟨g, rfl, ⟨v, hs, ⟨hg, hs.1.lt⟩, fun k e => ⟨hv k e, (hs.2.1.2.lt k e).2⟩⟩, hb⟩
theorem HrZ.save (h : HrZ W g Z L) (hl : L.length ≤ 1152921504606846976) : Calls Try.prog 30 #[.pointer (some ⟨g, 0, none⟩)] W (RetF W (savedL L)) := by
  obtain ⟨u, h, _⟩ := h
  exact ref_Save_any g _ u _ _ W h (by rw [wrR_length]; omega)
theorem HrZ.sum (h : HrZ W g Z L) : Calls Try.prog 28 #[.pointer (some ⟨g, 0, none⟩)] W fun e w' => e = .returned (.agg (u8A (digL L))) ∧ Below W.heap.size W w' := by
  obtain ⟨u, h, _⟩ := h
  exact h.sum
theorem HrZ.len8 (h : HrZ W g Z L) (hl : L.length ≤ 1152921504606846976) : W.cell? ⟨g, 8, none⟩ = some (.int .i64 (L.length : Int)) := by
  obtain ⟨u, h, _⟩ := h
  exact Hr.len8 h hl
end
def updN (f : Nat → Nat) (i : Nat) (v : Nat) : Nat → Nat := fun j => if j = i then v else f j
def updZ (f : Nat → Nat → Prop) (i : Nat) (Z : Nat → Prop) : Nat → Nat → Prop := fun j => if j = i then Z else f j
def ptrs (G : Nat → Nat) : Array Value := #[.pointer (some ⟨G 0, 0, none⟩), .pointer (some ⟨G 1, 0, none⟩)]
theorem ptrs_set (G : Nat → Nat) (i g : Nat) (hi : i < 2) : (ptrs G).setIfInBounds i (.pointer (some ⟨g, 0, none⟩)) = ptrs (updN G i g) := by
  match i, hi with
  | 0, _ => rfl
  | 1, _ => rfl
theorem ptrs_at (G : Nat → Nat) (i : Nat) (hi : i < 2) : (ptrs G)[i]? = some (.pointer (some ⟨G i, 0, none⟩)) := by
  match i, hi with
  | 0, _ => rfl
  | 1, _ => rfl
structure HH (w W : World) (gh gx : Nat) (G X : Nat → Nat) (Z Y : Nat → Nat → Prop) (L M : Nat → List Int) : Prop where
  h : ∀ i, i < 2 → HsZ W (G i) (Z i) (L i)
  x : ∀ i, i < 2 → HrZ W (X i) (Y i) (M i)
  bh : Box W gh 56 (ptrs G)
  bx : Box W gx 59 (ptrs X)
  low : ∀ i, i < 2 → ∀ k, Z i k ∨ Y i k → w.heap.size ≤ k ∧ k ≠ gh ∧ k ≠ gx ∧ k < W.heap.size
  gg : w.heap.size ≤ gh ∧ w.heap.size ≤ gx ∧ gh ≠ gx
  zz : ∀ i j, i < 2 → j < 2 → i ≠ j → ∀ k, Z i k → ¬ Z j k
  yy : ∀ i j, i < 2 → j < 2 → i ≠ j → ∀ k, Y i k → ¬ Y j k
  zy : ∀ i j, i < 2 → j < 2 → ∀ k, Z i k → ¬ Y j k
  bel : Below w.heap.size w W
section
variable {w W W1 : World} {gh gx : Nat} {G X : Nat → Nat} {Z Y : Nat → Nat → Prop} {L M : Nat → List Int}
/-- what changes lies elsewhere -/
theorem HH.other {S : Nat → Prop} (h : HH w W gh gx G X Z Y L M) (hc : Chg S W W1) (h1 : ∀ k, S k → w.heap.size ≤ k ∧ k ≠ gh ∧ k ≠ gx ∧ ∀ i, i < 2 → ¬ Z i k ∧ ¬ Y i k) : HH w W1 gh gx G X Z Y L M :=
  ⟨fun i hi => (h.h i hi).chg hc (fun k hz hs => ((h1 k hs).2.2.2 i hi).1 hz), fun i hi => (h.x i hi).chg hc (fun k hz hs => ((h1 k hs).2.2.2 i hi).2 hz), h.bh.chg hc (fun hs => (h1 gh hs).2.1 rfl), h.bx.chg hc (fun hs => (h1 gx hs).2.2.1 rfl),
   fun i hi k hk => by obtain ⟨a, b, c, d⟩ := h.low i hi k hk; exact ⟨a, b, c, Nat.lt_of_lt_of_le d hc.size⟩, h.gg, h.zz, h.yy, h.zy, hc.then h.bel (fun k hs => (h1 k hs).1) h.bel.size⟩
theorem HH.keep (h : HH w W gh gx G X Z Y L M) (hb : Below W.heap.size W W1) : HH w W1 gh gx G X Z Y L M := h.other (Chg.below (S := fun _ => False) hb) (fun k hk => hk.elim)
/-- a hasher of the program goes on -/
theorem HH.stepH (h : HH w W gh gx G X Z Y L M) (i : Nat) (hi : i < 2) (L' : List Int) (hn : HsZ W1 (G i) (fun k => Z i k ∨ Nw W W1 k) L') (hc : Chg (Z i) W W1) : HH w W1 gh gx G X (updZ Z i (fun k => Z i k ∨ Nw W W1 k)) Y (updL L i L') M := by
  have hw := h.bel.size
  have hgh := h.bh.lt
  have hgx := h.bx.lt
  refine ⟨fun j hj => ?_, fun j hj => (h.x j hj).chg hc (fun k hz hs => h.zy i j hi hj k hs hz), h.bh.chg hc (fun hs => (h.low i hi gh (.inl hs)).2.1 rfl), h.bx.chg hc (fun hs => (h.low i hi gx (.inl hs)).2.2.1 rfl), fun j hj k hk => ?_, h.gg, fun a b ha hb hab k hk => ?_, h.yy, fun a b ha hb k hk hy => ?_, hc.then h.bel (fun k hs => (h.low i hi k (.inl hs)).1) h.bel.size⟩
  · unfold updZ
    by_cases e : j = i
    · subst e; rw [if_pos rfl, updL_self]; exact hn
    · rw [if_neg e, updL_ne _ _ _ _ e]; exact (h.h j hj).chg hc (fun k hz hs => h.zz j i hj hi e k hz hs)
  · unfold updZ at hk
    by_cases e : j = i
    · rw [if_pos e] at hk
      rcases hk with (hk | hk) | hk
      · obtain ⟨a, b, c, d⟩ := h.low i hi k (.inl hk); exact ⟨a, b, c, Nat.lt_of_lt_of_le d hc.size⟩
      · obtain ⟨k1, k2⟩ := hk; exact ⟨by omega, by omega, by omega, k2⟩
      · obtain ⟨a, b, c, d⟩ := h.low j hj k (.inr hk); exact ⟨a, b, c, Nat.lt_of_lt_of_le d hc.size⟩
    · rw [if_neg e] at hk
      obtain ⟨a, b, c, d⟩ := h.low j hj k hk; exact ⟨a, b, c, Nat.lt_of_lt_of_le d hc.size⟩
  · unfold updZ at hk ⊢
    by_cases ea : a = i
    · rw [if_pos ea] at hk
      rw [if_neg (fun eb => hab (ea.trans eb.symm))]
      rcases hk with hk | hk
      · exact h.zz i b hi hb (fun e => hab (ea.trans e)) k hk
      · intro h2; have := (h.low b hb k (.inl h2)).2.2.2; have := hk.1; omega
    · rw [if_neg ea] at hk
      by_cases eb : b = i
      · rw [if_pos eb]
        rintro (h2 | h2)
        · exact h.zz a i ha hi ea k hk h2
        · have := (h.low a ha k (.inl hk)).2.2.2; have := h2.1; omega
      · rw [if_neg eb]; exact h.zz a b ha hb hab k hk
  · unfold updZ at hk
    by_cases ea : a = i
    · rw [if_pos ea] at hk
      rcases hk with hk | hk
      · exact h.zy i b hi hb k hk hy
      · have := (h.low b hb k (.inr hy)).2.2.2; have := hk.1; omega
    · rw [if_neg ea] at hk
      exact h.zy a b ha hb k hk hy
/-- a hasher of the document goes on -/
theorem HH.stepX (h : HH w W gh gx G X Z Y L M) (i : Nat) (hi : i < 2) (L' : List Int) (hn : HrZ W1 (X i) (fun k => Y i k ∨ Nw W W1 k) L') (hc : Chg (Y i) W W1) : HH w W1 gh gx G X Z (updZ Y i (fun k => Y i k ∨ Nw W W1 k)) L (updL M i L') := by
  have hw := h.bel.size
  have hgh := h.bh.lt
  have hgx := h.bx.lt
  refine ⟨fun j hj => (h.h j hj).chg hc (fun k hz hs => h.zy j i hj hi k hz hs), fun j hj => ?_, h.bh.chg hc (fun hs => (h.low i hi gh (.inr hs)).2.1 rfl), h.bx.chg hc (fun hs => (h.low i hi gx (.inr hs)).2.2.1 rfl), fun j hj k hk => ?_, h.gg, h.zz, fun a b ha hb hab k hk => ?_, fun a b ha hb k hk hy => ?_, hc.then h.bel (fun k hs => (h.low i hi k (.inr hs)).1) h.bel.size⟩
  · unfold updZ
    by_cases e : j = i
    · subst e; rw [if_pos rfl, updL_self]; exact hn
    · rw [if_neg e, updL_ne _ _ _ _ e]; exact (h.x j hj).chg hc (fun k hz hs => h.yy j i hj hi e k hz hs)
  · unfold updZ at hk
    by_cases e : j = i
    · rw [if_pos e] at hk
      rcases hk with hk | hk | hk
      · obtain ⟨a, b, c, d⟩ := h.low j hj k (.inl hk); exact ⟨a, b, c, Nat.lt_of_lt_of_le d hc.size⟩
      · obtain ⟨a, b, c, d⟩ := h.low i hi k (.inr hk); exact ⟨a, b, c, Nat.lt_of_lt_of_le d hc.size⟩
      · obtain ⟨k1, k2⟩ := hk; exact ⟨by omega, by omega, by omega, k2⟩
    · rw [if_neg e] at hk
      obtain ⟨a, b, c, d⟩ := h.low j hj k hk; exact ⟨a, b, c, Nat.lt_of_lt_of_le d hc.size⟩
  · unfold updZ at hk ⊢
    by_cases ea : a = i
    · rw [if_pos ea] at hk
      rw [if_neg (fun eb => hab (ea.trans eb.symm))]
      rcases hk with hk | hk
      · exact h.yy i b hi hb (fun e => hab (ea.trans e)) k hk
      · intro h2; have := (h.low b hb k (.inr h2)).2.2.2; have := hk.1; omega
    · rw [if_neg ea] at hk
      by_cases eb : b = i
      · rw [if_pos eb]
        rintro (h2 | h2)
        · exact h.yy a i ha hi ea k hk h2
        · have := (h.low a ha k (.inr hk)).2.2.2; have := h2.1; omega
      · rw [if_neg eb]; exact h.yy a b ha hb hab k hk
  · unfold updZ at hy
    by_cases eb : b = i
    · rw [if_pos eb] at hy
      rcases hy with hy | hy
      · exact h.zy a i ha hi k hk hy
      · have := (h.low a ha k (.inl hk)).2.2.2; have := hy.1; omega
    · rw [if_neg eb] at hy
      exact h.zy a b ha hb k hk hy
theorem chgS_put (W : World) (g j : Nat) (u : Value) : Chg (fun k => k = g) W (W.setCell ⟨g, j, none⟩ u) := chg_put W g j u
/-- another hasher of the program takes its place -/
theorem HH.newH (h : HH w W gh gx G X Z Y L M) (hb : Below W.heap.size W W1) (i : Nat) (hi : i < 2) (g : Nat) (L' : List Int) (hn : HsZ W1 g (Nw W W1) L') : HH w (W1.setCell ⟨gh, i, none⟩ (.pointer (some ⟨g, 0, none⟩))) gh gx (updN G i g) X (updZ Z i (Nw W W1)) Y (updL L i L') M := by
  have k := h.keep hb
  have hw := h.bel.size
  have hgh := h.bh.lt
  have hgx := h.bx.lt
  have hc := chgS_put W1 gh i (.pointer (some ⟨g, 0, none⟩))
  have hbh := (k.bh.put i (.pointer (some ⟨g, 0, none⟩))).1
  rw [ptrs_set G i g hi] at hbh
  refine ⟨fun j hj => ?_, fun j hj => (k.x j hj).chg hc (fun b hz hs => (k.low j hj b (.inr hz)).2.1 hs), hbh, k.bx.chg hc (fun e => h.gg.2.2 e.symm), fun j hj b hk => ?_, h.gg, fun a b ha hb2 hab c hk => ?_, h.yy, fun a b ha hb2 c hk hy => ?_, hc.then k.bel (fun b hs => by rw [hs]; exact h.gg.1) k.bel.size⟩
  · unfold updZ updN
    by_cases e : j = i
    · subst e; rw [if_pos rfl, if_pos rfl, updL_self]; exact hn.chg hc (fun b hz hs => by have := hz.1; omega)
    · rw [if_neg e, if_neg e, updL_ne _ _ _ _ e]; exact (k.h j hj).chg hc (fun b hz hs => (k.low j hj b (.inl hz)).2.1 hs)
  · unfold updZ at hk
    have hsz := hc.size
    by_cases e : j = i
    · rw [if_pos e] at hk
      rcases hk with hk | hk
      · obtain ⟨k1, k2⟩ := hk; exact ⟨by omega, by omega, by omega, by omega⟩
      · obtain ⟨a, b, c, d⟩ := k.low j hj _ (.inr hk); exact ⟨a, b, c, by omega⟩
    · rw [if_neg e] at hk
      obtain ⟨a, b, c, d⟩ := k.low j hj _ hk; exact ⟨a, b, c, by omega⟩
  · unfold updZ at hk ⊢
    by_cases ea : a = i
    · rw [if_pos ea] at hk
      rw [if_neg (fun eb => hab (ea.trans eb.symm))]
      intro h2; have := (h.low b hb2 c (.inl h2)).2.2.2; have := hk.1; omega
    · rw [if_neg ea] at hk
      by_cases eb : b = i
      · rw [if_pos eb]
        intro h2; have := (h.low a ha c (.inl hk)).2.2.2; have := h2.1; omega
      · rw [if_neg eb]; exact h.zz a b ha hb2 hab c hk
  · unfold updZ at hk
    by_cases ea : a = i
    · rw [if_pos ea] at hk
      have := (h.low b hb2 c (.inr hy)).2.2.2; have := hk.1; omega
    · rw [if_neg ea] at hk
      exact h.zy a b ha hb2 c hk hy
theorem HH.newX (h : HH w W gh gx G X Z Y L M) (hb : Below W.heap.size W W1) (i : Nat) (hi : i < 2) (g : Nat) (L' : List Int) (hn : HrZ W1 g (Nw W W1) L') : HH w (W1.setCell ⟨gx, i, none⟩ (.pointer (some ⟨g, 0, none⟩))) gh gx G (updN X i g) Z (updZ Y i (Nw W W1)) L (updL M i L') := by
  have k := h.keep hb
  have hw := h.bel.size
  have hgh := h.bh.lt
  have hgx := h.bx.lt
  have hc := chgS_put W1 gx i (.pointer (some ⟨g, 0, none⟩))
  have hbx := (k.bx.put i (.pointer (some ⟨g, 0, none⟩))).1
  rw [ptrs_set X i g hi] at hbx
  refine ⟨fun j hj => (k.h j hj).chg hc (fun b hz hs => (k.low j hj b (.inl hz)).2.2.1 hs), fun j hj => ?_, k.bh.chg hc (fun e => h.gg.2.2 e), hbx, fun j hj b hk => ?_, h.gg, h.zz, fun a b ha hb2 hab c hk => ?_, fun a b ha hb2 c hk hy => ?_, hc.then k.bel (fun b hs => by rw [hs]; exact h.gg.2.1) k.bel.size⟩
  · unfold updZ updN
    by_cases e : j = i
    · subst e; rw [if_pos rfl, if_pos rfl, updL_self]; exact hn.chg hc (fun b hz hs => by have := hz.1; omega)
    · rw [if_neg e, if_neg e, updL_ne _ _ _ _ e]; exact (k.x j hj).chg hc (fun b hz hs => (k.low j hj b (.inr hz)).2.2.1 hs)
  · unfold updZ at hk
    have hsz := hc.size
    by_cases e : j = i
    · rw [if_pos e] at hk
      rcases hk with hk | hk
      · obtain ⟨a, b, c, d⟩ := k.low j hj _ (.inl hk); exact ⟨a, b, c, by omega⟩
      · obtain ⟨k1, k2⟩ := hk; exact ⟨by omega, by omega, by omega, by omega⟩
    · rw [if_neg e] at hk
      obtain ⟨a, b, c, d⟩ := k.low j hj _ hk; exact ⟨a, b, c, by omega⟩
  · unfold updZ at hk ⊢
    by_cases ea : a = i
    · rw [if_pos ea] at hk
      rw [if_neg (fun eb => hab (ea.trans eb.symm))]
      intro h2; have := (h.low b hb2 c (.inr h2)).2.2.2; have := hk.1; omega
    · rw [if_neg ea] at hk
      by_cases eb : b = i
      · rw [if_pos eb]
        intro h2; have := (h.low a ha c (.inr hk)).2.2.2; have := h2.1; omega
      · rw [if_neg eb]; exact h.yy a b ha hb2 hab c hk
  · unfold updZ at hy
    by_cases eb : b = i
    · rw [if_pos eb] at hy
      have := (h.low a ha c (.inl hk)).2.2.2; have := hy.1; omega
    · rw [if_neg eb] at hy
      exact h.zy a b ha hb2 c hk hy
theorem HH.ch (h : HH w W gh gx G X Z Y L M) (i : Nat) (hi : i < 2) : W.cell? ⟨gh, i, none⟩ = some (.pointer (some ⟨G i, 0, none⟩)) := h.bh.cell i (ptrs_at G i hi)
theorem HH.cx (h : HH w W gh gx G X Z Y L M) (i : Nat) (hi : i < 2) : W.cell? ⟨gx, i, none⟩ = some (.pointer (some ⟨X i, 0, none⟩)) := h.bx.cell i (ptrs_at X i hi)
end
theorem HH.start {w w1 w2 w2a w3 w4 w5 : World} {g0 g1 x0 x1 : Nat} (h0 : HsZ w1 g0 (Nw w w1) []) (b1 : Below w.heap.size w w1) (h1 : HsZ w2 g1 (Nw w1 w2) []) (b2 : Below w1.heap.size w1 w2)
    (hbh : Box w2a w2.heap.size 56 #[.pointer (some ⟨g0, 0, none⟩), .pointer (some ⟨g1, 0, none⟩)]) (b3 : Below w2.heap.size w2 w2a)
    (k0 : HrZ w3 x0 (Nw w2a w3) []) (b4 : Below w2a.heap.size w2a w3) (k1 : HrZ w4 x1 (Nw w3 w4) []) (b5 : Below w3.heap.size w3 w4)
    (hbx : Box w5 w4.heap.size 59 #[.pointer (some ⟨x0, 0, none⟩), .pointer (some ⟨x1, 0, none⟩)]) (b6 : Below w4.heap.size w4 w5) :
    HH w w5 w2.heap.size w4.heap.size (fun i => if i = 0 then g0 else g1) (fun i => if i = 0 then x0 else x1) (fun i => if i = 0 then Nw w w1 else Nw w1 w2) (fun i => if i = 0 then Nw w2a w3 else Nw w3 w4) (fun _ => []) (fun _ => []) := by
  have n : ∀ (Z : Nat → Prop) k, Z k → ¬ (fun _ => False : Nat → Prop) k := fun _ _ _ h => h
  have C : ∀ {W V : World}, Below W.heap.size W V → Chg (fun _ => False) W V := fun h => Chg.below h
  have s1 := b1.size
  have s2 := b2.size
  have s3 := b3.size
  have s4 := b4.size
  have s5 := b5.size
  have s6 := b6.size
  have t1 := hbh.lt
  have t2 := hbx.lt
  have m36 := bel_trans b5 b6
  have m26 := bel_trans b4 m36
  have m2 := bel_trans b3 m26
  refine ⟨fun i hi => ?_, fun i hi => ?_, hbh.keep m26, hbx, fun i hi k hk => ?_, ⟨by omega, by omega, by omega⟩, fun i j hi hj hij k a b => ?_, fun i j hi hj hij k a b => ?_, fun i j hi hj k a b => ?_, bel_trans b1 (bel_trans b2 m2)⟩
  · match i, hi with
    | 0, _ => exact h0.chg (C (bel_trans b2 m2)) (n _)
    | 1, _ => exact h1.chg (C m2) (n _)
  · match i, hi with
    | 0, _ => exact k0.chg (C m36) (n _)
    | 1, _ => exact k1.chg (C b6) (n _)
  · match i, hi, hk with
    | 0, _, .inl hk => have hk : Nw w w1 k := hk; obtain ⟨p, q⟩ := hk; exact ⟨by omega, by omega, by omega, by omega⟩
    | 0, _, .inr hk => have hk : Nw w2a w3 k := hk; obtain ⟨p, q⟩ := hk; exact ⟨by omega, by omega, by omega, by omega⟩
    | 1, _, .inl hk => have hk : Nw w1 w2 k := hk; obtain ⟨p, q⟩ := hk; exact ⟨by omega, by omega, by omega, by omega⟩
    | 1, _, .inr hk => have hk : Nw w3 w4 k := hk; obtain ⟨p, q⟩ := hk; exact ⟨by omega, by omega, by omega, by omega⟩
  · match i, hi, j, hj, a, b with
    | 0, _, 0, _, _, _ => exact hij rfl
    | 0, _, 1, _, a, b => have a : Nw w w1 k := a; have b : Nw w1 w2 k := b; have := a.2; have := b.1; omega
    | 1, _, 0, _, a, b => have a : Nw w1 w2 k := a; have b : Nw w w1 k := b; have := a.1; have := b.2; omega
    | 1, _, 1, _, _, _ => exact hij rfl
  · match i, hi, j, hj, a, b with
    | 0, _, 0, _, _, _ => exact hij rfl
    | 0, _, 1, _, a, b => have a : Nw w2a w3 k := a; have b : Nw w3 w4 k := b; have := a.2; have := b.1; omega
    | 1, _, 0, _, a, b => have a : Nw w3 w4 k := a; have b : Nw w2a w3 k := b; have := a.1; have := b.2; omega
    | 1, _, 1, _, _, _ => exact hij rfl
  · match i, hi, j, hj, a, b with
    | 0, _, 0, _, a, b => have a : Nw w w1 k := a; have b : Nw w2a w3 k := b; have := a.2; have := b.1; omega
    | 0, _, 1, _, a, b => have a : Nw w w1 k := a; have b : Nw w3 w4 k := b; have := a.2; have := b.1; omega
    | 1, _, 0, _, a, b => have a : Nw w1 w2 k := a; have b : Nw w2a w3 k := b; have := a.2; have := b.1; omega
    | 1, _, 1, _, a, b => have a : Nw w1 w2 k := a; have b : Nw w3 w4 k := b; have := a.2; have := b.1; omega
set_option linter.unusedSimpArgs false
theorem infoOp : (Try.prog.info? 61).map (·.size) = some 3 := by kernel_rfl
theorem infoOps : (Try.prog.info? 61).map (fun i => (i.zero, i.size, i.bytes)) = some (some (.agg #[.int .i64 0, .bool false, .slice none 0 0]), 3, 40) := by kernel_rfl
theorem infoBH : (Try.prog.info? 56).map (·.size) = some 2 := by kernel_rfl
theorem infoBX : (Try.prog.info? 59).map (·.size) = some 2 := by kernel_rfl
theorem op_one (A : Option Addr) (n c : Nat) (x : Int) (y : Bool) : (#[Value.int .i64 x, .bool y, .slice A n c]).all (·.oneCell') = true := by simp [Value.oneCell']
theorem ptr_one (a b : Addr) : (#[Value.pointer (some a), .pointer (some b)]).all (·.oneCell') = true := by simp [Value.oneCell']
abbrev OpT := Int × Bool × List Int × Unit
def ROp := RAnd 0 1 (RInt .i64) (RAnd 1 1 RBool (RAnd 2 1 RBytes RNil))
def opx (x : List OpT) (k : Nat) : OpT := x.getD k (0, false, [], ())
theorem op_at {w : World} {v : Value} {x : List OpT} (h : RSl 3 40 ROp w [v] x) (k : Nat) (hk : k < x.length) :
    ∃ bl off A c, (∀ W', Sem.run Try.prog (Instr.indexAt 55 v (.int .i64 (k : Int))) W' = .ok (.pointer (some ⟨bl, off, none⟩)) W') ∧ w.cell? ⟨bl, off, none⟩ = some (.int .i64 (opx x k).1) ∧ w.cell? ⟨bl, off + 1, none⟩ = some (.bool (opx x k).2.1) ∧ w.cell? ⟨bl, off + 2, none⟩ = some (.slice A (opx x k).2.2.1.length c) ∧ Rd w (.slice A (opx x k).2.2.1.length c) (opx x k).2.2.1 := by
  obtain ⟨v', vs, hv, h1, _, h3⟩ := h
  injection hv with hv
  subst hv
  obtain ⟨bl, off, k1, k2⟩ := h1.at (P := Try.prog) Try.underlying55 infoOps .i64 k hk (by omega)
  obtain ⟨a, ha, hln, hr⟩ := h3 k hk
  have e1 : opx x k = a := by unfold opx; rw [List.getD_eq_getElem?_getD, ha]; rfl
  rw [e1]
  obtain ⟨c, hc⟩ : ∃ c, (vs.drop (k * 3)).take 3 = c := ⟨_, rfl⟩
  rw [hc] at hr hln
  have g : ∀ j, j < 3 → vs[k * 3 + j]? = c[j]? := fun j hj => by rw [← hc, List.getElem?_take_of_lt hj, List.getElem?_drop]
  match c, hln, hr, g with
  | [c0, c1, c2], _, hr, g =>
    obtain ⟨⟨r4, _⟩, r5, ⟨u, r2, r3, _⟩, _⟩ := hr
    unfold RBool at r5
    simp only [List.drop_zero, List.take_succ_cons, List.take_zero, List.drop_succ_cons, List.cons.injEq, and_true] at r2 r4 r5
    obtain ⟨A, cp, hu, _⟩ := r3.form
    rw [hu] at r2 r3
    have p0 := k2 0 (by omega)
    have p1 := k2 1 (by omega)
    have p2 := k2 2 (by omega)
    rw [g 0 (by omega), Nat.add_zero] at p0
    rw [g 1 (by omega)] at p1
    rw [g 2 (by omega)] at p2
    exact ⟨bl, off, A, cp, k1, by rw [p0, r4]; rfl, by rw [p1, r5]; rfl, by rw [p2, r2]; rfl, r3⟩
def restO (x : List OpT) (k : Nat) : Nat := ((x.drop k).map fun a => a.2.2.1.length).sum
theorem restO_step {x : List OpT} {k : Nat} (hk : k < x.length) : restO x k = (opx x k).2.2.1.length + restO x (k + 1) := by
  unfold restO opx
  rw [List.drop_eq_getElem_cons hk, List.map_cons, List.sum_cons, List.getD_eq_getElem?_getD, List.getElem?_eq_getElem hk]
  rfl
theorem restO_le (x : List OpT) : restO x 0 + x.length ≤ (x.map (fun a : OpT => 1 + (1 + (a.2.2.1.length + 1 + 0)) + 1)).sum := by
  unfold restO
  rw [List.drop_zero]
  induction x with
  | nil => exact Nat.le_refl _
  | cons a x ih => simp only [List.map_cons, List.sum_cons, List.length_cons] at ih ⊢; omega
theorem updL_bd {L : Nat → List Int} {i : Nat} {l : List Int} {b : Nat} (h : ∀ j, j < 2 → (L j).length ≤ b) (hl : l.length ≤ b) : ∀ j, j < 2 → (updL L i l j).length ≤ b := fun j hj => by
  unfold updL
  split
  · exact hl
  · exact h j hj
set_option maxHeartbeats 16000000 in
theorem law_ShaHashes (w : World) (v : Value) (x : List OpT) (r : RSl 3 40 ROp w [v] x) (t : (x.map (fun a : OpT => 1 + (1 + (a.2.2.1.length + 1 + 0)) + 1)).sum + 1 ≤ 1048576) :
    Calls Try.prog 9 #[v] w fun e w' => e = .returned (.bool true) ∧ Below w.heap.size w w' := by
  have hrb := restO_le x
  have hxl : x.length ≤ 1048576 := by omega
  have hr0 : Hid (restO x 0 ≤ 1048576) := hd_ (by omega)
  have hlen : ∀ W' : World, Sem.run Try.prog (Builtin.len_ #[55] 3 #[v]) W' = Result.ok (.int .i64 x.length) W' := by
    obtain ⟨v', vs, hv, h1, _, h3⟩ := id r
    injection hv with hv
    subst hv
    exact h1.len (P := Try.prog) 55 61 3 Try.underlying55
  have hR := hd_ r
  clear r t hrb
  go_enter Try.func9, Try.ntmps9
  go_upto_region 2 with (first
    | (go_at_call 20; (with_reducible refine (hsZ_new w).mono ?_); rintro e w1 ⟨g0, rfl, h0, b1⟩; have h0 := hd_ h0; have b1 := hd_ b1)
    | (go_at_call 20; (with_reducible refine (hsZ_new w1).mono ?_); rintro e w2 ⟨g1, rfl, h1, b2⟩; have h1 := hd_ h1; have b2 := hd_ b2))
  have hbh := hd_ (Box.new w2 #[.pointer (some ⟨g0, 0, none⟩), .pointer (some ⟨g1, 0, none⟩)] 56)
  have b3 := hd_ (al1 (Below.refl w2.heap.size w2) (.cells #[.pointer (some ⟨g0, 0, none⟩), .pointer (some ⟨g1, 0, none⟩)] 56))
  generalize w2.alloc (.cells #[.pointer (some ⟨g0, 0, none⟩), .pointer (some ⟨g1, 0, none⟩)] 56) = w2a at *
  go_upto_region 3 with (first
    | (go_at_call 26; (with_reducible refine (hrZ_new w2a).mono ?_); rintro e w3 ⟨x0, rfl, k0, b4⟩; have k0 := hd_ k0; have b4 := hd_ b4)
    | (go_at_call 26; (with_reducible refine (hrZ_new w3).mono ?_); rintro e w4 ⟨x1, rfl, k1, b5⟩; have k1 := hd_ k1; have b5 := hd_ b5))
  have hbx := hd_ (Box.new w4 #[.pointer (some ⟨x0, 0, none⟩), .pointer (some ⟨x1, 0, none⟩)] 59)
  have b6 := hd_ (al1 (Below.refl w4.heap.size w4) (.cells #[.pointer (some ⟨x0, 0, none⟩), .pointer (some ⟨x1, 0, none⟩)] 59))
  generalize w4.alloc (.cells #[.pointer (some ⟨x0, 0, none⟩), .pointer (some ⟨x1, 0, none⟩)] 59) = w5 at *
  have hI0 := hd_ (HH.start h0.out b1.out h1.out b2.out hbh.out b3.out k0.out b4.out k1.out b5.out hbx.out b6.out)
  clear h0 b1 h1 b2 hbh b3 k0 b4 k1 b5 hbx b6
  generalize w2.heap.size = gh at *
  generalize w4.heap.size = gx at *
  have hs0 : Hid (∃ (G X : Nat → Nat) (Z Y : Nat → Nat → Prop) (L : Nat → List Int), HH w w5 gh gx G X Z Y L L ∧ ∀ i, i < 2 → (L i).length ≤ 1048576 - restO x 0) := hd_ ⟨_, _, _, _, _, hI0.out, fun i _ => by simp⟩
  clear hI0
  go_wp2
  go_loopw [23] (fun vi wr => ∃ (k : Nat) (G X : Nat → Nat) (Z Y : Nat → Nat → Prop) (L : Nat → List Int), k ≤ x.length ∧ vi = .int .i64 k ∧ Hid (HH w wr gh gx G X Z Y L L ∧ restO x k ≤ 1048576 ∧ ∀ i, i < 2 → (L i).length ≤ 1048576 - restO x k)) (fun i _ => x.length - (intOf i).toNat)
  case atStart => exact (by obtain ⟨G, X, Z, Y, L, h1, h2⟩ := hs0.out; exact ⟨0, G, X, Z, Y, L, Nat.zero_le _, rfl, hd_ ⟨h1, hr0.out, h2⟩⟩)
  case round =>
    clear hs0 hr0
    obtain ⟨k, G, X, Z, Y, L, hk, rfl, HI⟩ := hrel
    by_cases hlt : k < x.length
    · obtain ⟨bl, off, A, cp, hat, c0w, c1w, c2w, hpw⟩ := op_at hR.out k hlt
      have hrs := restO_step hlt
      have HHw := hd_ HI.out.1
      have hBd := HI.out.2
      rw [hrs] at hBd
      have c0 := cell_keep HHw.out.bel c0w
      have c1 := cell_keep HHw.out.bel c1w
      have c2 := cell_keep HHw.out.bel c2w
      have HHp := hd_ hpw
      have HBd := hd_ hBd
      clear HI hBd hrs c0w c1w c2w hpw
      obtain ⟨p, hp⟩ : ∃ p, (opx x k).2.2.1 = p := ⟨_, rfl⟩
      obtain ⟨cc, hcc⟩ : ∃ cc, (opx x k).1 = cc := ⟨_, rfl⟩
      obtain ⟨ob, hob⟩ : ∃ ob, (opx x k).2.1 = ob := ⟨_, rfl⟩
      obtain ⟨rb, hrb⟩ : ∃ rb, restO x (k + 1) = rb := ⟨_, rfl⟩
      rw [hp] at c2 HHp HBd
      rw [hcc] at c0
      rw [hob] at c1
      rw [hrb] at HBd
      have HRb := hd_ hrb
      clear hp hcc hob hrb
      have hkI : (k : Int) < (x.length : Int) := by omega
      have hals := hd_ (al1 (Below.refl wr.heap.size wr) (.cells #[.int .i64 0, .bool false, .slice none 0 0] 61))
      go_upto_region 6 with (refine store_box rfl 61 _ _ rfl wr.heap.size 61 _ #[.int .i64 cc, .bool ob, .slice A p.length cp] rfl rfl (Box.new _ _ _) infoOp rfl (op_one _ _ _ _ _) ?_; intro w1 hb1 hg1; have HB1 := hd_ (below_row hals.out hg1 (Nat.le_refl _) hals.out.size))
      have hbx1 := hd_ hb1
      have hH1 := hd_ (HHw.out.keep HB1.out)
      have hzt : Hid (∀ i, i < 2 → ∀ k, Z i k ∨ Y i k → k < wr.heap.size) := hd_ (fun i hi k hk => (HHw.out.low i hi k hk).2.2.2)
      have hgt : Hid (gh < wr.heap.size ∧ gx < wr.heap.size ∧ w.heap.size ≤ wr.heap.size ∧ wr.heap.size < w1.heap.size) := hd_ ⟨HHw.out.bh.lt, HHw.out.bx.lt, HHw.out.bel.size, hb1.lt⟩
      have e0 := hb1.cell 0 (v := .int .i64 cc) rfl
      have e1 := hb1.cell 1 (v := .bool ob) rfl
      clear hals hg1 hb1 HHw HB1 c0 c1 c2 hat
      generalize wr.heap.size = gt at *
      cases ob
      · have hi2 : Hid (0 < 2) := hd_ (by decide)
        go_upto_region 10 with fail
        by_cases c0 : cc = 0
        · subst c0
          have e2 := hbx1.out.cell 2 (v := .slice A p.length cp) rfl
          have hq1 := hH1.out.ch 0 hi2.out
          have hpl : Hid (p.length ≤ 140737488351232) := hd_ (by have := HBd.out.1; omega)
          go_upto_region 13 with (first
            | (go_at_call 16; (with_reducible refine (Lend_any (.slice A p.length cp) p w1 (HHp.out.keep hH1.out.bel) hpl.out).mono ?_); rintro e w2 ⟨g1, k1, q1, rfl, HOw, HRq, hqb, HB2⟩; obtain ⟨Aq, cq, hq9, _⟩ := HRq.form; subst hq9; have hH2 := hd_ (hH1.out.keep HB2); have hq2 := hH2.out.ch 0 hi2.out; have hOw := hd_ HOw; have hRq := hd_ HRq; have hqb := hd_ hqb; have hg1 := hd_ (own_lt HOw g1 rfl); have hbx2 := hd_ (hbx1.out.keep HB2); clear HOw HRq HB2)
            | (go_at_call 22; (with_reducible refine ((hH2.out.h 0 hi2.out).write (.slice Aq p.length cq) p hRq.out hpl.out (fun _ e => by rw [hqb.out] at e; injection e with e; have := hzt.out 0 hi2.out _ (.inl (hH2.out.h 0 hi2.out).at); have := hg1.out; have := hgt.out; omega)).mono ?_); rintro e w3 ⟨rfl, hn3, hc3⟩; have hH3 := hd_ (hH2.out.stepH 0 hi2.out _ hn3 hc3); have hOw3 := hd_ (hOw.out.chg hc3 (fun b hb hz => by have hb9 : some g1 = some b := hb; injection hb9 with hb9; have := hzt.out 0 hi2.out _ (.inl hz); have := hg1.out; have := hgt.out; omega)); have hbx3 := hd_ (hbx2.out.chg hc3 (fun hz => by have := hzt.out 0 hi2.out _ (.inl hz); omega)); have hs23 := hd_ hc3.size; clear hn3 hc3))
          have hBd3 := hd_ (Below.refl w3.heap.size w3).drew
          have hH3d := hd_ (hH3.out.keep hBd3.out)
          have hbx3d := hd_ (hbx3.out.keep hBd3.out)
          have hOw3d := hd_ (hOw3.out.keep hBd3.out)
          have hC0 : (fun W : World => W.cell? ⟨gx, 0, none⟩ = some (.pointer (some ⟨X 0, 0, none⟩)) ∧ W.cell? ⟨gt, 2, none⟩ = some (.slice A p.length cp)) w3.drew := ⟨hH3d.out.cx 0 hi2.out, hbx3d.out.cell 2 rfl⟩
          refine region_J [] (fun W : World => W.cell? ⟨gx, 0, none⟩ = some (.pointer (some ⟨X 0, 0, none⟩)) ∧ W.cell? ⟨gt, 2, none⟩ = some (.slice A p.length cp)) rfl ?_
          have hs3d : Hid (w3.drew.heap.size = w3.heap.size) := hd_ rfl
          generalize w3.drew = w3d at *
          refine take_J 0 _ _ (v := ?_) rfl (by kernel_rfl) (by kernel_rfl) (by kernel_rfl) (by kernel_rfl) (fun _ _ _ h => h) rfl hC0 ?_ ?_
          rotate_left
          · intro W hC; go_simp; try with_reducible rfl
          simp only [Act.put, List.setIfInBounds_toArray, List.set_cons_zero, List.set_cons_succ]
          refine take_J 1 _ _ (v := ?_) rfl (by kernel_rfl) (by kernel_rfl) (by kernel_rfl) (by kernel_rfl) (fun _ _ _ h => h) rfl hC0 ?_ ?_
          rotate_left
          · intro W hC; go_simp; try with_reducible rfl
          simp only [Act.put, List.setIfInBounds_toArray, List.set_cons_zero, List.set_cons_succ]
          refine take_J 2 _ _ (v := ?_) rfl (by kernel_rfl) (by kernel_rfl) (by kernel_rfl) (by kernel_rfl) (fun _ _ _ h => h) rfl hC0 ?_ ?_
          rotate_left
          · intro W hC; obtain ⟨z1, z2⟩ := hC; go_simp; try with_reducible rfl
          simp only [Act.put, List.setIfInBounds_toArray, List.set_cons_zero, List.set_cons_succ]
          refine take_J 3 _ _ (v := ?_) rfl (by kernel_rfl) (by kernel_rfl) (by kernel_rfl) (by kernel_rfl) (fun _ _ _ h => h) rfl hC0 ?_ ?_
          rotate_left
          · intro W hC; go_simp; try with_reducible rfl
          simp only [Act.put, List.setIfInBounds_toArray, List.set_cons_zero, List.set_cons_succ]
          refine take_J 4 _ _ (v := ?_) rfl (by kernel_rfl) (by kernel_rfl) (by kernel_rfl) (by kernel_rfl) (fun _ _ _ h => h) rfl hC0 ?_ ?_
          rotate_left
          · intro W hC; obtain ⟨z1, z2⟩ := hC; go_simp; try with_reducible rfl
          simp only [Act.put, List.setIfInBounds_toArray, List.set_cons_zero, List.set_cons_succ]
          refine ready_J 5 _ _ rfl (by kernel_rfl) rfl (fun K hK => ?_)
          go_simp
          with_reducible refine ((hH3d.out.x 0 hi2.out).write (.slice A p.length cp) p (HHp.out.keep hH3d.out.bel) hpl.out (fun hb k e hz => by have := rd_lt HHp.out hb k e; have := (hH3d.out.low 0 hi2.out k (.inr hz)).1; omega)).mono ?_
          rintro e w4 ⟨rfl, hn4, hc4⟩
          have hH4 := hd_ (hH3d.out.stepX 0 hi2.out _ hn4 hc4)
          have hY4 : Hid (∀ k, Y 0 k → k < gt) := hd_ (fun k hk => hzt.out 0 hi2.out k (.inr hk))
          have hbx4 := hd_ (hbx3d.out.chg hc4 (fun hz => by have := hY4.out _ hz; omega))
          have hC1 : (fun W : World => W.cell? ⟨gx, 0, none⟩ = some (.pointer (some ⟨X 0, 0, none⟩)) ∧ W.cell? ⟨gt, 2, none⟩ = some (.slice A p.length cp)) w4 := ⟨hH4.out.cx 0 hi2.out, hbx4.out.cell 2 rfl⟩
          refine hK _ _ (fun _ => hC1) ?_
          clear hK K
          try simp only [Act.put, List.setIfInBounds_toArray, List.set_cons_zero, List.set_cons_succ]
          have hOw4 := hd_ (hOw3d.out.chg hc4 (fun b hb hz => by have hb9 : some g1 = some b := hb; injection hb9 with hb9; have := hY4.out _ hz; have := hg1.out; have := hgt.out; omega))
          have hsz := hd_ (And.intro hs23.out (And.intro hs3d.out hc4.size))
          clear hn4 hc4 hC0 hC1
          refine wpAnyJ_done (by kernel_rfl) ?_ _
          have e24 := hbx4.out.cell 2 (v := .slice A p.length cp) rfl
          obtain ⟨NN, hNN⟩ : ∃ NN, NN = p.length + 9 := ⟨_, rfl⟩
          have hLn := hd_ (show (lendL p).length = NN by rw [lendL_length, hNN])
          have hNl := hd_ (show NN ≤ 140737488351241 by have := hpl.out; omega)
          have hOw4' := hOw4.out
          rw [← hNN] at hOw4'
          have hOw4 := hd_ hOw4'
          have hNI : (p.length : Int) + 9 = (NN : Int) := by omega
          simp only [← hNN]
          try rw [hNI]
          clear hNI hNN hOw4' hH3 hH3d hbx3 hbx3d hOw3 hOw3d hH2 hbx2 hOw hRq
          go_wp2_with ((go_at_call 19; with_reducible refine (Kept_true _ (.slice A p.length cp) p w4 hOw4.out.rd (HHp.out.keep hH4.out.bel) hpl.out).mono ?_); rintro e w5' ⟨rfl, HB5⟩; have hH5 := hd_ (hH4.out.keep HB5); have hOw5 := hd_ (hOw4.out.keep HB5); clear HB5)
          clear hH4 hOw4 hbx4
          go_loopw [57] (fun vi wq => ∃ (j : Nat) (Q : List Int), j ≤ NN ∧ vi = .int .i64 (j : Int) ∧ Q.length = NN ∧ Own wq w1.heap.size 5 (.slice (some ⟨g1, 0, none⟩) NN k1) Q ∧ Chg (fun b => b = g1) w5' wq) (fun vi _ => NN - (intOf vi).toNat)
          case atStart => exact ⟨0, _, Nat.zero_le _, rfl, hLn.out, hOw5.out, Chg.refl _ _⟩
          case round =>
            clear hOw5
            obtain ⟨j, Q, hj, rfl, hQ, HO, hC⟩ := hrel
            by_cases hjl : j < NN
            · have hjI : (j : Int) < (NN : Int) := by omega
              obtain ⟨_, _, hfm, _, _, _, hcf⟩ := HO.rd.form
              obtain ⟨b7, o7, hA7, hc7⟩ := hcf j (by omega)
              injection hfm with e1 e2 e3
              rw [← e1] at hA7
              injection hA7 with hA7
              injection hA7 with e4 e5
              subst e4; subst e5
              rw [Nat.zero_add] at hc7
              have hNb := hNl.out
              have hO2 := HO.2
              rw [hQ] at hO2
              have hf7 := hO2.frozenAt j
              clear hO2
              obtain ⟨p7, g7⟩ := HO.put j 9 (by decide) (by decide)
              have hst := hd_ (And.intro p7 (And.intro (hC.trans (Chg.of g7) (fun b _ (e : some b = some g1) => by injection e)) (show (Q.set j 9).length = NN by rw [List.length_set]; exact hQ)))
              clear p7 g7 HO hC e1 e2 e3 hQ hcf
              go_wp2
              go_roundw
              case rel => exact ⟨j + 1, _, hjl, by go_num, hst.out.2.2, hst.out.1, hst.out.2.1⟩
              case measure => (simp [intOf]; try omega)
            · obtain rfl : j = NN := by omega
              have hH6 := hd_ (hH5.out.other hC (fun b hb => by
                subst hb
                have h1 := hg1.out
                have h2 := hgt.out
                have h3 := hsz.out
                refine ⟨by omega, by omega, by omega, fun i hi => ⟨fun hz => ?_, fun hy => ?_⟩⟩
                · unfold updZ at hz
                  split at hz
                  · rcases hz with hz | hz
                    · have := hzt.out 0 hi2.out _ (.inl hz); omega
                    · have := hz.1; omega
                  · have := hzt.out i hi _ (.inl hz); omega
                · unfold updZ at hy
                  split at hy
                  · rcases hy with hy | hy
                    · have := hzt.out 0 hi2.out _ (.inr hy); omega
                    · have := hy.1; omega
                  · have := hzt.out i hi _ (.inr hy); omega))
              clear HO hC hj hQ hjl
              go_wp2
              go_roundw
              case rel => exact ⟨k + 1, G, X, _, _, _, by omega, by go_num, hd_ ⟨hH6.out, by rw [HRb.out]; have := HBd.out.1; omega, updL_bd (fun j hj => by rw [HRb.out]; have := HBd.out.2 j hj; omega) (by rw [List.length_append, HRb.out]; have := HBd.out.1; have := HBd.out.2 0 hi2.out; omega)⟩⟩
              case measure => (simp [intOf]; try omega)
        by_cases c1 : cc = 1
        · subst c1
          obtain ⟨D, hD⟩ : ∃ D, D = digL (L 0) := ⟨_, rfl⟩
          have hDs : D.length = 32 := by rw [hD, digL_length]
          have heq := eqDg D D hDs hDs
          rw [decide_eq_true rfl] at heq
          have hS1 := hd_ (fun W (h : HsZ W (G 0) (Z 0) (L 0)) => show Calls Try.prog 21 #[.pointer (some ⟨G 0, 0, none⟩)] W fun e w' => e = .returned (.agg (u8A D)) ∧ Below W.heap.size W w' by rw [hD]; exact h.l.sum)
          have hS2 := hd_ (fun W (h : HrZ W (X 0) (Y 0) (L 0)) => show Calls Try.prog 28 #[.pointer (some ⟨X 0, 0, none⟩)] W fun e w' => e = .returned (.agg (u8A D)) ∧ Below W.heap.size W w' by rw [hD]; exact h.sum)
          clear hD hDs
          go_upto_region 22 with fail
          have hHd := hd_ (hH1.out.keep (Below.refl w1.heap.size w1).drew)
          have hC0 : (fun W : World => W.cell? ⟨gh, 0, none⟩ = some (.pointer (some ⟨G 0, 0, none⟩)) ∧ W.cell? ⟨gx, 0, none⟩ = some (.pointer (some ⟨X 0, 0, none⟩))) w1.drew := ⟨hHd.out.ch 0 hi2.out, hHd.out.cx 0 hi2.out⟩
          refine region_J [] (fun W : World => W.cell? ⟨gh, 0, none⟩ = some (.pointer (some ⟨G 0, 0, none⟩)) ∧ W.cell? ⟨gx, 0, none⟩ = some (.pointer (some ⟨X 0, 0, none⟩))) rfl ?_
          generalize w1.drew = wd at *
          refine take_J 0 _ _ (v := ?_) rfl (by kernel_rfl) (by kernel_rfl) (by kernel_rfl) (by kernel_rfl) (fun _ _ _ h => h) rfl hC0 ?_ ?_
          rotate_left
          · intro W hC; go_simp; try with_reducible rfl
          simp only [Act.put, List.setIfInBounds_toArray, List.set_cons_zero, List.set_cons_succ]
          refine take_J 1 _ _ (v := ?_) rfl (by kernel_rfl) (by kernel_rfl) (by kernel_rfl) (by kernel_rfl) (fun _ _ _ h => h) rfl hC0 ?_ ?_
          rotate_left
          · intro W hC; go_simp; try with_reducible rfl
          simp only [Act.put, List.setIfInBounds_toArray, List.set_cons_zero, List.set_cons_succ]
          refine take_J 2 _ _ (v := ?_) rfl (by kernel_rfl) (by kernel_rfl) (by kernel_rfl) (by kernel_rfl) (fun _ _ _ h => h) rfl hC0 ?_ ?_
          rotate_left
          · intro W hC; obtain ⟨z1, z2⟩ := hC; go_simp; try with_reducible rfl
          simp only [Act.put, List.setIfInBounds_toArray, List.set_cons_zero, List.set_cons_succ]
          refine take_J 4 _ _ (v := ?_) rfl (by kernel_rfl) (by kernel_rfl) (by kernel_rfl) (by kernel_rfl) (fun _ _ _ h => h) rfl hC0 ?_ ?_
          rotate_left
          · intro W hC; go_simp; try with_reducible rfl
          simp only [Act.put, List.setIfInBounds_toArray, List.set_cons_zero, List.set_cons_succ]
          refine take_J 5 _ _ (v := ?_) rfl (by kernel_rfl) (by kernel_rfl) (by kernel_rfl) (by kernel_rfl) (fun _ _ _ h => h) rfl hC0 ?_ ?_
          rotate_left
          · intro W hC; go_simp; try with_reducible rfl
          simp only [Act.put, List.setIfInBounds_toArray, List.set_cons_zero, List.set_cons_succ]
          refine take_J 6 _ _ (v := ?_) rfl (by kernel_rfl) (by kernel_rfl) (by kernel_rfl) (by kernel_rfl) (fun _ _ _ h => h) rfl hC0 ?_ ?_
          rotate_left
          · intro W hC; obtain ⟨z1, z2⟩ := hC; go_simp; try with_reducible rfl
          simp only [Act.put, List.setIfInBounds_toArray, List.set_cons_zero, List.set_cons_succ]
          refine ready_J 3 _ _ rfl (by kernel_rfl) rfl (fun K hK => ?_)
          go_simp
          with_reducible refine (hS1.out _ (hHd.out.h 0 hi2.out)).mono ?_
          rintro e w2 ⟨rfl, HBz⟩
          have hHe := hd_ (hHd.out.keep HBz)
          clear HBz
          have hC1 : (fun W : World => W.cell? ⟨gh, 0, none⟩ = some (.pointer (some ⟨G 0, 0, none⟩)) ∧ W.cell? ⟨gx, 0, none⟩ = some (.pointer (some ⟨X 0, 0, none⟩))) w2 := ⟨hHe.out.ch 0 hi2.out, hHe.out.cx 0 hi2.out⟩
          refine hK _ _ (fun _ => hC1) ?_
          clear hK K
          try simp only [Act.put, List.setIfInBounds_toArray, List.set_cons_zero, List.set_cons_succ]
          clear hC0
          have hC0 := hC1
          clear hC1
          refine ready_J 7 _ _ rfl (by kernel_rfl) rfl (fun K hK => ?_)
          go_simp
          with_reducible refine (hS2.out _ (hHe.out.x 0 hi2.out)).mono ?_
          rintro e w3 ⟨rfl, HBz⟩
          have hHf := hd_ (hHe.out.keep HBz)
          clear HBz
          have hC1 : (fun W : World => W.cell? ⟨gh, 0, none⟩ = some (.pointer (some ⟨G 0, 0, none⟩)) ∧ W.cell? ⟨gx, 0, none⟩ = some (.pointer (some ⟨X 0, 0, none⟩))) w3 := ⟨hHf.out.ch 0 hi2.out, hHf.out.cx 0 hi2.out⟩
          refine hK _ _ (fun _ => hC1) ?_
          clear hK K
          try simp only [Act.put, List.setIfInBounds_toArray, List.set_cons_zero, List.set_cons_succ]
          clear hC0
          have hC0 := hC1
          clear hC1
          refine take_J 8 _ _ (v := ?_) rfl (by kernel_rfl) (by kernel_rfl) (by kernel_rfl) (by kernel_rfl) (fun _ _ _ h => h) rfl hC0 ?_ ?_
          rotate_left
          · intro W hC; go_simp; try with_reducible rfl
          simp only [Act.put, List.setIfInBounds_toArray, List.set_cons_zero, List.set_cons_succ]
          refine wpAnyJ_done (by kernel_rfl) ?_ _
          clear hC0
          go_wp2
          go_roundw
          case rel => exact ⟨k + 1, G, X, _, _, L, by omega, by go_num, hd_ ⟨hHf.out, by rw [HRb.out]; have := HBd.out.1; omega, fun j hj => by rw [HRb.out]; have := HBd.out.2 j hj; omega⟩⟩
          case measure => (simp [intOf]; try omega)
        by_cases c2 : cc = 2
        · subst c2
          have hl60 : Hid ((L 0).length ≤ 1048576) := hd_ (by have := HBd.out.2 0 hi2.out; omega)
          go_upto_region 25 with fail
          have hHd := hd_ (hH1.out.keep (Below.refl w1.heap.size w1).drew)
          have hC0 : (fun W : World => (W.cell? ⟨gh, 0, none⟩ = some (.pointer (some ⟨G 0, 0, none⟩)) ∧ W.cell? ⟨gx, 0, none⟩ = some (.pointer (some ⟨X 0, 0, none⟩))) ∧ W.cell? ⟨X 0, 8, none⟩ = some (.int .i64 ((L 0).length : Int))) w1.drew := ⟨⟨hHd.out.ch 0 hi2.out, hHd.out.cx 0 hi2.out⟩, (hHd.out.x 0 hi2.out).len8 (by have := hl60.out; omega)⟩
          refine region_J [] (fun W : World => (W.cell? ⟨gh, 0, none⟩ = some (.pointer (some ⟨G 0, 0, none⟩)) ∧ W.cell? ⟨gx, 0, none⟩ = some (.pointer (some ⟨X 0, 0, none⟩))) ∧ W.cell? ⟨X 0, 8, none⟩ = some (.int .i64 ((L 0).length : Int))) rfl ?_
          generalize w1.drew = wd at *
          refine take_J 0 _ _ (v := ?_) rfl (by kernel_rfl) (by kernel_rfl) (by kernel_rfl) (by kernel_rfl) (fun _ _ _ h => h) rfl hC0 ?_ ?_
          rotate_left
          · intro W hC; go_simp; try with_reducible rfl
          simp only [Act.put, List.setIfInBounds_toArray, List.set_cons_zero, List.set_cons_succ]
          refine take_J 1 _ _ (v := ?_) rfl (by kernel_rfl) (by kernel_rfl) (by kernel_rfl) (by kernel_rfl) (fun _ _ _ h => h) rfl hC0 ?_ ?_
          rotate_left
          · intro W hC; go_simp; try with_reducible rfl
          simp only [Act.put, List.setIfInBounds_toArray, List.set_cons_zero, List.set_cons_succ]
          refine take_J 2 _ _ (v := ?_) rfl (by kernel_rfl) (by kernel_rfl) (by kernel_rfl) (by kernel_rfl) (fun _ _ _ h => h) rfl hC0 ?_ ?_
          rotate_left
          · intro W hC; obtain ⟨⟨z1, z2⟩, z3⟩ := hC; go_simp; try with_reducible rfl
          simp only [Act.put, List.setIfInBounds_toArray, List.set_cons_zero, List.set_cons_succ]
          refine take_J 4 _ _ (v := ?_) rfl (by kernel_rfl) (by kernel_rfl) (by kernel_rfl) (by kernel_rfl) (fun _ _ _ h => h) rfl hC0 ?_ ?_
          rotate_left
          · intro W hC; go_simp; try with_reducible rfl
          simp only [Act.put, List.setIfInBounds_toArray, List.set_cons_zero, List.set_cons_succ]
          refine take_J 5 _ _ (v := ?_) rfl (by kernel_rfl) (by kernel_rfl) (by kernel_rfl) (by kernel_rfl) (fun _ _ _ h => h) rfl hC0 ?_ ?_
          rotate_left
          · intro W hC; go_simp; try with_reducible rfl
          simp only [Act.put, List.setIfInBounds_toArray, List.set_cons_zero, List.set_cons_succ]
          refine take_J 6 _ _ (v := ?_) rfl (by kernel_rfl) (by kernel_rfl) (by kernel_rfl) (by kernel_rfl) (fun _ _ _ h => h) rfl hC0 ?_ ?_
          rotate_left
          · intro W hC; obtain ⟨⟨z1, z2⟩, z3⟩ := hC; go_simp; try with_reducible rfl
          simp only [Act.put, List.setIfInBounds_toArray, List.set_cons_zero, List.set_cons_succ]
          refine take_J 7 _ _ (v := ?_) rfl (by kernel_rfl) (by kernel_rfl) (by kernel_rfl) (by kernel_rfl) (fun _ _ _ h => h) rfl hC0 ?_ ?_
          rotate_left
          · intro W hC; go_simp; try with_reducible rfl
          simp only [Act.put, List.setIfInBounds_toArray, List.set_cons_zero, List.set_cons_succ]
          refine take_J 8 _ _ (v := ?_) rfl (by kernel_rfl) (by kernel_rfl) (by kernel_rfl) (by kernel_rfl) (fun _ _ _ h => h) rfl hC0 ?_ ?_
          rotate_left
          · intro W hC; go_simp; try with_reducible rfl
          simp only [Act.put, List.setIfInBounds_toArray, List.set_cons_zero, List.set_cons_succ]
          refine take_J 9 _ _ (v := ?_) rfl (by kernel_rfl) (by kernel_rfl) (by kernel_rfl) (by kernel_rfl) (fun _ _ _ h => h) rfl hC0 ?_ ?_
          rotate_left
          · intro W hC; obtain ⟨⟨z1, z2⟩, z3⟩ := hC; go_simp; try with_reducible rfl
          simp only [Act.put, List.setIfInBounds_toArray, List.set_cons_zero, List.set_cons_succ]
          refine ready_J 3 _ _ rfl (by kernel_rfl) rfl (fun K hK => ?_)
          go_simp
          with_reducible refine (HsL.len (hHd.out.h 0 hi2.out).l (by have := hl60.out; omega)).mono ?_
          rintro e w2 ⟨rfl, rfl⟩
          refine hK _ _ (fun _ => hC0) ?_
          clear hK K
          try simp only [Act.put, List.setIfInBounds_toArray, List.set_cons_zero, List.set_cons_succ]
          refine take_J 10 _ _ (v := ?_) rfl (by kernel_rfl) (by kernel_rfl) (by kernel_rfl) (by kernel_rfl) (fun _ _ _ h => h) rfl hC0 ?_ ?_
          rotate_left
          · intro W hC; go_simp; try with_reducible rfl
          simp only [Act.put, List.setIfInBounds_toArray, List.set_cons_zero, List.set_cons_succ]
          refine wpAnyJ_done (by kernel_rfl) ?_ _
          clear hC0
          go_wp2
          go_roundw
          case rel => exact ⟨k + 1, G, X, _, _, L, by omega, by go_num, hd_ ⟨hHd.out, by rw [HRb.out]; have := HBd.out.1; omega, fun j hj => by rw [HRb.out]; have := HBd.out.2 j hj; omega⟩⟩
          case measure => (simp [intOf]; try omega)
        by_cases c3 : cc = 3
        · subst c3
          have hq1 := hH1.out.ch 0 hi2.out
          go_wp2_with (first
            | (go_at_call 23; (with_reducible refine (hH1.out.h 0 hi2.out).reset.mono ?_); rintro e w2 ⟨rfl, hn2, hc2⟩; have hH2 := hd_ (hH1.out.stepH 0 hi2.out _ hn2 hc2); clear hn2 hc2)
            | (go_at_call 26; (with_reducible refine (hrZ_new w2).mono ?_); rintro e w3 ⟨xn, rfl, hn3, hb3⟩; have hH3 := hd_ (hH2.out.newX hb3 0 hi2.out xn _ hn3); have q3 := (hH2.out.keep hb3).cx 0 hi2.out; have z3 := (hH2.out.keep hb3).bx.frozen 0; clear hn3 hb3))
          go_roundw
          case rel => exact ⟨k + 1, G, _, _, _, _, by omega, by go_num, hd_ ⟨hH3.out, by rw [HRb.out]; have := HBd.out.1; omega, updL_bd (fun j hj => by rw [HRb.out]; have := HBd.out.2 j hj; omega) (by simp)⟩⟩
          case measure => (simp [intOf]; try omega)
        by_cases c4 : cc = 4
        · subst c4
          have hl60 : Hid ((L 0).length ≤ 1152921504606846976) := hd_ (by have := HBd.out.2 0 hi2.out; omega)
          obtain ⟨V, hV⟩ : ∃ V, V = savedL (L 0) := ⟨_, rfl⟩
          have hVl : Hid (V.length ≤ 120) := hd_ (by rw [hV]; exact savedL_length _)
          have hS1 := hd_ (fun W (h : HsZ W (G 0) (Z 0) (L 0)) => show Calls Try.prog 25 #[.pointer (some ⟨G 0, 0, none⟩)] W (RetF W V) by rw [hV]; exact h.l.save)
          have hS2 := hd_ (fun W (h : HrZ W (X 0) (Y 0) (L 0)) => show Calls Try.prog 30 #[.pointer (some ⟨X 0, 0, none⟩)] W (RetF W V) by rw [hV]; exact h.save hl60.out)
          have hS3 := hd_ (fun W y (h : Rd W y V) => show Calls Try.prog 31 #[y] W fun e w' => ∃ g, e = .returned (.tuple #[.pointer (some ⟨g, 0, none⟩), .int .i64 0]) ∧ HsZ w' g (Nw W w') (L 0) ∧ Below W.heap.size W w' from hsZ_load y (by rw [← hV]; exact h) hl60.out)
          clear hV
          go_upto_region 32 with fail
          have hHd := hd_ (hH1.out.keep (Below.refl w1.heap.size w1).drew)
          have hC0 : (fun W : World => W.cell? ⟨gh, 0, none⟩ = some (.pointer (some ⟨G 0, 0, none⟩)) ∧ W.cell? ⟨gx, 0, none⟩ = some (.pointer (some ⟨X 0, 0, none⟩))) w1.drew := ⟨hHd.out.ch 0 hi2.out, hHd.out.cx 0 hi2.out⟩
          refine region_J [] (fun W : World => W.cell? ⟨gh, 0, none⟩ = some (.pointer (some ⟨G 0, 0, none⟩)) ∧ W.cell? ⟨gx, 0, none⟩ = some (.pointer (some ⟨X 0, 0, none⟩))) rfl ?_
          have hBa := hd_ (Below.refl w1.heap.size w1).drew
          generalize w1.drew = wd at *
          refine take_J 0 _ _ (v := ?_) rfl (by kernel_rfl) (by kernel_rfl) (by kernel_rfl) (by kernel_rfl) (fun _ _ _ h => h) rfl hC0 ?_ ?_
          rotate_left
          · intro W hC; go_simp; try with_reducible rfl
          simp only [Act.put, List.setIfInBounds_toArray, List.set_cons_zero, List.set_cons_succ]
          refine take_J 1 _ _ (v := ?_) rfl (by kernel_rfl) (by kernel_rfl) (by kernel_rfl) (by kernel_rfl) (fun _ _ _ h => h) rfl hC0 ?_ ?_
          rotate_left
          · intro W hC; go_simp; try with_reducible rfl
          simp only [Act.put, List.setIfInBounds_toArray, List.set_cons_zero, List.set_cons_succ]
          refine take_J 2 _ _ (v := ?_) rfl (by kernel_rfl) (by kernel_rfl) (by kernel_rfl) (by kernel_rfl) (fun _ _ _ h => h) rfl hC0 ?_ ?_
          rotate_left
          · intro W hC; obtain ⟨z1, z2⟩ := hC; go_simp; try with_reducible rfl
          simp only [Act.put, List.setIfInBounds_toArray, List.set_cons_zero, List.set_cons_succ]
          refine take_J 4 _ _ (v := ?_) rfl (by kernel_rfl) (by kernel_rfl) (by kernel_rfl) (by kernel_rfl) (fun _ _ _ h => h) rfl hC0 ?_ ?_
          rotate_left
          · intro W hC; go_simp; try with_reducible rfl
          simp only [Act.put, List.setIfInBounds_toArray, List.set_cons_zero, List.set_cons_succ]
          refine take_J 5 _ _ (v := ?_) rfl (by kernel_rfl) (by kernel_rfl) (by kernel_rfl) (by kernel_rfl) (fun _ _ _ h => h) rfl hC0 ?_ ?_
          rotate_left
          · intro W hC; go_simp; try with_reducible rfl
          simp only [Act.put, List.setIfInBounds_toArray, List.set_cons_zero, List.set_cons_succ]
          refine take_J 6 _ _ (v := ?_) rfl (by kernel_rfl) (by kernel_rfl) (by kernel_rfl) (by kernel_rfl) (fun _ _ _ h => h) rfl hC0 ?_ ?_
          rotate_left
          · intro W hC; obtain ⟨z1, z2⟩ := hC; go_simp; try with_reducible rfl
          simp only [Act.put, List.setIfInBounds_toArray, List.set_cons_zero, List.set_cons_succ]
          refine ready_J 3 _ _ rfl (by kernel_rfl) rfl (fun K hK => ?_)
          go_simp
          with_reducible refine (hS1.out _ (hHd.out.h 0 hi2.out)).mono ?_
          rintro e w2 ⟨va, rfl, HFa, HBz⟩
          obtain ⟨Aa, ca, hva, _⟩ := HFa.rd.form
          subst hva
          have hFa := hd_ HFa
          clear HFa
          have hHe := hd_ (hHd.out.keep HBz)
          have hBb := hd_ (bel_trans hBa.out HBz)
          clear HBz
          have hC1 : (fun W : World => W.cell? ⟨gh, 0, none⟩ = some (.pointer (some ⟨G 0, 0, none⟩)) ∧ W.cell? ⟨gx, 0, none⟩ = some (.pointer (some ⟨X 0, 0, none⟩))) w2 := ⟨hHe.out.ch 0 hi2.out, hHe.out.cx 0 hi2.out⟩
          refine hK _ _ (fun _ => hC1) ?_
          clear hK K
          try simp only [Act.put, List.setIfInBounds_toArray, List.set_cons_zero, List.set_cons_succ]
          clear hC0
          have hC0 := hC1
          clear hC1
          refine ready_J 7 _ _ rfl (by kernel_rfl) rfl (fun K hK => ?_)
          go_simp
          with_reducible refine (hS1.out _ (hHe.out.h 0 hi2.out)).mono ?_
          rintro e w3 ⟨vb, rfl, HFb, HBz⟩
          obtain ⟨Abb, cbb, hvb, _⟩ := HFb.rd.form
          subst hvb
          have hFb := hd_ HFb
          have hFa3 := hd_ (hFa.out.keep HBz)
          have hs3 := hd_ HBz.size
          have hla := hd_ (fun k hk => hFa.out.lt k hk)
          have hlb := hd_ (fun k hk => HFb.lt k hk)
          clear HFb
          have hHf := hd_ (hHe.out.keep HBz)
          have hBc := hd_ (bel_trans hBb.out HBz)
          clear HBz
          have hC1 : (fun W : World => W.cell? ⟨gh, 0, none⟩ = some (.pointer (some ⟨G 0, 0, none⟩)) ∧ W.cell? ⟨gx, 0, none⟩ = some (.pointer (some ⟨X 0, 0, none⟩))) w3 := ⟨hHf.out.ch 0 hi2.out, hHf.out.cx 0 hi2.out⟩
          refine hK _ _ (fun _ => hC1) ?_
          clear hK K
          try simp only [Act.put, List.setIfInBounds_toArray, List.set_cons_zero, List.set_cons_succ]
          clear hC0
          have hC0 := hC1
          clear hC1 hFa
          refine take_J 8 _ _ (v := ?_) rfl (by kernel_rfl) (by kernel_rfl) (by kernel_rfl) (by kernel_rfl) (fun _ _ _ h => h) rfl hC0 ?_ ?_
          rotate_left
          · intro W hC; go_simp; try with_reducible rfl
          simp only [Act.put, List.setIfInBounds_toArray, List.set_cons_zero, List.set_cons_succ]
          refine take_J 9 _ _ (v := ?_) rfl (by kernel_rfl) (by kernel_rfl) (by kernel_rfl) (by kernel_rfl) (fun _ _ _ h => h) rfl hC0 ?_ ?_
          rotate_left
          · intro W hC; go_simp; try with_reducible rfl
          simp only [Act.put, List.setIfInBounds_toArray, List.set_cons_zero, List.set_cons_succ]
          refine wpAnyJ_done (by kernel_rfl) ?_ _
          clear hC0
          have q3 := hHf.out.cx 0 hi2.out
          go_upto_region 35 with (first
            | (go_at_call 30; (with_reducible refine (hS2.out _ (hHf.out.x 0 hi2.out)).mono ?_); rintro e w4 ⟨vc, rfl, HFc, HBc⟩; have hFa4 := hd_ (hFa3.out.keep HBc); have hFb4 := hd_ (hFb.out.keep HBc); have hHg := hd_ (hHf.out.keep HBc); have hB14 := hd_ (bel_trans hBc.out HBc); have hRc := hd_ HFc.rd; obtain ⟨Ac, cc9, hvc, _⟩ := HFc.rd.form; subst hvc; have hs4 := hd_ HBc.size; clear HFc HBc)
            | (go_at_call 29; (with_reducible refine (Same_any _ _ V V w4 hFa4.out.rd hRc.out).mono ?_); rintro e wz ⟨rfl, rfl⟩; rw [decide_eq_true rfl])
            | (go_at_call 29; (with_reducible refine (Same_any _ _ V V w4 hFb4.out.rd hFa4.out.rd).mono ?_); rintro e wz ⟨rfl, rfl⟩; rw [decide_eq_true rfl]))
          have e04 : w4.cell? ⟨gt, 0, none⟩ = some (.int .i64 4) := cell_keep hB14.out e0
          have hal := hd_ (al1 (Below.refl w4.heap.size w4) (.cells #[.slice Aa V.length ca, .slice Abb V.length cbb] 34))
          have hO1 := hd_ (Box.new w4 #[.slice Aa V.length ca, .slice Abb V.length cbb] 34)
          have hHo := hd_ (hHg.out.keep hal.out)
          have hFaO := hd_ (hFa4.out.keep hal.out)
          have hFbO := hd_ (hFb4.out.keep hal.out)
          have hgl : Hid (∀ k, ((Value.slice Aa V.length ca).ownBlock = some k ∨ (Value.slice Abb V.length cbb).ownBlock = some k) → k < w4.heap.size) := hd_ (fun k hk => by
            rcases hk with hk | hk
            · exact (hFa4.out.lt k hk).2
            · exact (hFb4.out.lt k hk).2)
          have hOwn := hd_ (Own2_any (.slice Aa V.length ca) (.slice Abb V.length cbb) V V w4.heap.size _ (.inr (hFaO.out.low (Nat.zero_le _))) (.inr (hFbO.out.low (Nat.zero_le _))) (hO1.out.cell 0 rfl) (hO1.out.cell 1 rfl) (by have := hVl.out; omega) (by have := hVl.out; omega) (fun k h1 h2 => by have := (hla.out k h1).2; have := (hlb.out k h2).1; omega) (fun h => by have := hgl.out _ (.inl h); omega) (fun h => by have := hgl.out _ (.inr h); omega))
          go_wp2_with fail
          with_reducible refine hOwn.out.mono ?_
          rintro e w9 ⟨rfl, hc9⟩
          have hHz := hd_ (hHo.out.other hc9 (fun b hb => by
            have hb1 : w1.heap.size ≤ b ∧ b < w3.heap.size := by
              rcases hb with hb | hb
              · obtain ⟨h1, h2⟩ := hla.out b hb; have := hBa.out.size; have := hBc.out.size; have := hs3.out; exact ⟨by omega, by omega⟩
              · obtain ⟨h1, h2⟩ := hlb.out b hb; have := hBb.out.size; exact ⟨by omega, h2⟩
            have h2 := hgt.out
            refine ⟨by omega, by omega, by omega, fun i hi => ⟨fun hz => ?_, fun hy => ?_⟩⟩
            · have := hzt.out i hi _ (.inl hz); omega
            · have := hzt.out i hi _ (.inr hy); omega))
          clear hc9 hHo hFaO hFbO hal hO1 hOwn
          go_wp2
          go_roundw
          case rel => exact ⟨k + 1, G, X, _, _, L, by omega, by go_num, hd_ ⟨hHz.out, by rw [HRb.out]; have := HBd.out.1; omega, fun j hj => by rw [HRb.out]; have := HBd.out.2 j hj; omega⟩⟩
          case measure => (simp [intOf]; try omega)
        by_cases c5 : cc = 5
        · subst c5
          have hl60 : Hid ((L 0).length ≤ 1152921504606846976) := hd_ (by have := HBd.out.2 0 hi2.out; omega)
          obtain ⟨V, hV⟩ : ∃ V, V = savedL (L 0) := ⟨_, rfl⟩
          have hVl : Hid (V.length ≤ 120) := hd_ (by rw [hV]; exact savedL_length _)
          have hS1 := hd_ (fun W (h : HsZ W (G 0) (Z 0) (L 0)) => show Calls Try.prog 25 #[.pointer (some ⟨G 0, 0, none⟩)] W (RetF W V) by rw [hV]; exact h.l.save)
          have hS2 := hd_ (fun W (h : HrZ W (X 0) (Y 0) (L 0)) => show Calls Try.prog 30 #[.pointer (some ⟨X 0, 0, none⟩)] W (RetF W V) by rw [hV]; exact h.save hl60.out)
          have hS3 := hd_ (fun W y (h : Rd W y V) => show Calls Try.prog 31 #[y] W fun e w' => ∃ g, e = .returned (.tuple #[.pointer (some ⟨g, 0, none⟩), .int .i64 0]) ∧ HsZ w' g (Nw W w') (L 0) ∧ Below W.heap.size W w' from hsZ_load y (by rw [← hV]; exact h) hl60.out)
          clear hV
          go_upto_region 32 with fail
          have hHd := hd_ (hH1.out.keep (Below.refl w1.heap.size w1).drew)
          have hC0 : (fun W : World => W.cell? ⟨gh, 0, none⟩ = some (.pointer (some ⟨G 0, 0, none⟩)) ∧ W.cell? ⟨gx, 0, none⟩ = some (.pointer (some ⟨X 0, 0, none⟩))) w1.drew := ⟨hHd.out.ch 0 hi2.out, hHd.out.cx 0 hi2.out⟩
          refine region_J [] (fun W : World => W.cell? ⟨gh, 0, none⟩ = some (.pointer (some ⟨G 0, 0, none⟩)) ∧ W.cell? ⟨gx, 0, none⟩ = some (.pointer (some ⟨X 0, 0, none⟩))) rfl ?_
          have hBa := hd_ (Below.refl w1.heap.size w1).drew
          generalize w1.drew = wd at *
          refine take_J 0 _ _ (v := ?_) rfl (by kernel_rfl) (by kernel_rfl) (by kernel_rfl) (by kernel_rfl) (fun _ _ _ h => h) rfl hC0 ?_ ?_
          rotate_left
          · intro W hC; go_simp; try with_reducible rfl
          simp only [Act.put, List.setIfInBounds_toArray, List.set_cons_zero, List.set_cons_succ]
          refine take_J 1 _ _ (v := ?_) rfl (by kernel_rfl) (by kernel_rfl) (by kernel_rfl) (by kernel_rfl) (fun _ _ _ h => h) rfl hC0 ?_ ?_
          rotate_left
          · intro W hC; go_simp; try with_reducible rfl
          simp only [Act.put, List.setIfInBounds_toArray, List.set_cons_zero, List.set_cons_succ]
          refine take_J 2 _ _ (v := ?_) rfl (by kernel_rfl) (by kernel_rfl) (by kernel_rfl) (by kernel_rfl) (fun _ _ _ h => h) rfl hC0 ?_ ?_
          rotate_left
          · intro W hC; obtain ⟨z1, z2⟩ := hC; go_simp; try with_reducible rfl
          simp only [Act.put, List.setIfInBounds_toArray, List.set_cons_zero, List.set_cons_succ]
          refine take_J 4 _ _ (v := ?_) rfl (by kernel_rfl) (by kernel_rfl) (by kernel_rfl) (by kernel_rfl) (fun _ _ _ h => h) rfl hC0 ?_ ?_
          rotate_left
          · intro W hC; go_simp; try with_reducible rfl
          simp only [Act.put, List.setIfInBounds_toArray, List.set_cons_zero, List.set_cons_succ]
          refine take_J 5 _ _ (v := ?_) rfl (by kernel_rfl) (by kernel_rfl) (by kernel_rfl) (by kernel_rfl) (fun _ _ _ h => h) rfl hC0 ?_ ?_
          rotate_left
          · intro W hC; go_simp; try with_reducible rfl
          simp only [Act.put, List.setIfInBounds_toArray, List.set_cons_zero, List.set_cons_succ]
          refine take_J 6 _ _ (v := ?_) rfl (by kernel_rfl) (by kernel_rfl) (by kernel_rfl) (by kernel_rfl) (fun _ _ _ h => h) rfl hC0 ?_ ?_
          rotate_left
          · intro W hC; obtain ⟨z1, z2⟩ := hC; go_simp; try with_reducible rfl
          simp only [Act.put, List.setIfInBounds_toArray, List.set_cons_zero, List.set_cons_succ]
          refine ready_J 3 _ _ rfl (by kernel_rfl) rfl (fun K hK => ?_)
          go_simp
          with_reducible refine (hS1.out _ (hHd.out.h 0 hi2.out)).mono ?_
          rintro e w2 ⟨va, rfl, HFa, HBz⟩
          obtain ⟨Aa, ca, hva, _⟩ := HFa.rd.form
          subst hva
          have hFa := hd_ HFa
          clear HFa
          have hHe := hd_ (hHd.out.keep HBz)
          have hBb := hd_ (bel_trans hBa.out HBz)
          clear HBz
          have hC1 : (fun W : World => W.cell? ⟨gh, 0, none⟩ = some (.pointer (some ⟨G 0, 0, none⟩)) ∧ W.cell? ⟨gx, 0, none⟩ = some (.pointer (some ⟨X 0, 0, none⟩))) w2 := ⟨hHe.out.ch 0 hi2.out, hHe.out.cx 0 hi2.out⟩
          refine hK _ _ (fun _ => hC1) ?_
          clear hK K
          try simp only [Act.put, List.setIfInBounds_toArray, List.set_cons_zero, List.set_cons_succ]
          clear hC0
          have hC0 := hC1
          clear hC1
          refine ready_J 7 _ _ rfl (by kernel_rfl) rfl (fun K hK => ?_)
          go_simp
          with_reducible refine (hS1.out _ (hHe.out.h 0 hi2.out)).mono ?_
          rintro e w3 ⟨vb, rfl, HFb, HBz⟩
          obtain ⟨Abb, cbb, hvb, _⟩ := HFb.rd.form
          subst hvb
          have hFb := hd_ HFb
          have hFa3 := hd_ (hFa.out.keep HBz)
          have hs3 := hd_ HBz.size
          have hla := hd_ (fun k hk => hFa.out.lt k hk)
          have hlb := hd_ (fun k hk => HFb.lt k hk)
          clear HFb
          have hHf := hd_ (hHe.out.keep HBz)
          have hBc := hd_ (bel_trans hBb.out HBz)
          clear HBz
          have hC1 : (fun W : World => W.cell? ⟨gh, 0, none⟩ = some (.pointer (some ⟨G 0, 0, none⟩)) ∧ W.cell? ⟨gx, 0, none⟩ = some (.pointer (some ⟨X 0, 0, none⟩))) w3 := ⟨hHf.out.ch 0 hi2.out, hHf.out.cx 0 hi2.out⟩
          refine hK _ _ (fun _ => hC1) ?_
          clear hK K
          try simp only [Act.put, List.setIfInBounds_toArray, List.set_cons_zero, List.set_cons_succ]
          clear hC0
          have hC0 := hC1
          clear hC1 hFa
          refine take_J 8 _ _ (v := ?_) rfl (by kernel_rfl) (by kernel_rfl) (by kernel_rfl) (by kernel_rfl) (fun _ _ _ h => h) rfl hC0 ?_ ?_
          rotate_left
          · intro W hC; go_simp; try with_reducible rfl
          simp only [Act.put, List.setIfInBounds_toArray, List.set_cons_zero, List.set_cons_succ]
          refine take_J 9 _ _ (v := ?_) rfl (by kernel_rfl) (by kernel_rfl) (by kernel_rfl) (by kernel_rfl) (fun _ _ _ h => h) rfl hC0 ?_ ?_
          rotate_left
          · intro W hC; go_simp; try with_reducible rfl
          simp only [Act.put, List.setIfInBounds_toArray, List.set_cons_zero, List.set_cons_succ]
          refine wpAnyJ_done (by kernel_rfl) ?_ _
          clear hC0
          have q3 := hHf.out.cx 0 hi2.out
          go_upto_region 35 with (first
            | (go_at_call 30; (with_reducible refine (hS2.out _ (hHf.out.x 0 hi2.out)).mono ?_); rintro e w4 ⟨vc, rfl, HFc, HBc⟩; have hFa4 := hd_ (hFa3.out.keep HBc); have hFb4 := hd_ (hFb.out.keep HBc); have hHg := hd_ (hHf.out.keep HBc); have hB14 := hd_ (bel_trans hBc.out HBc); have hRc := hd_ HFc.rd; obtain ⟨Ac, cc9, hvc, _⟩ := HFc.rd.form; subst hvc; have hs4 := hd_ HBc.size; clear HFc HBc)
            | (go_at_call 29; (with_reducible refine (Same_any _ _ V V w4 hFa4.out.rd hRc.out).mono ?_); rintro e wz ⟨rfl, rfl⟩; rw [decide_eq_true rfl])
            | (go_at_call 29; (with_reducible refine (Same_any _ _ V V w4 hFb4.out.rd hFa4.out.rd).mono ?_); rintro e wz ⟨rfl, rfl⟩; rw [decide_eq_true rfl]))
          have e04 : w4.cell? ⟨gt, 0, none⟩ = some (.int .i64 5) := cell_keep hB14.out e0
          go_upto_region 39 with (go_at_call 31; (with_reducible refine (hS3.out w4 _ hFa4.out.rd).mono ?_); rintro e w5' ⟨gn, rfl, hn5, hb5⟩; have hH5 := hd_ (hHg.out.newH hb5 0 hi2.out gn _ hn5); have q5 := (hHg.out.keep hb5).ch 0 hi2.out; have z5 := (hHg.out.keep hb5).bh.frozen 0; have hcp := hd_ (chg_put w5' gh 0 (.pointer (some ⟨gn, 0, none⟩))); have hFa5 := hd_ ((hFa4.out.keep hb5).chg hcp.out (fun k hk e => by have := (hla.out k hk).1; have := hBa.out.size; have := hgt.out; omega)); have hFb5 := hd_ ((hFb4.out.keep hb5).chg hcp.out (fun k hk e => by have := (hlb.out k hk).1; have := hBb.out.size; have := hgt.out; omega)); clear hn5 hb5 hcp)
          go_upto_region 40 with fail
          generalize w5'.setCell ⟨gh, 0, none⟩ (.pointer (some ⟨gn, 0, none⟩)) = w6 at *
          have hal := hd_ (al1 (Below.refl w6.heap.size w6) (.cells #[.slice Aa V.length ca, .slice Abb V.length cbb] 34))
          have hO1 := hd_ (Box.new w6 #[.slice Aa V.length ca, .slice Abb V.length cbb] 34)
          have hHo := hd_ (hH5.out.keep hal.out)
          have hFaO := hd_ (hFa5.out.keep hal.out)
          have hFbO := hd_ (hFb5.out.keep hal.out)
          have hgl : Hid (∀ k, ((Value.slice Aa V.length ca).ownBlock = some k ∨ (Value.slice Abb V.length cbb).ownBlock = some k) → k < w6.heap.size) := hd_ (fun k hk => by
            rcases hk with hk | hk
            · exact (hFa5.out.lt k hk).2
            · exact (hFb5.out.lt k hk).2)
          have hOwn := hd_ (Own2_any (.slice Aa V.length ca) (.slice Abb V.length cbb) V V w6.heap.size _ (.inr (hFaO.out.low (Nat.zero_le _))) (.inr (hFbO.out.low (Nat.zero_le _))) (hO1.out.cell 0 rfl) (hO1.out.cell 1 rfl) (by have := hVl.out; omega) (by have := hVl.out; omega) (fun k h1 h2 => by have := (hla.out k h1).2; have := (hlb.out k h2).1; omega) (fun h => by have := hgl.out _ (.inl h); omega) (fun h => by have := hgl.out _ (.inr h); omega))
          go_wp2_with fail
          with_reducible refine hOwn.out.mono ?_
          rintro e w9 ⟨rfl, hc9⟩
          have hHz := hd_ (hHo.out.other hc9 (fun b hb => by
            have hb1 : w1.heap.size ≤ b ∧ b < w3.heap.size := by
              rcases hb with hb | hb
              · obtain ⟨h1, h2⟩ := hla.out b hb; have := hBa.out.size; have := hBc.out.size; have := hs3.out; exact ⟨by omega, by omega⟩
              · obtain ⟨h1, h2⟩ := hlb.out b hb; have := hBb.out.size; exact ⟨by omega, h2⟩
            have h2 := hgt.out
            refine ⟨by omega, by omega, by omega, fun i hi => ⟨fun hz => ?_, fun hy => ?_⟩⟩
            · unfold updZ at hz
              split at hz
              · have := hz.1; have := hs4.out; omega
              · have := hzt.out i hi _ (.inl hz); omega
            · have := hzt.out i hi _ (.inr hy); omega))
          clear hc9 hHo hFaO hFbO hal hO1 hOwn
          go_wp2
          go_roundw
          case rel => exact ⟨k + 1, _, X, _, _, _, by omega, by go_num, hd_ ⟨(by have h := hHz.out; have e9 : updL L 0 (L 0) = L := funext (fun j => by unfold updL; split <;> simp_all); rw [e9] at h; exact h), by rw [HRb.out]; have := HBd.out.1; omega, fun j hj => by rw [HRb.out]; have := HBd.out.2 j hj; omega⟩⟩
          case measure => (simp [intOf]; try omega)
        go_wp2
        go_roundw
        case rel => exact ⟨k + 1, G, X, _, _, L, by omega, by go_num, hd_ ⟨hH1.out, by rw [HRb.out]; have := HBd.out.1; omega, fun j hj => by rw [HRb.out]; have := HBd.out.2 j hj; omega⟩⟩
        case measure => (simp [intOf]; try omega)
      · have hi2 : Hid (1 < 2) := hd_ (by decide)
        go_upto_region 10 with fail
        by_cases c0 : cc = 0
        · subst c0
          have e2 := hbx1.out.cell 2 (v := .slice A p.length cp) rfl
          have hq1 := hH1.out.ch 1 hi2.out
          have hpl : Hid (p.length ≤ 140737488351232) := hd_ (by have := HBd.out.1; omega)
          go_upto_region 13 with (first
            | (go_at_call 16; (with_reducible refine (Lend_any (.slice A p.length cp) p w1 (HHp.out.keep hH1.out.bel) hpl.out).mono ?_); rintro e w2 ⟨g1, k1, q1, rfl, HOw, HRq, hqb, HB2⟩; obtain ⟨Aq, cq, hq9, _⟩ := HRq.form; subst hq9; have hH2 := hd_ (hH1.out.keep HB2); have hq2 := hH2.out.ch 1 hi2.out; have hOw := hd_ HOw; have hRq := hd_ HRq; have hqb := hd_ hqb; have hg1 := hd_ (own_lt HOw g1 rfl); have hbx2 := hd_ (hbx1.out.keep HB2); clear HOw HRq HB2)
            | (go_at_call 22; (with_reducible refine ((hH2.out.h 1 hi2.out).write (.slice Aq p.length cq) p hRq.out hpl.out (fun _ e => by rw [hqb.out] at e; injection e with e; have := hzt.out 1 hi2.out _ (.inl (hH2.out.h 1 hi2.out).at); have := hg1.out; have := hgt.out; omega)).mono ?_); rintro e w3 ⟨rfl, hn3, hc3⟩; have hH3 := hd_ (hH2.out.stepH 1 hi2.out _ hn3 hc3); have hOw3 := hd_ (hOw.out.chg hc3 (fun b hb hz => by have hb9 : some g1 = some b := hb; injection hb9 with hb9; have := hzt.out 1 hi2.out _ (.inl hz); have := hg1.out; have := hgt.out; omega)); have hbx3 := hd_ (hbx2.out.chg hc3 (fun hz => by have := hzt.out 1 hi2.out _ (.inl hz); omega)); have hs23 := hd_ hc3.size; clear hn3 hc3))
          have hBd3 := hd_ (Below.refl w3.heap.size w3).drew
          have hH3d := hd_ (hH3.out.keep hBd3.out)
          have hbx3d := hd_ (hbx3.out.keep hBd3.out)
          have hOw3d := hd_ (hOw3.out.keep hBd3.out)
          have hC0 : (fun W : World => W.cell? ⟨gx, 1, none⟩ = some (.pointer (some ⟨X 1, 0, none⟩)) ∧ W.cell? ⟨gt, 2, none⟩ = some (.slice A p.length cp)) w3.drew := ⟨hH3d.out.cx 1 hi2.out, hbx3d.out.cell 2 rfl⟩
          refine region_J [] (fun W : World => W.cell? ⟨gx, 1, none⟩ = some (.pointer (some ⟨X 1, 0, none⟩)) ∧ W.cell? ⟨gt, 2, none⟩ = some (.slice A p.length cp)) rfl ?_
          have hs3d : Hid (w3.drew.heap.size = w3.heap.size) := hd_ rfl
          generalize w3.drew = w3d at *
          refine take_J 0 _ _ (v := ?_) rfl (by kernel_rfl) (by kernel_rfl) (by kernel_rfl) (by kernel_rfl) (fun _ _ _ h => h) rfl hC0 ?_ ?_
          rotate_left
          · intro W hC; go_simp; try with_reducible rfl
          simp only [Act.put, List.setIfInBounds_toArray, List.set_cons_zero, List.set_cons_succ]
          refine take_J 1 _ _ (v := ?_) rfl (by kernel_rfl) (by kernel_rfl) (by kernel_rfl) (by kernel_rfl) (fun _ _ _ h => h) rfl hC0 ?_ ?_
          rotate_left
          · intro W hC; go_simp; try with_reducible rfl
          simp only [Act.put, List.setIfInBounds_toArray, List.set_cons_zero, List.set_cons_succ]
          refine take_J 2 _ _ (v := ?_) rfl (by kernel_rfl) (by kernel_rfl) (by kernel_rfl) (by kernel_rfl) (fun _ _ _ h => h) rfl hC0 ?_ ?_
          rotate_left
          · intro W hC; obtain ⟨z1, z2⟩ := hC; go_simp; try with_reducible rfl
          simp only [Act.put, List.setIfInBounds_toArray, List.set_cons_zero, List.set_cons_succ]
          refine take_J 3 _ _ (v := ?_) rfl (by kernel_rfl) (by kernel_rfl) (by kernel_rfl) (by kernel_rfl) (fun _ _ _ h => h) rfl hC0 ?_ ?_
          rotate_left
          · intro W hC; go_simp; try with_reducible rfl
          simp only [Act.put, List.setIfInBounds_toArray, List.set_cons_zero, List.set_cons_succ]
          refine take_J 4 _ _ (v := ?_) rfl (by kernel_rfl) (by kernel_rfl) (by kernel_rfl) (by kernel_rfl) (fun _ _ _ h => h) rfl hC0 ?_ ?_
          rotate_left
          · intro W hC; obtain ⟨z1, z2⟩ := hC; go_simp; try with_reducible rfl
          simp only [Act.put, List.setIfInBounds_toArray, List.set_cons_zero, List.set_cons_succ]
          refine ready_J 5 _ _ rfl (by kernel_rfl) rfl (fun K hK => ?_)
          go_simp
          with_reducible refine ((hH3d.out.x 1 hi2.out).write (.slice A p.length cp) p (HHp.out.keep hH3d.out.bel) hpl.out (fun hb k e hz => by have := rd_lt HHp.out hb k e; have := (hH3d.out.low 1 hi2.out k (.inr hz)).1; omega)).mono ?_
          rintro e w4 ⟨rfl, hn4, hc4⟩
          have hH4 := hd_ (hH3d.out.stepX 1 hi2.out _ hn4 hc4)
          have hY4 : Hid (∀ k, Y 1 k → k < gt) := hd_ (fun k hk => hzt.out 1 hi2.out k (.inr hk))
          have hbx4 := hd_ (hbx3d.out.chg hc4 (fun hz => by have := hY4.out _ hz; omega))
          have hC1 : (fun W : World => W.cell? ⟨gx, 1, none⟩ = some (.pointer (some ⟨X 1, 0, none⟩)) ∧ W.cell? ⟨gt, 2, none⟩ = some (.slice A p.length cp)) w4 := ⟨hH4.out.cx 1 hi2.out, hbx4.out.cell 2 rfl⟩
          refine hK _ _ (fun _ => hC1) ?_
          clear hK K
          try simp only [Act.put, List.setIfInBounds_toArray, List.set_cons_zero, List.set_cons_succ]
          have hOw4 := hd_ (hOw3d.out.chg hc4 (fun b hb hz => by have hb9 : some g1 = some b := hb; injection hb9 with hb9; have := hY4.out _ hz; have := hg1.out; have := hgt.out; omega))
          have hsz := hd_ (And.intro hs23.out (And.intro hs3d.out hc4.size))
          clear hn4 hc4 hC0 hC1
          refine wpAnyJ_done (by kernel_rfl) ?_ _
          have e24 := hbx4.out.cell 2 (v := .slice A p.length cp) rfl
          obtain ⟨NN, hNN⟩ : ∃ NN, NN = p.length + 9 := ⟨_, rfl⟩
          have hLn := hd_ (show (lendL p).length = NN by rw [lendL_length, hNN])
          have hNl := hd_ (show NN ≤ 140737488351241 by have := hpl.out; omega)
          have hOw4' := hOw4.out
          rw [← hNN] at hOw4'
          have hOw4 := hd_ hOw4'
          have hNI : (p.length : Int) + 9 = (NN : Int) := by omega
          simp only [← hNN]
          try rw [hNI]
          clear hNI hNN hOw4' hH3 hH3d hbx3 hbx3d hOw3 hOw3d hH2 hbx2 hOw hRq
          go_wp2_with ((go_at_call 19; with_reducible refine (Kept_true _ (.slice A p.length cp) p w4 hOw4.out.rd (HHp.out.keep hH4.out.bel) hpl.out).mono ?_); rintro e w5' ⟨rfl, HB5⟩; have hH5 := hd_ (hH4.out.keep HB5); have hOw5 := hd_ (hOw4.out.keep HB5); clear HB5)
          clear hH4 hOw4 hbx4
          go_loopw [57] (fun vi wq => ∃ (j : Nat) (Q : List Int), j ≤ NN ∧ vi = .int .i64 (j : Int) ∧ Q.length = NN ∧ Own wq w1.heap.size 5 (.slice (some ⟨g1, 0, none⟩) NN k1) Q ∧ Chg (fun b => b = g1) w5' wq) (fun vi _ => NN - (intOf vi).toNat)
          case atStart => exact ⟨0, _, Nat.zero_le _, rfl, hLn.out, hOw5.out, Chg.refl _ _⟩
          case round =>
            clear hOw5
            obtain ⟨j, Q, hj, rfl, hQ, HO, hC⟩ := hrel
            by_cases hjl : j < NN
            · have hjI : (j : Int) < (NN : Int) := by omega
              obtain ⟨_, _, hfm, _, _, _, hcf⟩ := HO.rd.form
              obtain ⟨b7, o7, hA7, hc7⟩ := hcf j (by omega)
              injection hfm with e1 e2 e3
              rw [← e1] at hA7
              injection hA7 with hA7
              injection hA7 with e4 e5
              subst e4; subst e5
              rw [Nat.zero_add] at hc7
              have hNb := hNl.out
              have hO2 := HO.2
              rw [hQ] at hO2
              have hf7 := hO2.frozenAt j
              clear hO2
              obtain ⟨p7, g7⟩ := HO.put j 9 (by decide) (by decide)
              have hst := hd_ (And.intro p7 (And.intro (hC.trans (Chg.of g7) (fun b _ (e : some b = some g1) => by injection e)) (show (Q.set j 9).length = NN by rw [List.length_set]; exact hQ)))
              clear p7 g7 HO hC e1 e2 e3 hQ hcf
              go_wp2
              go_roundw
              case rel => exact ⟨j + 1, _, hjl, by go_num, hst.out.2.2, hst.out.1, hst.out.2.1⟩
              case measure => (simp [intOf]; try omega)
            · obtain rfl : j = NN := by omega
              have hH6 := hd_ (hH5.out.other hC (fun b hb => by
                subst hb
                have h1 := hg1.out
                have h2 := hgt.out
                have h3 := hsz.out
                refine ⟨by omega, by omega, by omega, fun i hi => ⟨fun hz => ?_, fun hy => ?_⟩⟩
                · unfold updZ at hz
                  split at hz
                  · rcases hz with hz | hz
                    · have := hzt.out 1 hi2.out _ (.inl hz); omega
                    · have := hz.1; omega
                  · have := hzt.out i hi _ (.inl hz); omega
                · unfold updZ at hy
                  split at hy
                  · rcases hy with hy | hy
                    · have := hzt.out 1 hi2.out _ (.inr hy); omega
                    · have := hy.1; omega
                  · have := hzt.out i hi _ (.inr hy); omega))
              clear HO hC hj hQ hjl
              go_wp2
              go_roundw
              case rel => exact ⟨k + 1, G, X, _, _, _, by omega, by go_num, hd_ ⟨hH6.out, by rw [HRb.out]; have := HBd.out.1; omega, updL_bd (fun j hj => by rw [HRb.out]; have := HBd.out.2 j hj; omega) (by rw [List.length_append, HRb.out]; have := HBd.out.1; have := HBd.out.2 1 hi2.out; omega)⟩⟩
              case measure => (simp [intOf]; try omega)
        by_cases c1 : cc = 1
        · subst c1
          obtain ⟨D, hD⟩ : ∃ D, D = digL (L 1) := ⟨_, rfl⟩
          have hDs : D.length = 32 := by rw [hD, digL_length]
          have heq := eqDg D D hDs hDs
          rw [decide_eq_true rfl] at heq
          have hS1 := hd_ (fun W (h : HsZ W (G 1) (Z 1) (L 1)) => show Calls Try.prog 21 #[.pointer (some ⟨G 1, 0, none⟩)] W fun e w' => e = .returned (.agg (u8A D)) ∧ Below W.heap.size W w' by rw [hD]; exact h.l.sum)
          have hS2 := hd_ (fun W (h : HrZ W (X 1) (Y 1) (L 1)) => show Calls Try.prog 28 #[.pointer (some ⟨X 1, 0, none⟩)] W fun e w' => e = .returned (.agg (u8A D)) ∧ Below W.heap.size W w' by rw [hD]; exact h.sum)
          clear hD hDs
          go_upto_region 22 with fail
          have hHd := hd_ (hH1.out.keep (Below.refl w1.heap.size w1).drew)
          have hC0 : (fun W : World => W.cell? ⟨gh, 1, none⟩ = some (.pointer (some ⟨G 1, 0, none⟩)) ∧ W.cell? ⟨gx, 1, none⟩ = some (.pointer (some ⟨X 1, 0, none⟩))) w1.drew := ⟨hHd.out.ch 1 hi2.out, hHd.out.cx 1 hi2.out⟩
          refine region_J [] (fun W : World => W.cell? ⟨gh, 1, none⟩ = some (.pointer (some ⟨G 1, 0, none⟩)) ∧ W.cell? ⟨gx, 1, none⟩ = some (.pointer (some ⟨X 1, 0, none⟩))) rfl ?_
          generalize w1.drew = wd at *
          refine take_J 0 _ _ (v := ?_) rfl (by kernel_rfl) (by kernel_rfl) (by kernel_rfl) (by kernel_rfl) (fun _ _ _ h => h) rfl hC0 ?_ ?_
          rotate_left
          · intro W hC; go_simp; try with_reducible rfl
          simp only [Act.put, List.setIfInBounds_toArray, List.set_cons_zero, List.set_cons_succ]
          refine take_J 1 _ _ (v := ?_) rfl (by kernel_rfl) (by kernel_rfl) (by kernel_rfl) (by kernel_rfl) (fun _ _ _ h => h) rfl hC0 ?_ ?_
          rotate_left
          · intro W hC; go_simp; try with_reducible rfl
          simp only [Act.put, List.setIfInBounds_toArray, List.set_cons_zero, List.set_cons_succ]
          refine take_J 2 _ _ (v := ?_) rfl (by kernel_rfl) (by kernel_rfl) (by kernel_rfl) (by kernel_rfl) (fun _ _ _ h => h) rfl hC0 ?_ ?_
          rotate_left
          · intro W hC; obtain ⟨z1, z2⟩ := hC; go_simp; try with_reducible rfl
          simp only [Act.put, List.setIfInBounds_toArray, List.set_cons_zero, List.set_cons_succ]
          refine take_J 4 _ _ (v := ?_) rfl (by kernel_rfl) (by kernel_rfl) (by kernel_rfl) (by kernel_rfl) (fun _ _ _ h => h) rfl hC0 ?_ ?_
          rotate_left
          · intro W hC; go_simp; try with_reducible rfl
          simp only [Act.put, List.setIfInBounds_toArray, List.set_cons_zero, List.set_cons_succ]
          refine take_J 5 _ _ (v := ?_) rfl (by kernel_rfl) (by kernel_rfl) (by kernel_rfl) (by kernel_rfl) (fun _ _ _ h => h) rfl hC0 ?_ ?_
          rotate_left
          · intro W hC; go_simp; try with_reducible rfl
          simp only [Act.put, List.setIfInBounds_toArray, List.set_cons_zero, List.set_cons_succ]
          refine take_J 6 _ _ (v := ?_) rfl (by kernel_rfl) (by kernel_rfl) (by kernel_rfl) (by kernel_rfl) (fun _ _ _ h => h) rfl hC0 ?_ ?_
          rotate_left
          · intro W hC; obtain ⟨z1, z2⟩ := hC; go_simp; try with_reducible rfl
          simp only [Act.put, List.setIfInBounds_toArray, List.set_cons_zero, List.set_cons_succ]
          refine ready_J 3 _ _ rfl (by kernel_rfl) rfl (fun K hK => ?_)
          go_simp
          with_reducible refine (hS1.out _ (hHd.out.h 1 hi2.out)).mono ?_
          rintro e w2 ⟨rfl, HBz⟩
          have hHe := hd_ (hHd.out.keep HBz)
          clear HBz
          have hC1 : (fun W : World => W.cell? ⟨gh, 1, none⟩ = some (.pointer (some ⟨G 1, 0, none⟩)) ∧ W.cell? ⟨gx, 1, none⟩ = some (.pointer (some ⟨X 1, 0, none⟩))) w2 := ⟨hHe.out.ch 1 hi2.out, hHe.out.cx 1 hi2.out⟩
          refine hK _ _ (fun _ => hC1) ?_
          clear hK K
          try simp only [Act.put, List.setIfInBounds_toArray, List.set_cons_zero, List.set_cons_succ]
          clear hC0
          have hC0 := hC1
          clear hC1
          refine ready_J 7 _ _ rfl (by kernel_rfl) rfl (fun K hK => ?_)
          go_simp
          with_reducible refine (hS2.out _ (hHe.out.x 1 hi2.out)).mono ?_
          rintro e w3 ⟨rfl, HBz⟩
          have hHf := hd_ (hHe.out.keep HBz)
          clear HBz
          have hC1 : (fun W : World => W.cell? ⟨gh, 1, none⟩ = some (.pointer (some ⟨G 1, 0, none⟩)) ∧ W.cell? ⟨gx, 1, none⟩ = some (.pointer (some ⟨X 1, 0, none⟩))) w3 := ⟨hHf.out.ch 1 hi2.out, hHf.out.cx 1 hi2.out⟩
          refine hK _ _ (fun _ => hC1) ?_
          clear hK K
          try simp only [Act.put, List.setIfInBounds_toArray, List.set_cons_zero, List.set_cons_succ]
          clear hC0
          have hC0 := hC1
          clear hC1
          refine take_J 8 _ _ (v := ?_) rfl (by kernel_rfl) (by kernel_rfl) (by kernel_rfl) (by kernel_rfl) (fun _ _ _ h => h) rfl hC0 ?_ ?_
          rotate_left
          · intro W hC; go_simp; try with_reducible rfl
          simp only [Act.put, List.setIfInBounds_toArray, List.set_cons_zero, List.set_cons_succ]
          refine wpAnyJ_done (by kernel_rfl) ?_ _
          clear hC0
          go_wp2
          go_roundw
          case rel => exact ⟨k + 1, G, X, _, _, L, by omega, by go_num, hd_ ⟨hHf.out, by rw [HRb.out]; have := HBd.out.1; omega, fun j hj => by rw [HRb.out]; have := HBd.out.2 j hj; omega⟩⟩
          case measure => (simp [intOf]; try omega)
        by_cases c2 : cc = 2
        · subst c2
          have hl60 : Hid ((L 1).length ≤ 1048576) := hd_ (by have := HBd.out.2 1 hi2.out; omega)
          go_upto_region 25 with fail
          have hHd := hd_ (hH1.out.keep (Below.refl w1.heap.size w1).drew)
          have hC0 : (fun W : World => (W.cell? ⟨gh, 1, none⟩ = some (.pointer (some ⟨G 1, 0, none⟩)) ∧ W.cell? ⟨gx, 1, none⟩ = some (.pointer (some ⟨X 1, 0, none⟩))) ∧ W.cell? ⟨X 1, 8, none⟩ = some (.int .i64 ((L 1).length : Int))) w1.drew := ⟨⟨hHd.out.ch 1 hi2.out, hHd.out.cx 1 hi2.out⟩, (hHd.out.x 1 hi2.out).len8 (by have := hl60.out; omega)⟩
          refine region_J [] (fun W : World => (W.cell? ⟨gh, 1, none⟩ = some (.pointer (some ⟨G 1, 0, none⟩)) ∧ W.cell? ⟨gx, 1, none⟩ = some (.pointer (some ⟨X 1, 0, none⟩))) ∧ W.cell? ⟨X 1, 8, none⟩ = some (.int .i64 ((L 1).length : Int))) rfl ?_
          generalize w1.drew = wd at *
          refine take_J 0 _ _ (v := ?_) rfl (by kernel_rfl) (by kernel_rfl) (by kernel_rfl) (by kernel_rfl) (fun _ _ _ h => h) rfl hC0 ?_ ?_
          rotate_left
          · intro W hC; go_simp; try with_reducible rfl
          simp only [Act.put, List.setIfInBounds_toArray, List.set_cons_zero, List.set_cons_succ]
          refine take_J 1 _ _ (v := ?_) rfl (by kernel_rfl) (by kernel_rfl) (by kernel_rfl) (by kernel_rfl) (fun _ _ _ h => h) rfl hC0 ?_ ?_
          rotate_left
          · intro W hC; go_simp; try with_reducible rfl
          simp only [Act.put, List.setIfInBounds_toArray, List.set_cons_zero, List.set_cons_succ]
          refine take_J 2 _ _ (v := ?_) rfl (by kernel_rfl) (by kernel_rfl) (by kernel_rfl) (by kernel_rfl) (fun _ _ _ h => h) rfl hC0 ?_ ?_
          rotate_left
          · intro W hC; obtain ⟨⟨z1, z2⟩, z3⟩ := hC; go_simp; try with_reducible rfl
          simp only [Act.put, List.setIfInBounds_toArray, List.set_cons_zero, List.set_cons_succ]
          refine take_J 4 _ _ (v := ?_) rfl (by kernel_rfl) (by kernel_rfl) (by kernel_rfl) (by kernel_rfl) (fun _ _ _ h => h) rfl hC0 ?_ ?_
          rotate_left
          · intro W hC; go_simp; try with_reducible rfl
          simp only [Act.put, List.setIfInBounds_toArray, List.set_cons_zero, List.set_cons_succ]
          refine take_J 5 _ _ (v := ?_) rfl (by kernel_rfl) (by kernel_rfl) (by kernel_rfl) (by kernel_rfl) (fun _ _ _ h => h) rfl hC0 ?_ ?_
          rotate_left
          · intro W hC; go_simp; try with_reducible rfl
          simp only [Act.put, List.setIfInBounds_toArray, List.set_cons_zero, List.set_cons_succ]
          refine take_J 6 _ _ (v := ?_) rfl (by kernel_rfl) (by kernel_rfl) (by kernel_rfl) (by kernel_rfl) (fun _ _ _ h => h) rfl hC0 ?_ ?_
          rotate_left
          · intro W hC; obtain ⟨⟨z1, z2⟩, z3⟩ := hC; go_simp; try with_reducible rfl
          simp only [Act.put, List.setIfInBounds_toArray, List.set_cons_zero, List.set_cons_succ]
          refine take_J 7 _ _ (v := ?_) rfl (by kernel_rfl) (by kernel_rfl) (by kernel_rfl) (by kernel_rfl) (fun _ _ _ h => h) rfl hC0 ?_ ?_
          rotate_left
          · intro W hC; go_simp; try with_reducible rfl
          simp only [Act.put, List.setIfInBounds_toArray, List.set_cons_zero, List.set_cons_succ]
          refine take_J 8 _ _ (v := ?_) rfl (by kernel_rfl) (by kernel_rfl) (by kernel_rfl) (by kernel_rfl) (fun _ _ _ h => h) rfl hC0 ?_ ?_
          rotate_left
          · intro W hC; go_simp; try with_reducible rfl
          simp only [Act.put, List.setIfInBounds_toArray, List.set_cons_zero, List.set_cons_succ]
          refine take_J 9 _ _ (v := ?_) rfl (by kernel_rfl) (by kernel_rfl) (by kernel_rfl) (by kernel_rfl) (fun _ _ _ h => h) rfl hC0 ?_ ?_
          rotate_left
          · intro W hC; obtain ⟨⟨z1, z2⟩, z3⟩ := hC; go_simp; try with_reducible rfl
          simp only [Act.put, List.setIfInBounds_toArray, List.set_cons_zero, List.set_cons_succ]
          refine ready_J 3 _ _ rfl (by kernel_rfl) rfl (fun K hK => ?_)
          go_simp
          with_reducible refine (HsL.len (hHd.out.h 1 hi2.out).l (by have := hl60.out; omega)).mono ?_
          rintro e w2 ⟨rfl, rfl⟩
          refine hK _ _ (fun _ => hC0) ?_
          clear hK K
          try simp only [Act.put, List.setIfInBounds_toArray, List.set_cons_zero, List.set_cons_succ]
          refine take_J 10 _ _ (v := ?_) rfl (by kernel_rfl) (by kernel_rfl) (by kernel_rfl) (by kernel_rfl) (fun _ _ _ h => h) rfl hC0 ?_ ?_
          rotate_left
          · intro W hC; go_simp; try with_reducible rfl
          simp only [Act.put, List.setIfInBounds_toArray, List.set_cons_zero, List.set_cons_succ]
          refine wpAnyJ_done (by kernel_rfl) ?_ _
          clear hC0
          go_wp2
          go_roundw
          case rel => exact ⟨k + 1, G, X, _, _, L, by omega, by go_num, hd_ ⟨hHd.out, by rw [HRb.out]; have := HBd.out.1; omega, fun j hj => by rw [HRb.out]; have := HBd.out.2 j hj; omega⟩⟩
          case measure => (simp [intOf]; try omega)
        by_cases c3 : cc = 3
        · subst c3
          have hq1 := hH1.out.ch 1 hi2.out
          go_wp2_with (first
            | (go_at_call 23; (with_reducible refine (hH1.out.h 1 hi2.out).reset.mono ?_); rintro e w2 ⟨rfl, hn2, hc2⟩; have hH2 := hd_ (hH1.out.stepH 1 hi2.out _ hn2 hc2); clear hn2 hc2)
            | (go_at_call 26; (with_reducible refine (hrZ_new w2).mono ?_); rintro e w3 ⟨xn, rfl, hn3, hb3⟩; have hH3 := hd_ (hH2.out.newX hb3 1 hi2.out xn _ hn3); have q3 := (hH2.out.keep hb3).cx 1 hi2.out; have z3 := (hH2.out.keep hb3).bx.frozen 1; clear hn3 hb3))
          go_roundw
          case rel => exact ⟨k + 1, G, _, _, _, _, by omega, by go_num, hd_ ⟨hH3.out, by rw [HRb.out]; have := HBd.out.1; omega, updL_bd (fun j hj => by rw [HRb.out]; have := HBd.out.2 j hj; omega) (by simp)⟩⟩
          case measure => (simp [intOf]; try omega)
        by_cases c4 : cc = 4
        · subst c4
          have hl60 : Hid ((L 1).length ≤ 1152921504606846976) := hd_ (by have := HBd.out.2 1 hi2.out; omega)
          obtain ⟨V, hV⟩ : ∃ V, V = savedL (L 1) := ⟨_, rfl⟩
          have hVl : Hid (V.length ≤ 120) := hd_ (by rw [hV]; exact savedL_length _)
          have hS1 := hd_ (fun W (h : HsZ W (G 1) (Z 1) (L 1)) => show Calls Try.prog 25 #[.pointer (some ⟨G 1, 0, none⟩)] W (RetF W V) by rw [hV]; exact h.l.save)
          have hS2 := hd_ (fun W (h : HrZ W (X 1) (Y 1) (L 1)) => show Calls Try.prog 30 #[.pointer (some ⟨X 1, 0, none⟩)] W (RetF W V) by rw [hV]; exact h.save hl60.out)
          have hS3 := hd_ (fun W y (h : Rd W y V) => show Calls Try.prog 31 #[y] W fun e w' => ∃ g, e = .returned (.tuple #[.pointer (some ⟨g, 0, none⟩), .int .i64 0]) ∧ HsZ w' g (Nw W w') (L 1) ∧ Below W.heap.size W w' from hsZ_load y (by rw [← hV]; exact h) hl60.out)
          clear hV
          go_upto_region 32 with fail
          have hHd := hd_ (hH1.out.keep (Below.refl w1.heap.size w1).drew)
          have hC0 : (fun W : World => W.cell? ⟨gh, 1, none⟩ = some (.pointer (some ⟨G 1, 0, none⟩)) ∧ W.cell? ⟨gx, 1, none⟩ = some (.pointer (some ⟨X 1, 0, none⟩))) w1.drew := ⟨hHd.out.ch 1 hi2.out, hHd.out.cx 1 hi2.out⟩
          refine region_J [] (fun W : World => W.cell? ⟨gh, 1, none⟩ = some (.pointer (some ⟨G 1, 0, none⟩)) ∧ W.cell? ⟨gx, 1, none⟩ = some (.pointer (some ⟨X 1, 0, none⟩))) rfl ?_
          have hBa := hd_ (Below.refl w1.heap.size w1).drew
          generalize w1.drew = wd at *
          refine take_J 0 _ _ (v := ?_) rfl (by kernel_rfl) (by kernel_rfl) (by kernel_rfl) (by kernel_rfl) (fun _ _ _ h => h) rfl hC0 ?_ ?_
          rotate_left
          · intro W hC; go_simp; try with_reducible rfl
          simp only [Act.put, List.setIfInBounds_toArray, List.set_cons_zero, List.set_cons_succ]
          refine take_J 1 _ _ (v := ?_) rfl (by kernel_rfl) (by kernel_rfl) (by kernel_rfl) (by kernel_rfl) (fun _ _ _ h => h) rfl hC0 ?_ ?_
          rotate_left
          · intro W hC; go_simp; try with_reducible rfl
          simp only [Act.put, List.setIfInBounds_toArray, List.set_cons_zero, List.set_cons_succ]
          refine take_J 2 _ _ (v := ?_) rfl (by kernel_rfl) (by kernel_rfl) (by kernel_rfl) (by kernel_rfl) (fun _ _ _ h => h) rfl hC0 ?_ ?_
          rotate_left
          · intro W hC; obtain ⟨z1, z2⟩ := hC; go_simp; try with_reducible rfl
          simp only [Act.put, List.setIfInBounds_toArray, List.set_cons_zero, List.set_cons_succ]
          refine take_J 4 _ _ (v := ?_) rfl (by kernel_rfl) (by kernel_rfl) (by kernel_rfl) (by kernel_rfl) (fun _ _ _ h => h) rfl hC0 ?_ ?_
          rotate_left
          · intro W hC; go_simp; try with_reducible rfl
          simp only [Act.put, List.setIfInBounds_toArray, List.set_cons_zero, List.set_cons_succ]
          refine take_J 5 _ _ (v := ?_) rfl (by kernel_rfl) (by kernel_rfl) (by kernel_rfl) (by kernel_rfl) (fun _ _ _ h => h) rfl hC0 ?_ ?_
          rotate_left
          · intro W hC; go_simp; try with_reducible rfl
          simp only [Act.put, List.setIfInBounds_toArray, List.set_cons_zero, List.set_cons_succ]
          refine take_J 6 _ _ (v := ?_) rfl (by kernel_rfl) (by kernel_rfl) (by kernel_rfl) (by kernel_rfl) (fun _ _ _ h => h) rfl hC0 ?_ ?_
          rotate_left
          · intro W hC; obtain ⟨z1, z2⟩ := hC; go_simp; try with_reducible rfl
          simp only [Act.put, List.setIfInBounds_toArray, List.set_cons_zero, List.set_cons_succ]
          refine ready_J 3 _ _ rfl (by kernel_rfl) rfl (fun K hK => ?_)
          go_simp
          with_reducible refine (hS1.out _ (hHd.out.h 1 hi2.out)).mono ?_
          rintro e w2 ⟨va, rfl, HFa, HBz⟩
          obtain ⟨Aa, ca, hva, _⟩ := HFa.rd.form
          subst hva
          have hFa := hd_ HFa
          clear HFa
          have hHe := hd_ (hHd.out.keep HBz)
          have hBb := hd_ (bel_trans hBa.out HBz)
          clear HBz
          have hC1 : (fun W : World => W.cell? ⟨gh, 1, none⟩ = some (.pointer (some ⟨G 1, 0, none⟩)) ∧ W.cell? ⟨gx, 1, none⟩ = some (.pointer (some ⟨X 1, 0, none⟩))) w2 := ⟨hHe.out.ch 1 hi2.out, hHe.out.cx 1 hi2.out⟩
          refine hK _ _ (fun _ => hC1) ?_
          clear hK K
          try simp only [Act.put, List.setIfInBounds_toArray, List.set_cons_zero, List.set_cons_succ]
          clear hC0
          have hC0 := hC1
          clear hC1
          refine ready_J 7 _ _ rfl (by kernel_rfl) rfl (fun K hK => ?_)
          go_simp
          with_reducible refine (hS1.out _ (hHe.out.h 1 hi2.out)).mono ?_
          rintro e w3 ⟨vb, rfl, HFb, HBz⟩
          obtain ⟨Abb, cbb, hvb, _⟩ := HFb.rd.form
          subst hvb
          have hFb := hd_ HFb
          have hFa3 := hd_ (hFa.out.keep HBz)
          have hs3 := hd_ HBz.size
          have hla := hd_ (fun k hk => hFa.out.lt k hk)
          have hlb := hd_ (fun k hk => HFb.lt k hk)
          clear HFb
          have hHf := hd_ (hHe.out.keep HBz)
          have hBc := hd_ (bel_trans hBb.out HBz)
          clear HBz
          have hC1 : (fun W : World => W.cell? ⟨gh, 1, none⟩ = some (.pointer (some ⟨G 1, 0, none⟩)) ∧ W.cell? ⟨gx, 1, none⟩ = some (.pointer (some ⟨X 1, 0, none⟩))) w3 := ⟨hHf.out.ch 1 hi2.out, hHf.out.cx 1 hi2.out⟩
          refine hK _ _ (fun _ => hC1) ?_
          clear hK K
          try simp only [Act.put, List.setIfInBounds_toArray, List.set_cons_zero, List.set_cons_succ]
          clear hC0
          have hC0 := hC1
          clear hC1 hFa
          refine take_J 8 _ _ (v := ?_) rfl (by kernel_rfl) (by kernel_rfl) (by kernel_rfl) (by kernel_rfl) (fun _ _ _ h => h) rfl hC0 ?_ ?_
          rotate_left
          · intro W hC; go_simp; try with_reducible rfl
          simp only [Act.put, List.setIfInBounds_toArray, List.set_cons_zero, List.set_cons_succ]
          refine take_J 9 _ _ (v := ?_) rfl (by kernel_rfl) (by kernel_rfl) (by kernel_rfl) (by kernel_rfl) (fun _ _ _ h => h) rfl hC0 ?_ ?_
          rotate_left
          · intro W hC; go_simp; try with_reducible rfl
          simp only [Act.put, List.setIfInBounds_toArray, List.set_cons_zero, List.set_cons_succ]
          refine wpAnyJ_done (by kernel_rfl) ?_ _
          clear hC0
          have q3 := hHf.out.cx 1 hi2.out
          go_upto_region 35 with (first
            | (go_at_call 30; (with_reducible refine (hS2.out _ (hHf.out.x 1 hi2.out)).mono ?_); rintro e w4 ⟨vc, rfl, HFc, HBc⟩; have hFa4 := hd_ (hFa3.out.keep HBc); have hFb4 := hd_ (hFb.out.keep HBc); have hHg := hd_ (hHf.out.keep HBc); have hB14 := hd_ (bel_trans hBc.out HBc); have hRc := hd_ HFc.rd; obtain ⟨Ac, cc9, hvc, _⟩ := HFc.rd.form; subst hvc; have hs4 := hd_ HBc.size; clear HFc HBc)
            | (go_at_call 29; (with_reducible refine (Same_any _ _ V V w4 hFa4.out.rd hRc.out).mono ?_); rintro e wz ⟨rfl, rfl⟩; rw [decide_eq_true rfl])
            | (go_at_call 29; (with_reducible refine (Same_any _ _ V V w4 hFb4.out.rd hFa4.out.rd).mono ?_); rintro e wz ⟨rfl, rfl⟩; rw [decide_eq_true rfl]))
          have e04 : w4.cell? ⟨gt, 0, none⟩ = some (.int .i64 4) := cell_keep hB14.out e0
          have hal := hd_ (al1 (Below.refl w4.heap.size w4) (.cells #[.slice Aa V.length ca, .slice Abb V.length cbb] 34))
          have hO1 := hd_ (Box.new w4 #[.slice Aa V.length ca, .slice Abb V.length cbb] 34)
          have hHo := hd_ (hHg.out.keep hal.out)
          have hFaO := hd_ (hFa4.out.keep hal.out)
          have hFbO := hd_ (hFb4.out.keep hal.out)
          have hgl : Hid (∀ k, ((Value.slice Aa V.length ca).ownBlock = some k ∨ (Value.slice Abb V.length cbb).ownBlock = some k) → k < w4.heap.size) := hd_ (fun k hk => by
            rcases hk with hk | hk
            · exact (hFa4.out.lt k hk).2
            · exact (hFb4.out.lt k hk).2)
          have hOwn := hd_ (Own2_any (.slice Aa V.length ca) (.slice Abb V.length cbb) V V w4.heap.size _ (.inr (hFaO.out.low (Nat.zero_le _))) (.inr (hFbO.out.low (Nat.zero_le _))) (hO1.out.cell 0 rfl) (hO1.out.cell 1 rfl) (by have := hVl.out; omega) (by have := hVl.out; omega) (fun k h1 h2 => by have := (hla.out k h1).2; have := (hlb.out k h2).1; omega) (fun h => by have := hgl.out _ (.inl h); omega) (fun h => by have := hgl.out _ (.inr h); omega))
          go_wp2_with fail
          with_reducible refine hOwn.out.mono ?_
          rintro e w9 ⟨rfl, hc9⟩
          have hHz := hd_ (hHo.out.other hc9 (fun b hb => by
            have hb1 : w1.heap.size ≤ b ∧ b < w3.heap.size := by
              rcases hb with hb | hb
              · obtain ⟨h1, h2⟩ := hla.out b hb; have := hBa.out.size; have := hBc.out.size; have := hs3.out; exact ⟨by omega, by omega⟩
              · obtain ⟨h1, h2⟩ := hlb.out b hb; have := hBb.out.size; exact ⟨by omega, h2⟩
            have h2 := hgt.out
            refine ⟨by omega, by omega, by omega, fun i hi => ⟨fun hz => ?_, fun hy => ?_⟩⟩
            · have := hzt.out i hi _ (.inl hz); omega
            · have := hzt.out i hi _ (.inr hy); omega))
          clear hc9 hHo hFaO hFbO hal hO1 hOwn
          go_wp2
          go_roundw
          case rel => exact ⟨k + 1, G, X, _, _, L, by omega, by go_num, hd_ ⟨hHz.out, by rw [HRb.out]; have := HBd.out.1; omega, fun j hj => by rw [HRb.out]; have := HBd.out.2 j hj; omega⟩⟩
          case measure => (simp [intOf]; try omega)
        by_cases c5 : cc = 5
        · subst c5
          have hl60 : Hid ((L 1).length ≤ 1152921504606846976) := hd_ (by have := HBd.out.2 1 hi2.out; omega)
          obtain ⟨V, hV⟩ : ∃ V, V = savedL (L 1) := ⟨_, rfl⟩
          have hVl : Hid (V.length ≤ 120) := hd_ (by rw [hV]; exact savedL_length _)
          have hS1 := hd_ (fun W (h : HsZ W (G 1) (Z 1) (L 1)) => show Calls Try.prog 25 #[.pointer (some ⟨G 1, 0, none⟩)] W (RetF W V) by rw [hV]; exact h.l.save)
          have hS2 := hd_ (fun W (h : HrZ W (X 1) (Y 1) (L 1)) => show Calls Try.prog 30 #[.pointer (some ⟨X 1, 0, none⟩)] W (RetF W V) by rw [hV]; exact h.save hl60.out)
          have hS3 := hd_ (fun W y (h : Rd W y V) => show Calls Try.prog 31 #[y] W fun e w' => ∃ g, e = .returned (.tuple #[.pointer (some ⟨g, 0, none⟩), .int .i64 0]) ∧ HsZ w' g (Nw W w') (L 1) ∧ Below W.heap.size W w' from hsZ_load y (by rw [← hV]; exact h) hl60.out)
          clear hV
          go_upto_region 32 with fail
          have hHd := hd_ (hH1.out.keep (Below.refl w1.heap.size w1).drew)
          have hC0 : (fun W : World => W.cell? ⟨gh, 1, none⟩ = some (.pointer (some ⟨G 1, 0, none⟩)) ∧ W.cell? ⟨gx, 1, none⟩ = some (.pointer (some ⟨X 1, 0, none⟩))) w1.drew := ⟨hHd.out.ch 1 hi2.out, hHd.out.cx 1 hi2.out⟩
          refine region_J [] (fun W : World => W.cell? ⟨gh, 1, none⟩ = some (.pointer (some ⟨G 1, 0, none⟩)) ∧ W.cell? ⟨gx, 1, none⟩ = some (.pointer (some ⟨X 1, 0, none⟩))) rfl ?_
          have hBa := hd_ (Below.refl w1.heap.size w1).drew
          generalize w1.drew = wd at *
          refine take_J 0 _ _ (v := ?_) rfl (by kernel_rfl) (by kernel_rfl) (by kernel_rfl) (by kernel_rfl) (fun _ _ _ h => h) rfl hC0 ?_ ?_
          rotate_left
          · intro W hC; go_simp; try with_reducible rfl
          simp only [Act.put, List.setIfInBounds_toArray, List.set_cons_zero, List.set_cons_succ]
          refine take_J 1 _ _ (v := ?_) rfl (by kernel_rfl) (by kernel_rfl) (by kernel_rfl) (by kernel_rfl) (fun _ _ _ h => h) rfl hC0 ?_ ?_
          rotate_left
          · intro W hC; go_simp; try with_reducible rfl
          simp only [Act.put, List.setIfInBounds_toArray, List.set_cons_zero, List.set_cons_succ]
          refine take_J 2 _ _ (v := ?_) rfl (by kernel_rfl) (by kernel_rfl) (by kernel_rfl) (by kernel_rfl) (fun _ _ _ h => h) rfl hC0 ?_ ?_
          rotate_left
          · intro W hC; obtain ⟨z1, z2⟩ := hC; go_simp; try with_reducible rfl
          simp only [Act.put, List.setIfInBounds_toArray, List.set_cons_zero, List.set_cons_succ]
          refine take_J 4 _ _ (v := ?_) rfl (by kernel_rfl) (by kernel_rfl) (by kernel_rfl) (by kernel_rfl) (fun _ _ _ h => h) rfl hC0 ?_ ?_
          rotate_left
          · intro W hC; go_simp; try with_reducible rfl
          simp only [Act.put, List.setIfInBounds_toArray, List.set_cons_zero, List.set_cons_succ]
          refine take_J 5 _ _ (v := ?_) rfl (by kernel_rfl) (by kernel_rfl) (by kernel_rfl) (by kernel_rfl) (fun _ _ _ h => h) rfl hC0 ?_ ?_
          rotate_left
          · intro W hC; go_simp; try with_reducible rfl
          simp only [Act.put, List.setIfInBounds_toArray, List.set_cons_zero, List.set_cons_succ]
          refine take_J 6 _ _ (v := ?_) rfl (by kernel_rfl) (by kernel_rfl) (by kernel_rfl) (by kernel_rfl) (fun _ _ _ h => h) rfl hC0 ?_ ?_
          rotate_left
          · intro W hC; obtain ⟨z1, z2⟩ := hC; go_simp; try with_reducible rfl
          simp only [Act.put, List.setIfInBounds_toArray, List.set_cons_zero, List.set_cons_succ]
          refine ready_J 3 _ _ rfl (by kernel_rfl) rfl (fun K hK => ?_)
          go_simp
          with_reducible refine (hS1.out _ (hHd.out.h 1 hi2.out)).mono ?_
          rintro e w2 ⟨va, rfl, HFa, HBz⟩
          obtain ⟨Aa, ca, hva, _⟩ := HFa.rd.form
          subst hva
          have hFa := hd_ HFa
          clear HFa
          have hHe := hd_ (hHd.out.keep HBz)
          have hBb := hd_ (bel_trans hBa.out HBz)
          clear HBz
          have hC1 : (fun W : World => W.cell? ⟨gh, 1, none⟩ = some (.pointer (some ⟨G 1, 0, none⟩)) ∧ W.cell? ⟨gx, 1, none⟩ = some (.pointer (some ⟨X 1, 0, none⟩))) w2 := ⟨hHe.out.ch 1 hi2.out, hHe.out.cx 1 hi2.out⟩
          refine hK _ _ (fun _ => hC1) ?_
          clear hK K
          try simp only [Act.put, List.setIfInBounds_toArray, List.set_cons_zero, List.set_cons_succ]
          clear hC0
          have hC0 := hC1
          clear hC1
          refine ready_J 7 _ _ rfl (by kernel_rfl) rfl (fun K hK => ?_)
          go_simp
          with_reducible refine (hS1.out _ (hHe.out.h 1 hi2.out)).mono ?_
          rintro e w3 ⟨vb, rfl, HFb, HBz⟩
          obtain ⟨Abb, cbb, hvb, _⟩ := HFb.rd.form
          subst hvb
          have hFb := hd_ HFb
          have hFa3 := hd_ (hFa.out.keep HBz)
          have hs3 := hd_ HBz.size
          have hla := hd_ (fun k hk => hFa.out.lt k hk)
          have hlb := hd_ (fun k hk => HFb.lt k hk)
          clear HFb
          have hHf := hd_ (hHe.out.keep HBz)
          have hBc := hd_ (bel_trans hBb.out HBz)
          clear HBz
          have hC1 : (fun W : World => W.cell? ⟨gh, 1, none⟩ = some (.pointer (some ⟨G 1, 0, none⟩)) ∧ W.cell? ⟨gx, 1, none⟩ = some (.pointer (some ⟨X 1, 0, none⟩))) w3 := ⟨hHf.out.ch 1 hi2.out, hHf.out.cx 1 hi2.out⟩
          refine hK _ _ (fun _ => hC1) ?_
          clear hK K
          try simp only [Act.put, List.setIfInBounds_toArray, List.set_cons_zero, List.set_cons_succ]
          clear hC0
          have hC0 := hC1
          clear hC1 hFa
          refine take_J 8 _ _ (v := ?_) rfl (by kernel_rfl) (by kernel_rfl) (by kernel_rfl) (by kernel_rfl) (fun _ _ _ h => h) rfl hC0 ?_ ?_
          rotate_left
          · intro W hC; go_simp; try with_reducible rfl
          simp only [Act.put, List.setIfInBounds_toArray, List.set_cons_zero, List.set_cons_succ]
          refine take_J 9 _ _ (v := ?_) rfl (by kernel_rfl) (by kernel_rfl) (by kernel_rfl) (by kernel_rfl) (fun _ _ _ h => h) rfl hC0 ?_ ?_
          rotate_left
          · intro W hC; go_simp; try with_reducible rfl
          simp only [Act.put, List.setIfInBounds_toArray, List.set_cons_zero, List.set_cons_succ]
          refine wpAnyJ_done (by kernel_rfl) ?_ _
          clear hC0
          have q3 := hHf.out.cx 1 hi2.out
          go_upto_region 35 with (first
            | (go_at_call 30; (with_reducible refine (hS2.out _ (hHf.out.x 1 hi2.out)).mono ?_); rintro e w4 ⟨vc, rfl, HFc, HBc⟩; have hFa4 := hd_ (hFa3.out.keep HBc); have hFb4 := hd_ (hFb.out.keep HBc); have hHg := hd_ (hHf.out.keep HBc); have hB14 := hd_ (bel_trans hBc.out HBc); have hRc := hd_ HFc.rd; obtain ⟨Ac, cc9, hvc, _⟩ := HFc.rd.form; subst hvc; have hs4 := hd_ HBc.size; clear HFc HBc)
            | (go_at_call 29; (with_reducible refine (Same_any _ _ V V w4 hFa4.out.rd hRc.out).mono ?_); rintro e wz ⟨rfl, rfl⟩; rw [decide_eq_true rfl])
            | (go_at_call 29; (with_reducible refine (Same_any _ _ V V w4 hFb4.out.rd hFa4.out.rd).mono ?_); rintro e wz ⟨rfl, rfl⟩; rw [decide_eq_true rfl]))
          have e04 : w4.cell? ⟨gt, 0, none⟩ = some (.int .i64 5) := cell_keep hB14.out e0
          go_upto_region 39 with (go_at_call 31; (with_reducible refine (hS3.out w4 _ hFa4.out.rd).mono ?_); rintro e w5' ⟨gn, rfl, hn5, hb5⟩; have hH5 := hd_ (hHg.out.newH hb5 1 hi2.out gn _ hn5); have q5 := (hHg.out.keep hb5).ch 1 hi2.out; have z5 := (hHg.out.keep hb5).bh.frozen 1; have hcp := hd_ (chg_put w5' gh 1 (.pointer (some ⟨gn, 0, none⟩))); have hFa5 := hd_ ((hFa4.out.keep hb5).chg hcp.out (fun k hk e => by have := (hla.out k hk).1; have := hBa.out.size; have := hgt.out; omega)); have hFb5 := hd_ ((hFb4.out.keep hb5).chg hcp.out (fun k hk e => by have := (hlb.out k hk).1; have := hBb.out.size; have := hgt.out; omega)); clear hn5 hb5 hcp)
          go_upto_region 40 with fail
          generalize w5'.setCell ⟨gh, 1, none⟩ (.pointer (some ⟨gn, 0, none⟩)) = w6 at *
          have hal := hd_ (al1 (Below.refl w6.heap.size w6) (.cells #[.slice Aa V.length ca, .slice Abb V.length cbb] 34))
          have hO1 := hd_ (Box.new w6 #[.slice Aa V.length ca, .slice Abb V.length cbb] 34)
          have hHo := hd_ (hH5.out.keep hal.out)
          have hFaO := hd_ (hFa5.out.keep hal.out)
          have hFbO := hd_ (hFb5.out.keep hal.out)
          have hgl : Hid (∀ k, ((Value.slice Aa V.length ca).ownBlock = some k ∨ (Value.slice Abb V.length cbb).ownBlock = some k) → k < w6.heap.size) := hd_ (fun k hk => by
            rcases hk with hk | hk
            · exact (hFa5.out.lt k hk).2
            · exact (hFb5.out.lt k hk).2)
          have hOwn := hd_ (Own2_any (.slice Aa V.length ca) (.slice Abb V.length cbb) V V w6.heap.size _ (.inr (hFaO.out.low (Nat.zero_le _))) (.inr (hFbO.out.low (Nat.zero_le _))) (hO1.out.cell 0 rfl) (hO1.out.cell 1 rfl) (by have := hVl.out; omega) (by have := hVl.out; omega) (fun k h1 h2 => by have := (hla.out k h1).2; have := (hlb.out k h2).1; omega) (fun h => by have := hgl.out _ (.inl h); omega) (fun h => by have := hgl.out _ (.inr h); omega))
          go_wp2_with fail
          with_reducible refine hOwn.out.mono ?_
          rintro e w9 ⟨rfl, hc9⟩
          have hHz := hd_ (hHo.out.other hc9 (fun b hb => by
            have hb1 : w1.heap.size ≤ b ∧ b < w3.heap.size := by
              rcases hb with hb | hb
              · obtain ⟨h1, h2⟩ := hla.out b hb; have := hBa.out.size; have := hBc.out.size; have := hs3.out; exact ⟨by omega, by omega⟩
              · obtain ⟨h1, h2⟩ := hlb.out b hb; have := hBb.out.size; exact ⟨by omega, h2⟩
            have h2 := hgt.out
            refine ⟨by omega, by omega, by omega, fun i hi => ⟨fun hz => ?_, fun hy => ?_⟩⟩
            · unfold updZ at hz
              split at hz
              · have := hz.1; have := hs4.out; omega
              · have := hzt.out i hi _ (.inl hz); omega
            · have := hzt.out i hi _ (.inr hy); omega))
          clear hc9 hHo hFaO hFbO hal hO1 hOwn
          go_wp2
          go_roundw
          case rel => exact ⟨k + 1, _, X, _, _, _, by omega, by go_num, hd_ ⟨(by have h := hHz.out; have e9 : updL L 1 (L 1) = L := funext (fun j => by unfold updL; split <;> simp_all); rw [e9] at h; exact h), by rw [HRb.out]; have := HBd.out.1; omega, fun j hj => by rw [HRb.out]; have := HBd.out.2 j hj; omega⟩⟩
          case measure => (simp [intOf]; try omega)
        go_wp2
        go_roundw
        case rel => exact ⟨k + 1, G, X, _, _, L, by omega, by go_num, hd_ ⟨hH1.out, by rw [HRb.out]; have := HBd.out.1; omega, fun j hj => by rw [HRb.out]; have := HBd.out.2 j hj; omega⟩⟩
        case measure => (simp [intOf]; try omega)
    · obtain rfl : k = x.length := by omega
      have hF := hd_ HI.out.1
      have hL0 : Hid ((L 0).length ≤ 1048576) := hd_ (by have := HI.out.2.2 0 (by omega); omega)
      have hL1 : Hid ((L 1).length ≤ 1048576) := hd_ (by have := HI.out.2.2 1 (by omega); omega)
      clear HI
      go_upto_region 43 with fail
      obtain ⟨D0, hD0⟩ : ∃ D, D = digL (L 0) := ⟨_, rfl⟩
      have hDs0 : D0.length = 32 := by rw [hD0, digL_length]
      have heq0 := eqDg D0 D0 hDs0 hDs0
      rw [decide_eq_true rfl] at heq0
      obtain ⟨D1, hD1⟩ : ∃ D, D = digL (L 1) := ⟨_, rfl⟩
      have hDs1 : D1.length = 32 := by rw [hD1, digL_length]
      have heq1 := eqDg D1 D1 hDs1 hDs1
      rw [decide_eq_true rfl] at heq1
      have hSh0 := hd_ (fun W (h : HsZ W (G 0) (Z 0) (L 0)) => show Calls Try.prog 21 #[.pointer (some ⟨G 0, 0, none⟩)] W fun e w' => e = .returned (.agg (u8A D0)) ∧ Below W.heap.size W w' by rw [hD0]; exact h.l.sum)
      have hSx0 := hd_ (fun W (h : HrZ W (X 0) (Y 0) (L 0)) => show Calls Try.prog 28 #[.pointer (some ⟨X 0, 0, none⟩)] W fun e w' => e = .returned (.agg (u8A D0)) ∧ Below W.heap.size W w' by rw [hD0]; exact h.sum)
      have hSh1 := hd_ (fun W (h : HsZ W (G 1) (Z 1) (L 1)) => show Calls Try.prog 21 #[.pointer (some ⟨G 1, 0, none⟩)] W fun e w' => e = .returned (.agg (u8A D1)) ∧ Below W.heap.size W w' by rw [hD1]; exact h.l.sum)
      have hSx1 := hd_ (fun W (h : HrZ W (X 1) (Y 1) (L 1)) => show Calls Try.prog 28 #[.pointer (some ⟨X 1, 0, none⟩)] W fun e w' => e = .returned (.agg (u8A D1)) ∧ Below W.heap.size W w' by rw [hD1]; exact h.sum)
      clear hD0 hD1 hDs0 hDs1
      have hFz := hd_ (hF.out.keep (Below.refl wr.heap.size wr).drew)
      have hC0 : (fun W : World => W.cell? ⟨gh, 0, none⟩ = some (.pointer (some ⟨G 0, 0, none⟩)) ∧ W.cell? ⟨gh, 1, none⟩ = some (.pointer (some ⟨G 1, 0, none⟩)) ∧ W.cell? ⟨gx, 0, none⟩ = some (.pointer (some ⟨X 0, 0, none⟩)) ∧ W.cell? ⟨gx, 1, none⟩ = some (.pointer (some ⟨X 1, 0, none⟩)) ∧ W.cell? ⟨X 0, 8, none⟩ = some (.int .i64 ((L 0).length : Int))) wr.drew := ⟨hFz.out.ch 0 (by decide), hFz.out.ch 1 (by decide), hFz.out.cx 0 (by decide), hFz.out.cx 1 (by decide), (hFz.out.x 0 (by decide)).len8 (by have := hL0.out; omega)⟩
      refine region_J [] (fun W : World => W.cell? ⟨gh, 0, none⟩ = some (.pointer (some ⟨G 0, 0, none⟩)) ∧ W.cell? ⟨gh, 1, none⟩ = some (.pointer (some ⟨G 1, 0, none⟩)) ∧ W.cell? ⟨gx, 0, none⟩ = some (.pointer (some ⟨X 0, 0, none⟩)) ∧ W.cell? ⟨gx, 1, none⟩ = some (.pointer (some ⟨X 1, 0, none⟩)) ∧ W.cell? ⟨X 0, 8, none⟩ = some (.int .i64 ((L 0).length : Int))) rfl ?_
      generalize wr.drew = wd at *
      refine take_J 0 _ _ (v := ?_) rfl (by kernel_rfl) (by kernel_rfl) (by kernel_rfl) (by kernel_rfl) (fun _ _ _ h => h) rfl hC0 ?_ ?_
      rotate_left
      · intro W hC; obtain ⟨z1, z2, z3, z4, z5⟩ := hC; go_simp; try with_reducible rfl
      simp only [Act.put, List.setIfInBounds_toArray, List.set_cons_zero, List.set_cons_succ]
      refine take_J 1 _ _ (v := ?_) rfl (by kernel_rfl) (by kernel_rfl) (by kernel_rfl) (by kernel_rfl) (fun _ _ _ h => h) rfl hC0 ?_ ?_
      rotate_left
      · intro W hC; obtain ⟨z1, z2, z3, z4, z5⟩ := hC; go_simp; try with_reducible rfl
      simp only [Act.put, List.setIfInBounds_toArray, List.set_cons_zero, List.set_cons_succ]
      refine take_J 3 _ _ (v := ?_) rfl (by kernel_rfl) (by kernel_rfl) (by kernel_rfl) (by kernel_rfl) (fun _ _ _ h => h) rfl hC0 ?_ ?_
      rotate_left
      · intro W hC; obtain ⟨z1, z2, z3, z4, z5⟩ := hC; go_simp; try with_reducible rfl
      simp only [Act.put, List.setIfInBounds_toArray, List.set_cons_zero, List.set_cons_succ]
      refine take_J 4 _ _ (v := ?_) rfl (by kernel_rfl) (by kernel_rfl) (by kernel_rfl) (by kernel_rfl) (fun _ _ _ h => h) rfl hC0 ?_ ?_
      rotate_left
      · intro W hC; obtain ⟨z1, z2, z3, z4, z5⟩ := hC; go_simp; try with_reducible rfl
      simp only [Act.put, List.setIfInBounds_toArray, List.set_cons_zero, List.set_cons_succ]
      refine ready_J 2 _ _ rfl (by kernel_rfl) rfl (fun K hK => ?_)
      go_simp
      with_reducible refine (hSh0.out _ (hFz.out.h 0 (by decide))).mono ?_
      rintro e wa ⟨rfl, HBz⟩
      have hFa := hd_ (hFz.out.keep HBz)
      clear HBz
      have hC1 : (fun W : World => W.cell? ⟨gh, 0, none⟩ = some (.pointer (some ⟨G 0, 0, none⟩)) ∧ W.cell? ⟨gh, 1, none⟩ = some (.pointer (some ⟨G 1, 0, none⟩)) ∧ W.cell? ⟨gx, 0, none⟩ = some (.pointer (some ⟨X 0, 0, none⟩)) ∧ W.cell? ⟨gx, 1, none⟩ = some (.pointer (some ⟨X 1, 0, none⟩)) ∧ W.cell? ⟨X 0, 8, none⟩ = some (.int .i64 ((L 0).length : Int))) wa := ⟨hFa.out.ch 0 (by decide), hFa.out.ch 1 (by decide), hFa.out.cx 0 (by decide), hFa.out.cx 1 (by decide), (hFa.out.x 0 (by decide)).len8 (by have := hL0.out; omega)⟩
      refine hK _ _ (fun _ => hC1) ?_
      clear hK K
      try simp only [Act.put, List.setIfInBounds_toArray, List.set_cons_zero, List.set_cons_succ]
      clear hC0
      have hC0 := hC1
      clear hC1
      refine ready_J 5 _ _ rfl (by kernel_rfl) rfl (fun K hK => ?_)
      go_simp
      with_reducible refine (hSx0.out _ (hFa.out.x 0 (by decide))).mono ?_
      rintro e wb ⟨rfl, HBz⟩
      have hFb := hd_ (hFa.out.keep HBz)
      clear HBz
      have hC1 : (fun W : World => W.cell? ⟨gh, 0, none⟩ = some (.pointer (some ⟨G 0, 0, none⟩)) ∧ W.cell? ⟨gh, 1, none⟩ = some (.pointer (some ⟨G 1, 0, none⟩)) ∧ W.cell? ⟨gx, 0, none⟩ = some (.pointer (some ⟨X 0, 0, none⟩)) ∧ W.cell? ⟨gx, 1, none⟩ = some (.pointer (some ⟨X 1, 0, none⟩)) ∧ W.cell? ⟨X 0, 8, none⟩ = some (.int .i64 ((L 0).length : Int))) wb := ⟨hFb.out.ch 0 (by decide), hFb.out.ch 1 (by decide), hFb.out.cx 0 (by decide), hFb.out.cx 1 (by decide), (hFb.out.x 0 (by decide)).len8 (by have := hL0.out; omega)⟩
      refine hK _ _ (fun _ => hC1) ?_
      clear hK K
      try simp only [Act.put, List.setIfInBounds_toArray, List.set_cons_zero, List.set_cons_succ]
      clear hC0
      have hC0 := hC1
      clear hC1
      refine take_J 6 _ _ (v := ?_) rfl (by kernel_rfl) (by kernel_rfl) (by kernel_rfl) (by kernel_rfl) (fun _ _ _ h => h) rfl hC0 ?_ ?_
      rotate_left
      · intro W hC; go_simp; try with_reducible rfl
      simp only [Act.put, List.setIfInBounds_toArray, List.set_cons_zero, List.set_cons_succ]
      refine take_J 7 _ _ (v := ?_) rfl (by kernel_rfl) (by kernel_rfl) (by kernel_rfl) (by kernel_rfl) (fun _ _ _ h => h) rfl hC0 ?_ ?_
      rotate_left
      · intro W hC; go_simp; try with_reducible rfl
      simp only [Act.put, List.setIfInBounds_toArray, List.set_cons_zero, List.set_cons_succ]
      refine take_JW 8 _ _ (v := ?_) rfl (by kernel_rfl) (by kernel_rfl) (by kernel_rfl) (by kernel_rfl) (fun _ _ _ h => h) rfl hC0 ?_ ?_
      rotate_left
      · intro W hC; obtain ⟨z1, z2, z3, z4, z5⟩ := hC; go_simp; try with_reducible rfl
      simp only [Act.put, List.setIfInBounds_toArray, List.set_cons_zero, List.set_cons_succ]
      refine take_JW 9 _ _ (v := ?_) rfl (by kernel_rfl) (by kernel_rfl) (by kernel_rfl) (by kernel_rfl) (fun _ _ _ h => h) rfl hC0 ?_ ?_
      rotate_left
      · intro W hC; obtain ⟨z1, z2, z3, z4, z5⟩ := hC; go_simp; try with_reducible rfl
      simp only [Act.put, List.setIfInBounds_toArray, List.set_cons_zero, List.set_cons_succ]
      refine take_JW 11 _ _ (v := ?_) rfl (by kernel_rfl) (by kernel_rfl) (by kernel_rfl) (by kernel_rfl) (fun _ _ _ h => h) rfl hC0 ?_ ?_
      rotate_left
      · intro W hC; obtain ⟨z1, z2, z3, z4, z5⟩ := hC; go_simp; try with_reducible rfl
      simp only [Act.put, List.setIfInBounds_toArray, List.set_cons_zero, List.set_cons_succ]
      refine take_JW 12 _ _ (v := ?_) rfl (by kernel_rfl) (by kernel_rfl) (by kernel_rfl) (by kernel_rfl) (fun _ _ _ h => h) rfl hC0 ?_ ?_
      rotate_left
      · intro W hC; obtain ⟨z1, z2, z3, z4, z5⟩ := hC; go_simp; try with_reducible rfl
      simp only [Act.put, List.setIfInBounds_toArray, List.set_cons_zero, List.set_cons_succ]
      refine ready_JW 10 _ _ rfl (by kernel_rfl) rfl (fun K hK => ?_)
      go_simp
      with_reducible refine (hSh1.out _ (hFb.out.h 1 (by decide))).mono ?_
      rintro e wc ⟨rfl, HBz⟩
      have hFc := hd_ (hFb.out.keep HBz)
      clear HBz
      have hC1 : (fun W : World => W.cell? ⟨gh, 0, none⟩ = some (.pointer (some ⟨G 0, 0, none⟩)) ∧ W.cell? ⟨gh, 1, none⟩ = some (.pointer (some ⟨G 1, 0, none⟩)) ∧ W.cell? ⟨gx, 0, none⟩ = some (.pointer (some ⟨X 0, 0, none⟩)) ∧ W.cell? ⟨gx, 1, none⟩ = some (.pointer (some ⟨X 1, 0, none⟩)) ∧ W.cell? ⟨X 0, 8, none⟩ = some (.int .i64 ((L 0).length : Int))) wc := ⟨hFc.out.ch 0 (by decide), hFc.out.ch 1 (by decide), hFc.out.cx 0 (by decide), hFc.out.cx 1 (by decide), (hFc.out.x 0 (by decide)).len8 (by have := hL0.out; omega)⟩
      refine hK _ _ (fun _ => hC1) ?_
      clear hK K
      try simp only [Act.put, List.setIfInBounds_toArray, List.set_cons_zero, List.set_cons_succ]
      clear hC0
      have hC0 := hC1
      clear hC1
      refine ready_JW 13 _ _ rfl (by kernel_rfl) rfl (fun K hK => ?_)
      go_simp
      with_reducible refine (hSx1.out _ (hFc.out.x 1 (by decide))).mono ?_
      rintro e we ⟨rfl, HBz⟩
      have hFe := hd_ (hFc.out.keep HBz)
      clear HBz
      have hC1 : (fun W : World => W.cell? ⟨gh, 0, none⟩ = some (.pointer (some ⟨G 0, 0, none⟩)) ∧ W.cell? ⟨gh, 1, none⟩ = some (.pointer (some ⟨G 1, 0, none⟩)) ∧ W.cell? ⟨gx, 0, none⟩ = some (.pointer (some ⟨X 0, 0, none⟩)) ∧ W.cell? ⟨gx, 1, none⟩ = some (.pointer (some ⟨X 1, 0, none⟩)) ∧ W.cell? ⟨X 0, 8, none⟩ = some (.int .i64 ((L 0).length : Int))) we := ⟨hFe.out.ch 0 (by decide), hFe.out.ch 1 (by decide), hFe.out.cx 0 (by decide), hFe.out.cx 1 (by decide), (hFe.out.x 0 (by decide)).len8 (by have := hL0.out; omega)⟩
      refine hK _ _ (fun _ => hC1) ?_
      clear hK K
      try simp only [Act.put, List.setIfInBounds_toArray, List.set_cons_zero, List.set_cons_succ]
      clear hC0
      have hC0 := hC1
      clear hC1
      refine take_JW 14 _ _ (v := ?_) rfl (by kernel_rfl) (by kernel_rfl) (by kernel_rfl) (by kernel_rfl) (fun _ _ _ h => h) rfl hC0 ?_ ?_
      rotate_left
      · intro W hC; go_simp; try with_reducible rfl
      simp only [Act.put, List.setIfInBounds_toArray, List.set_cons_zero, List.set_cons_succ]
      refine take_J 15 _ _ (v := ?_) rfl (by kernel_rfl) (by kernel_rfl) (by kernel_rfl) (by kernel_rfl) (fun _ _ _ h => h) rfl hC0 ?_ ?_
      rotate_left
      · intro W hC; go_simp; try with_reducible rfl
      simp only [Act.put, List.setIfInBounds_toArray, List.set_cons_zero, List.set_cons_succ]
      refine take_J 16 _ _ (v := ?_) rfl (by kernel_rfl) (by kernel_rfl) (by kernel_rfl) (by kernel_rfl) (fun _ _ _ h => h) rfl hC0 ?_ ?_
      rotate_left
      · intro W hC; go_simp; try with_reducible rfl
      simp only [Act.put, List.setIfInBounds_toArray, List.set_cons_zero, List.set_cons_succ]
      refine take_JW 17 _ _ (v := ?_) rfl (by kernel_rfl) (by kernel_rfl) (by kernel_rfl) (by kernel_rfl) (fun _ _ _ h => h) rfl hC0 ?_ ?_
      rotate_left
      · intro W hC; obtain ⟨z1, z2, z3, z4, z5⟩ := hC; go_simp; try with_reducible rfl
      simp only [Act.put, List.setIfInBounds_toArray, List.set_cons_zero, List.set_cons_succ]
      refine take_JW 18 _ _ (v := ?_) rfl (by kernel_rfl) (by kernel_rfl) (by kernel_rfl) (by kernel_rfl) (fun _ _ _ h => h) rfl hC0 ?_ ?_
      rotate_left
      · intro W hC; obtain ⟨z1, z2, z3, z4, z5⟩ := hC; go_simp; try with_reducible rfl
      simp only [Act.put, List.setIfInBounds_toArray, List.set_cons_zero, List.set_cons_succ]
      refine take_JW 20 _ _ (v := ?_) rfl (by kernel_rfl) (by kernel_rfl) (by kernel_rfl) (by kernel_rfl) (fun _ _ _ h => h) rfl hC0 ?_ ?_
      rotate_left
      · intro W hC; obtain ⟨z1, z2, z3, z4, z5⟩ := hC; go_simp; try with_reducible rfl
      simp only [Act.put, List.setIfInBounds_toArray, List.set_cons_zero, List.set_cons_succ]
      refine take_JW 21 _ _ (v := ?_) rfl (by kernel_rfl) (by kernel_rfl) (by kernel_rfl) (by kernel_rfl) (fun _ _ _ h => h) rfl hC0 ?_ ?_
      rotate_left
      · intro W hC; obtain ⟨z1, z2, z3, z4, z5⟩ := hC; go_simp; try with_reducible rfl
      simp only [Act.put, List.setIfInBounds_toArray, List.set_cons_zero, List.set_cons_succ]
      refine take_JW 22 _ _ (v := ?_) rfl (by kernel_rfl) (by kernel_rfl) (by kernel_rfl) (by kernel_rfl) (fun _ _ _ h => h) rfl hC0 ?_ ?_
      rotate_left
      · intro W hC; obtain ⟨z1, z2, z3, z4, z5⟩ := hC; go_simp; try with_reducible rfl
      simp only [Act.put, List.setIfInBounds_toArray, List.set_cons_zero, List.set_cons_succ]
      refine take_JW 23 _ _ (v := ?_) rfl (by kernel_rfl) (by kernel_rfl) (by kernel_rfl) (by kernel_rfl) (fun _ _ _ h => h) rfl hC0 ?_ ?_
      rotate_left
      · intro W hC; obtain ⟨z1, z2, z3, z4, z5⟩ := hC; go_simp; try with_reducible rfl
      simp only [Act.put, List.setIfInBounds_toArray, List.set_cons_zero, List.set_cons_succ]
      refine take_JW 24 _ _ (v := ?_) rfl (by kernel_rfl) (by kernel_rfl) (by kernel_rfl) (by kernel_rfl) (fun _ _ _ h => h) rfl hC0 ?_ ?_
      rotate_left
      · intro W hC; obtain ⟨z1, z2, z3, z4, z5⟩ := hC; go_simp; try with_reducible rfl
      simp only [Act.put, List.setIfInBounds_toArray, List.set_cons_zero, List.set_cons_succ]
      refine ready_JW 19 _ _ rfl (by kernel_rfl) rfl (fun K hK => ?_)
      go_simp
      with_reducible refine (HsL.len (hFe.out.h 0 (by decide)).l (by have := hL0.out; omega)).mono ?_
      rintro e wf ⟨rfl, rfl⟩
      refine hK _ _ (fun _ => hC0) ?_
      clear hK K
      try simp only [Act.put, List.setIfInBounds_toArray, List.set_cons_zero, List.set_cons_succ]
      refine take_JW 25 _ _ (v := ?_) rfl (by kernel_rfl) (by kernel_rfl) (by kernel_rfl) (by kernel_rfl) (fun _ _ _ h => h) rfl hC0 ?_ ?_
      rotate_left
      · intro W hC; go_simp; try with_reducible rfl
      simp only [Act.put, List.setIfInBounds_toArray, List.set_cons_zero, List.set_cons_succ]
      refine take_J 26 _ _ (v := ?_) rfl (by kernel_rfl) (by kernel_rfl) (by kernel_rfl) (by kernel_rfl) (fun _ _ _ h => h) rfl hC0 ?_ ?_
      rotate_left
      · intro W hC; go_simp; try with_reducible rfl
      simp only [Act.put, List.setIfInBounds_toArray, List.set_cons_zero, List.set_cons_succ]
      refine take_J 27 _ _ (v := ?_) rfl (by kernel_rfl) (by kernel_rfl) (by kernel_rfl) (by kernel_rfl) (fun _ _ _ h => h) rfl hC0 ?_ ?_
      rotate_left
      · intro W hC; go_simp; try with_reducible rfl
      simp only [Act.put, List.setIfInBounds_toArray, List.set_cons_zero, List.set_cons_succ]
      refine wpAnyJ_done (by kernel_rfl) ?_ _
      clear hC0 heq0 heq1
      go_wp2
      go_ret
      exact ⟨rfl, hFe.out.bel⟩
end Go.Proofs.Ytcaljnlicohkaaa
