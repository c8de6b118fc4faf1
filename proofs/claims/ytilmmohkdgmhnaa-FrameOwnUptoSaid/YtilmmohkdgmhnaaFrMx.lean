/- What a world holds and how rows grow: merged out of Mem9, Mem10, Mem11, OwnF, Leb, Lend, CpA, OwA. -/
import Derived.Test.YtilmmohkdgmhnaaMem8
import Derived.Deep.MidRow
import Derived.ArgAppend
import Derived.Deep.Upon
import Derived.Test.YtilmmohkdgmhnaaMem6
import Derived.Test.YtilmmohkdgmhnaaCrcD
import Derived.Deep.QuietTactic
import Derived.BigQuiet
import Derived.Laws.IdiomStrings
namespace Go.Proofs.Ytilmmohkdgmhnaa
open Go.RowKit
set_option maxRecDepth 100000
set_option linter.unusedVariables false
/-- of what was there only the blocks of S may have changed -/
structure Chg (S : Nat → Prop) (w w1 : World) : Prop where
  os : w1.os = w.os
  tape : w1.tape = w.tape
  output : w1.output = w.output
  size : w.heap.size ≤ w1.heap.size
  block : ∀ k, k < w.heap.size → ¬ S k → w1.heap[k]? = w.heap[k]?
section
variable {S S' : Nat → Prop} {w w1 w2 : World}
theorem Chg.refl (S : Nat → Prop) (w : World) : Chg S w w := ⟨rfl, rfl, rfl, Nat.le_refl _, fun _ _ _ => rfl⟩
theorem Chg.trans (h : Chg S w w1) (k : Chg S' w1 w2) (hs : ∀ b, b < w.heap.size → S' b → S b) : Chg S w w2 :=
  ⟨k.os.trans h.os, k.tape.trans h.tape, k.output.trans h.output, Nat.le_trans h.size k.size, fun b hb hn => (k.block b (Nat.lt_of_lt_of_le hb h.size) fun h' => hn (hs b hb h')).trans (h.block b hb hn)⟩
theorem Chg.mono (h : Chg S w w1) (hs : ∀ b, b < w.heap.size → S b → S' b) : Chg S' w w1 := ⟨h.os, h.tape, h.output, h.size, fun b hb hn => h.block b hb fun h' => hn (hs b hb h')⟩
theorem Chg.below (h : Below w.heap.size w w1) : Chg S w w1 := ⟨h.os, h.tape, h.output, h.size, fun b hb _ => h.block b hb⟩
theorem Chg.of {row : Option Nat} (h : w.grownBy w1 row) : Chg (fun k => some k = row) w w1 := ⟨h.os, h.tape, h.output, h.size, fun b hb hn => h.block b hb hn⟩
theorem Chg.grown {row : Option Nat} (h : w.grownBy w1 row) (hs : ∀ b, b < w.heap.size → some b = row → S b) : Chg S w w1 := (Chg.of h).mono hs
/-- only newer blocks have changed -/
theorem Chg.to_below {B : Nat} (h : Chg S w w1) (hs : ∀ b, S b → B ≤ b) (hB : B ≤ w.heap.size) : Below B w w1 :=
  ⟨h.os, h.tape, h.output, h.size, fun b hb => h.block b (by omega) fun h' => by have := hs b h'; omega⟩
theorem Chg.then {B : Nat} {w0 : World} (h0 : Below B w0 w) (h : Chg S w w1) (hs : ∀ b, S b → B ≤ b) (hB : B ≤ w.heap.size) : Below B w0 w1 := h0.trans (h.to_below hs hB)
theorem Chg.cell (h : Chg S w w1) {a : Addr} {v : Value} (hc : w.cell? a = some v) (hn : ¬ S a.block) : w1.cell? a = some v := by
  rw [World.cell?_of_block (w := w) (h.block a.block (World.block_lt_of_cell? w a hc) hn)]
  exact hc
theorem Box.chg {g : Nat} {t : TypeId} {cs : Array Value} (hb : Box w g t cs) (h : Chg S w w1) (hn : ¬ S g) : Box w1 g t cs := (h.block g hb.lt hn).trans hb
theorem row_chg {base size n : Nat} {e : TypeId} {v : Value} {xs : List Value} (ho : w.ownsRow base e size v n xs) (h : Chg S w w1) (hn : ∀ k, v.ownBlock = some k → ¬ S k) : w1.ownsRow base e size v n xs := by
  refine ⟨ho.1, ?_⟩
  rcases ho.2 with h1 | ⟨g, cap, cur, rfl, hb, hg, hr⟩
  · exact .inl h1
  · exact .inr ⟨g, cap, cur, rfl, hb, (h.block g (Array.getElem?_eq_some_iff.1 hg).1 (hn g rfl)).trans hg, hr⟩
theorem Own.chg {base : Nat} {e : TypeId} {v : Value} {xs : List Int} (ho : Own w base e v xs) (h : Chg S w w1) (hn : ∀ k, v.ownBlock = some k → ¬ S k) : Own w1 base e v xs := ⟨ho.1, row_chg ho.2 h hn⟩
theorem RdC.chg {size n : Nat} {v : Value} {cs : List Value} (hr : RdC size w v n cs) (h : Chg S w w1) (hn : ∀ k, v.ownBlock = some k → ¬ S k) : RdC size w1 v n cs := by
  obtain ⟨hl, A, cap, rfl, h1, h2, h3, h4⟩ := hr
  refine ⟨hl, A, cap, rfl, h1, h2, h3, fun j hj => ?_⟩
  obtain ⟨b, off, ha, hc⟩ := h4 j hj
  subst ha
  refine ⟨b, off, rfl, ?_⟩
  rw [List.getElem?_eq_getElem hj] at hc ⊢
  exact h.cell hc (hn b rfl)
theorem Rd.chg {v : Value} {xs : List Int} (hr : Rd w v xs) (h : Chg S w w1) (hn : ∀ k, v.ownBlock = some k → ¬ S k) : Rd w1 v xs := ⟨hr.1, hr.2.chg h hn⟩
end
/-- an own row is not a variable of another kind -/
theorem own_box {W : World} {base g : Nat} {e t : TypeId} {v : Value} {xs : List Int} {cs : Array Value} (h : Own W base e v xs) (hb : Box W g t cs) (hne : e ≠ t) : v.ownBlock ≠ some g := by
  rcases own_ne h.2 hb hne with h1 | h1
  · rw [h1]; simp
  · exact h1
theorem box_box {W : World} {g g' : Nat} {t t' : TypeId} {cs cs' : Array Value} (h : Box W g t cs) (h' : Box W g' t' cs') (hne : t ≠ t') : g ≠ g' := by
  rintro rfl
  unfold Box at h h'
  rw [h] at h'
  injection h' with h'
  injection h' with _ h'
  exact hne h'
theorem own_lt {W : World} {base : Nat} {e : TypeId} {v : Value} {xs : List Int} (h : Own W base e v xs) (k : Nat) (hk : v.ownBlock = some k) : base ≤ k ∧ k < W.heap.size := h.2.lt k hk
section
variable {P : Program}
theorem run_load_at {W : World} (ty : TypeId) (b off : Nat) (cs : Array Value) (d : TypeDesc) (hc : ∀ j, j < cs.size → W.cell? ⟨b, off + j, none⟩ = cs[j]?)
    (hu : P.underlying ty = some d) (hd : (match d with | .struct _ | .array _ _ => true | _ => false) = true) (hi : (P.info? ty).map (·.size) = some cs.size) :
    (loadVar ty ⟨b, off, none⟩).run P W = .ok (.agg cs) W := by
  have hl : (loadCells ⟨b, off, none⟩ cs.toList.length).run P W = .ok cs.toList.toArray W :=
    run_loadCells_list (P := P) W ⟨b, off, none⟩ cs.toList (fun j v hv => by
      have hj : j < cs.size := by have := (List.getElem?_eq_some_iff.1 hv).1; rwa [Array.length_toList] at this
      rw [Addr.add_lit, hc j hj, ← Array.getElem?_toList]
      exact hv)
  cases hq : P.info? ty with
  | none => simp [hq] at hi
  | some i =>
    have hs : i.size = cs.size := by simpa [hq] using hi
    have hagg : (isAgg ty).run P W = .ok true W := by
      unfold isAgg
      rw [Sem.run_bind, run_underlying hu W]
      cases d <;> simp_all
    simp only [Array.length_toList, Array.toArray_toList] at hl
    simp [loadVar, Sem.run_bind, hagg, sizeOf, typeInfo, hq, hs, hl]
variable {ops : Array Oper} {rest : List Oper} {o : Oper} {a : Act} {Q : Exit → Act → World → Prop}
theorem load_at {W : World} (hgd : o.guard = none) (ty : TypeId) (x : Operand) (ho : o.op = .load ty x) (b off : Nat) (cs : Array Value) (d : TypeDesc)
    (hx : a.eval x = .pointer (some ⟨b, off, none⟩)) (hc : ∀ j, j < cs.size → W.cell? ⟨b, off + j, none⟩ = cs[j]?) (hu : P.underlying ty = some d) (hd : (match d with | .struct _ | .array _ _ => true | _ => false) = true) (hi : (P.info? ty).map (·.size) = some cs.size)
    (h : wpList P ops Q rest (a.put o.dst (.agg cs)) W) : wpList P ops Q (o :: rest) a W :=
  wpList_plain hgd fun K hK => by
    unfold Oper.wp execOp
    simp only [ho, hx, Instr.loadAt, Instr.sureAddr, Sem.run_bind, Sem.run_pure, Result.andThen_ok, run_load_at ty b off cs d hc hu hd hi]
    exact hK _ _ h
end
theorem Box.part {W : World} {g : Nat} {t : TypeId} {cs ds : Array Value} (h : Box W g t cs) (off : Nat) (hs : ∀ j, j < ds.size → cs[off + j]? = ds[j]?) : ∀ j, j < ds.size → W.cell? ⟨g, off + j, none⟩ = ds[j]? := fun j hj => by
  rw [cell_of_row W g (off + j) cs t _ h]
  exact hs j hj
/-- an element of what is read, whole -/
theorem RdC.whole {P : Program} {t e : TypeId} (ht : P.underlying t = some (.slice e)) {z : Value} {s b : Nat} (hinfo : (P.info? e).map (fun i => (i.zero, i.size, i.bytes)) = some (some z, s, b)) {w : World} {v : Value} {n : Nat} {vs : List Value} (h : RdC s w v n vs) (k : IntKind) (j : Nat) (hj : j < n) (hs : 0 < s)
    (cs : Array Value) (hcs : (vs.drop (j * s)).take s = cs.toList) (hsz : cs.size = s) :
    ∃ bl off, (∀ W, (Instr.indexAt t v (.int k (j : Int))).run P W = .ok (.pointer (some ⟨bl, off, none⟩)) W) ∧ ∀ i, i < cs.size → w.cell? ⟨bl, off + i, none⟩ = cs[i]? := by
  obtain ⟨bl, off, h1, h2⟩ := h.at ht hinfo k j hj hs
  refine ⟨bl, off, h1, fun i hi => ?_⟩
  rw [h2 i (by omega), ← Array.getElem?_toList, ← hcs, List.getElem?_take_of_lt (by omega), List.getElem?_drop]
theorem cells_keep {w w1 : World} {b off : Nat} {cs : Array Value} (h : ∀ j, j < cs.size → w.cell? ⟨b, off + j, none⟩ = cs[j]?) (hb : Below w.heap.size w w1) : ∀ j, j < cs.size → w1.cell? ⟨b, off + j, none⟩ = cs[j]? := fun j hj => by
  have := h j hj
  rw [Array.getElem?_eq_getElem hj] at this ⊢
  exact cell_keep hb this
def setL (cs : Array Value) (o : Nat) : List Value → Array Value
  | [] => cs
  | v :: vs => setL (cs.setIfInBounds o v) (o + 1) vs
theorem Box.puts {g : Nat} {t : TypeId} : ∀ (vs : List Value) (o : Nat) {W : World} {cs : Array Value}, Box W g t cs → Box (W.setCells g o vs) g t (setL cs o vs) ∧ Chg (fun k => k = g) W (W.setCells g o vs)
  | [], _, W, cs, h => ⟨h, Chg.refl _ _⟩
  | v :: vs, o, W, cs, h => by
    obtain ⟨h1, h2⟩ := h.put o v
    obtain ⟨h3, h4⟩ := Box.puts vs (o + 1) h1
    exact ⟨h3, (Chg.grown (S := fun k => k = g) h2 (fun b _ h => by injection h)).trans h4 (fun b _ h => h)⟩
theorem Box.there {W : World} {g : Nat} {t : TypeId} {cs : Array Value} (h : Box W g t cs) (o n : Nat) (hn : o + n ≤ cs.size) : W.there g o n := fun j hj => by
  constructor
  · rw [h.cell (o + j) (v := cs[o + j]'(by omega)) (Array.getElem?_eq_getElem (by omega))]; rfl
  · exact h.frozen (o + j)
def OwnF (W : World) (base : Nat) (v : Value) (xs : List Int) : Prop :=
  IsBytes xs ∧ ∃ g cap, v = .slice (some ⟨g, 0, none⟩) xs.length cap ∧ base ≤ g ∧ g < W.heap.size ∧ xs.length ≤ cap ∧ cap ≤ maxLen ∧
    (∀ j, j < xs.length → W.cell? ⟨g, j, none⟩ = some (.int .u8 (xs.getD j 0))) ∧ (∀ j, j < cap → (W.cell? ⟨g, j, none⟩).isSome = true) ∧ (∀ j, j < cap → W.frozen? ⟨g, j, none⟩ = false)
theorem OwnF.rd {W : World} {base : Nat} {v : Value} {xs : List Int} (h : OwnF W base v xs) : Rd W v xs := by
  obtain ⟨hb, g, cap, rfl, h1, h2, h3, h4, h5, h6, h7⟩ := h
  refine ⟨hb, by rw [nums8_length, Nat.mul_one], _, _, rfl, h3, h4, (fun h => by cases h), fun j hj => ⟨g, 0, rfl, ?_⟩⟩
  rw [nums8_length] at hj
  rw [Nat.zero_add, h5 j hj, nums8_get xs j hj]
theorem OwnF.chg {S : Nat → Prop} {w w1 : World} {base : Nat} {v : Value} {xs : List Int} (h : OwnF w base v xs) (hc : Chg S w w1) (hn : ∀ k, v.ownBlock = some k → ¬ S k) : OwnF w1 base v xs := by
  obtain ⟨hb, g, cap, rfl, h1, h2, h3, h4, h5, h6, h7⟩ := h
  have hg := hc.block g h2 (hn g rfl)
  refine ⟨hb, g, cap, rfl, h1, Nat.lt_of_lt_of_le h2 hc.size, h3, h4, fun j hj => ?_, fun j hj => ?_, fun j hj => ?_⟩
  · rw [World.cell?_of_block (w := w) (a := ⟨g, j, none⟩) hg]; exact h5 j hj
  · rw [World.cell?_of_block (w := w) (a := ⟨g, j, none⟩) hg]; exact h6 j hj
  · rw [World.frozen?_of_block (w := w) (a := ⟨g, j, none⟩) hg]; exact h7 j hj
theorem OwnF.keep {w w1 : World} {base : Nat} {v : Value} {xs : List Int} (h : OwnF w base v xs) (hb : Below w.heap.size w w1) : OwnF w1 base v xs :=
  h.chg (Chg.below (S := fun _ => False) hb) (fun _ _ h => h)
theorem OwnF.low {w : World} {base b2 : Nat} {v : Value} {xs : List Int} (h : OwnF w base v xs) (hb : b2 ≤ base) : OwnF w b2 v xs := by
  obtain ⟨hb', g, cap, rfl, h1, h2⟩ := h
  exact ⟨hb', g, cap, rfl, Nat.le_trans hb h1, h2⟩
theorem OwnF.lt {W : World} {base : Nat} {v : Value} {xs : List Int} (h : OwnF W base v xs) (k : Nat) (hk : v.ownBlock = some k) : base ≤ k ∧ k < W.heap.size := by
  obtain ⟨hb', g, cap, rfl, h1, h2, _⟩ := h
  have : some g = some k := hk
  injection this with this
  subst this
  exact ⟨h1, h2⟩
theorem Own.toF {W : World} {base : Nat} {e : TypeId} {v : Value} {xs : List Int} (h : Own W base e v xs) (hv : v ≠ .slice none 0 0) : OwnF W base v xs := by
  obtain ⟨hb, hl, h2⟩ := h
  rcases h2 with ⟨h2, _⟩ | ⟨g, cap, cur, rfl, h1, hg, h3, h4, h5, h6⟩
  · exact absurd h2 hv
  · have hlt := (Array.getElem?_eq_some_iff.1 hg).1
    refine ⟨hb, g, cap, rfl, h1, hlt, h3, h4, fun j hj => ?_, fun j hj => ?_, fun j hj => frozen_of_row W g j cur e hg⟩
    · rw [cell_of_row W g j cur e _ hg, ← Array.getElem?_toList]
      have hj' : j < (nums8 xs).length := by rw [nums8_length]; exact hj
      have h7 : (nums8 xs)[j]? = cur.toList[j]? := by rw [← h6, List.getElem?_take, if_pos (by omega)]
      rw [← h7, nums8_get xs j hj]
    · rw [cell_of_row W g j cur e _ hg]
      have : j < cur.size := by omega
      rw [Array.getElem?_eq_getElem this]
      rfl
theorem chg_setCells (g : Nat) : ∀ (vs : List Value) (o : Nat) (W : World), Chg (fun k => k = g) W (W.setCells g o vs)
  | [], _, W => Chg.refl _ _
  | v :: vs, o, W => by
    have h1 : Chg (fun k => k = g) W (W.setCell ⟨g, o, none⟩ v) := ⟨rfl, rfl, rfl, by simp, fun k _ hk => heap_setCell_other W ⟨g, o, none⟩ k v (fun e => hk e)⟩
    exact h1.trans (chg_setCells g vs (o + 1) _) (fun b _ h => h)
section
variable {P : Program} {ops : Array Oper} {rest : List Oper} {o : Oper} {a : Act} {Q : Exit → Act → World → Prop}
theorem run_appF {W : World} (base : Nat) (t ty e : TypeId) (ht : P.underlying t = some (.slice e)) (hinfo : (P.info? e).map (fun i => (i.zero, i.size, i.bytes)) = some (some (.int .u8 0), 1, 1))
    {v y : Value} {xs ys : List Int} (HO : OwnF W base v xs) (HR : Rd W y ys) (hbase : base ≤ W.heap.size) (hl : xs.length + ys.length ≤ 140737488355328) :
    ∃ v1 w1, (Builtin.append_ #[t, t] ty #[v, y]).run P W = .ok v1 w1 ∧ OwnF w1 base v1 (xs ++ ys) ∧ Chg (fun k => v.ownBlock = some k) W w1 ∧ (v1.ownBlock = v.ownBlock ∨ ∀ k, v1.ownBlock = some k → W.heap.size ≤ k) := by
  obtain ⟨i0, hi, hz0, hz1, hz2⟩ := info_parts hinfo
  have HO' := HO
  obtain ⟨hb, g, cap, rfl, h1, h2, h3, h4, h5, h6, h7⟩ := HO
  obtain ⟨hby, hlen, A, capy, rfl, hc1, hc2, hc3, hc4⟩ := HR
  rw [nums8_length, Nat.mul_one] at hlen
  cases A with
  | none =>
    have hcap := hc3 rfl
    subst hcap
    obtain rfl : ys = [] := List.eq_nil_of_length_eq_zero (by omega)
    rw [List.append_nil]
    refine ⟨_, W, ?_, HO', Chg.refl _ _, .inl rfl⟩
    simp [Builtin.append_, run_underlying ht, sizeOf, typeInfo, hi, Builtin.lenOf, Builtin.firstCells, h3, storeCells]
  | some ad =>
    have hcells : ∀ j u, (nums8 ys)[j]? = some u → W.cell? (ad.add j) = some u := by
      intro j u hu
      have hj := (List.getElem?_eq_some_iff.1 hu).1
      obtain ⟨b, off, ha, hc⟩ := hc4 j hj
      injection ha with ha
      subst ha
      rw [Addr.add_lit, hc, hu]
    by_cases hroom : xs.length + ys.length ≤ cap
    · have hr := run_append_room_cells (P := P) W t ty e i0 ht hi g 0 xs.length cap ad ys.length capy (nums8 ys) (by rw [nums8_length, hz1, Nat.mul_one]) hcells (nums8_one ys) hroom
        (fun j hj => by rw [nums8_length] at hj; rw [hz1]; exact h6 _ (by omega)) (fun j hj => by rw [nums8_length] at hj; rw [hz1]; exact h7 _ (by omega))
      rw [hz1, Nat.zero_add, Nat.mul_one] at hr
      have hcg := chg_setCells g (nums8 ys) xs.length W
      refine ⟨_, _, hr, ⟨bytes_append hb hby, g, cap, by rw [List.length_append], h1, Nat.lt_of_lt_of_le h2 hcg.size, by rw [List.length_append]; exact hroom, h4, fun j hj => ?_, fun j hj => World.isSome_setCells g _ _ _ _ (h6 j hj), fun j hj => by rw [World.frozen?_setCells]; exact h7 j hj⟩, hcg.mono (fun b _ e => by subst e; rfl), .inl rfl⟩
      rw [List.length_append] at hj
      by_cases hjx : j < xs.length
      · rw [World.cell?_setCells_out g _ _ _ _ (fun _ _ => .inl hjx), h5 j hjx]
        rw [List.getD_eq_getElem?_getD, List.getD_eq_getElem?_getD, List.getElem?_append_left hjx]
      · obtain ⟨d, rfl⟩ : ∃ d, j = xs.length + d := ⟨j - xs.length, by omega⟩
        have hd : d < (nums8 ys).length := by rw [nums8_length]; omega
        rw [World.cell?_setCells_in g (nums8 ys) xs.length W (fun i hi => h6 _ (by rw [nums8_length] at hi; omega)) d hd]
        rw [List.getD_eq_getElem?_getD, List.getElem?_append_right (by omega), Nat.add_sub_cancel_left, ← List.getD_eq_getElem?_getD]
        have := nums8_get ys d (by rw [nums8_length] at hd; exact hd)
        rw [List.getElem?_eq_getElem hd] at this
        exact this
    · obtain ⟨v', w', hr, ho, hg⟩ := run_append_arg_grows (P := P) W t ty e i0 (.int .u8 0) 1 1 ht hi hz0 hz1 hz2 rfl (by omega) ⟨g, 0, none⟩ xs.length cap (nums8 xs) (by rw [nums8_length, Nat.mul_one])
        (fun j u hu => by
          have hj := (List.getElem?_eq_some_iff.1 hu).1
          rw [nums8_length] at hj
          rw [Addr.add_lit, Nat.zero_add, h5 j hj, ← hu, nums8_get xs j hj])
        ad ys.length capy (nums8 ys) (by rw [nums8_length, Nat.mul_one]) hcells (by omega) (by simp only [maxLen]; omega) (by omega)
      have hO : Own w' W.heap.size e v' (xs ++ ys) := ⟨bytes_append hb hby, by rw [nums8_append, List.length_append]; exact ho⟩
      have hv : v' ≠ .slice none 0 0 := fun e => by
        obtain ⟨A, c, hv, h8, _⟩ := hO.rd.form
        rw [e] at hv
        injection hv with _ e2 _
        rw [List.length_append] at e2
        omega
      have hF := (hO.toF hv)
      exact ⟨v', w', hr, hF.low hbase, (Chg.of hg).mono (fun b _ e => by cases e), .inr (fun k hk => (hF.lt k hk).1)⟩
/-- append onto such a row -/
theorem app_bytesF {w0 W : World} (base : Nat) (hgd : o.guard = none) (s x : Operand) (t e : TypeId)
    (ho : o.op = .call { callee := .builtin .append, args := #[s, x], argTypes := #[t, t] })
    (ht : P.underlying t = some (.slice e)) (hinfo : (P.info? e).map (fun i => (i.zero, i.size, i.bytes)) = some (some (.int .u8 0), 1, 1))
    (v y : Value) (xs ys : List Int) (hs : a.eval s = v) (hx : a.eval x = y)
    (HO : OwnF W base v xs) (HR : Rd W y ys) (HB : Below base w0 W) (hbase : base ≤ W.heap.size) (hl : xs.length + ys.length ≤ 140737488355328)
    (h : ∀ v1 w1, OwnF w1 base v1 (xs ++ ys) → Below base w0 w1 → Chg (fun k => v.ownBlock = some k) W w1 → wpList P ops Q rest (a.put o.dst v1) w1) :
    wpList P ops Q (o :: rest) a W := by
  obtain ⟨v1, w1, hr, h2, h3, h5⟩ := run_appF (P := P) base t o.type e ht hinfo HO HR hbase hl
  refine wpList_plain hgd fun K hK => ?_
  unfold Oper.wp execOp
  simp only [ho, resolve, invoke, builtin, Sem.run_bind, Sem.run_pure, Result.andThen_ok, List.map_toArray, List.map_cons, List.map_nil, hs, hx, hr]
  exact hK _ _ (h v1 w1 h2 (h3.then HB (fun b e => (HO.lt b e).1) hbase) h3)
end
/-- the value of the first i bytes' low seven bits -/
def lebS (l : List Int) : Nat → Nat
  | 0 => 0
  | i + 1 => lebS l i + (l.getD i 0).toNat % 128 * 2 ^ (7 * i)
theorem lebS_lt (l : List Int) : ∀ i, lebS l i < 2 ^ (7 * i)
  | 0 => by simp [lebS]
  | i + 1 => by
    have ih := lebS_lt l i
    have h : (l.getD i 0).toNat % 128 ≤ 127 := by have := Nat.mod_lt (l.getD i 0).toNat (by decide : 0 < 128); omega
    have h2 : (l.getD i 0).toNat % 128 * 2 ^ (7 * i) ≤ 127 * 2 ^ (7 * i) := Nat.mul_le_mul_right _ h
    rw [lebS, show 7 * (i + 1) = 7 * i + 7 by omega, Nat.pow_add]
    omega
/-- what Decode answers: the number, how many bytes, the error; n more steps from place i on -/
def lebD (l : List Int) : Nat → Nat → Int × Int × Int
  | 0, i => (0, 0, if l.length < 10 then 10 else 11)
  | n + 1, i =>
    if l.length ≤ i then (0, 0, if l.length < 10 then 10 else 11)
    else if 128 ≤ l.getD i 0 then lebD l n (i + 1)
    else if i = 9 ∧ 1 < l.getD i 0 then (0, 0, 11)
    else if 0 < i ∧ l.getD i 0 = 0 then (0, 0, 12)
    else (((lebS l i + (l.getD i 0).toNat * 2 ^ (7 * i) : Nat) : Int), ((i + 1 : Nat) : Int), 0)
theorem or_u64 {a y s : Nat} (ha : a < 2 ^ s) (hy : a + y * 2 ^ s < 2 ^ 64) : bits .or .u64 (a : Int) ((y * 2 ^ s : Nat) : Int) = ((a + y * 2 ^ s : Nat) : Int) := by
  have e : a ||| y * 2 ^ s = a + y * 2 ^ s := by
    have h := Nat.two_pow_add_eq_or_of_lt ha y
    rw [Nat.or_comm, Nat.mul_comm y, ← h, Nat.add_comm]
  show IntKind.u64.wrap ((((BitVec.ofInt 64 (a : Int)) ||| (BitVec.ofInt 64 ((y * 2 ^ s : Nat) : Int))).toNat : Nat) : Int) = _
  rw [BitVec.ofInt_natCast, BitVec.ofInt_natCast, BitVec.toNat_or, BitVec.toNat_ofNat, BitVec.toNat_ofNat, Nat.mod_eq_of_lt (by omega), Nat.mod_eq_of_lt (by omega), e, IntKind.wrap_u64]
  omega
/-- a number's bytes -/
def lebB (v : Nat) : List Int := if v < 128 then [(v : Int)] else ((v % 128 + 128 : Nat) : Int) :: lebB (v / 128)
termination_by v
decreasing_by omega
theorem lebB_lo {v : Nat} (h : v < 128) : lebB v = [(v : Int)] := by rw [lebB, if_pos h]
theorem lebB_hi {v : Nat} (h : ¬ v < 128) : lebB v = ((v % 128 + 128 : Nat) : Int) :: lebB (v / 128) := by rw [lebB, if_neg h]
theorem lebB_bytes : ∀ v, IsBytes (lebB v) := by
  intro v
  induction v using Nat.strongRecOn with
  | _ v ih =>
    by_cases h : v < 128
    · rw [lebB_lo h]; intro b hb
      rw [List.mem_singleton] at hb; subst hb; omega
    · rw [lebB_hi h]; intro b hb
      rcases List.mem_cons.1 hb with rfl | hb
      · omega
      · exact ih (v / 128) (by omega) b hb
theorem lebB_pos (v : Nat) : 1 ≤ (lebB v).length := by
  by_cases h : v < 128
  · rw [lebB_lo h]; simp
  · rw [lebB_hi h]; simp
theorem lebB_le (n : Nat) : ∀ v, v < 128 ^ n → 1 ≤ n → (lebB v).length ≤ n := by
  induction n with
  | zero => intro v _ h; omega
  | succ n ih =>
    intro v hv _
    by_cases h : v < 128
    · rw [lebB_lo h]; simp
    · rw [lebB_hi h, List.length_cons]
      have h1 : v / 128 < 128 ^ n := by rw [Nat.pow_succ] at hv; omega
      by_cases hn : 1 ≤ n
      · have := ih (v / 128) h1 hn; omega
      · obtain rfl : n = 0 := by omega
        simp at h1; omega
theorem lebB_10 {v : Nat} (h : v < 18446744073709551616) : (lebB v).length ≤ 10 := lebB_le 10 v (Nat.lt_of_lt_of_le h (by decide)) (by omega)
/-- numbers behind one another, written -/
theorem lebS_append (a r : List Int) : ∀ i, i ≤ a.length → lebS (a ++ r) i = lebS a i
  | 0, _ => rfl
  | i + 1, h => by
    rw [lebS, lebS, lebS_append a r i (by omega), List.getD_eq_getElem?_getD, List.getD_eq_getElem?_getD, List.getElem?_append_left (by omega)]
theorem getD_cons_at (L r : List Int) (i : Nat) (x : Int) (h : L.drop i = x :: r) : i < L.length ∧ L.getD i 0 = x ∧ L.drop (i + 1) = r := by
  have hl : i < L.length := by
    by_cases hl : i < L.length
    · exact hl
    · rw [List.drop_eq_nil_of_le (by omega)] at h; cases h
  rw [List.drop_eq_getElem_cons hl] at h
  injection h with h1 h2
  refine ⟨hl, ?_, h2⟩
  rw [List.getD_eq_getElem?_getD, List.getElem?_eq_getElem hl, Option.getD_some, h1]
theorem pow7 (i : Nat) (h : 1 * 2 ^ (7 * i) < 18446744073709551616) : i ≤ 9 := by
  by_cases hi : i ≤ 9
  · exact hi
  · have h1 : 2 ^ 70 ≤ 2 ^ (7 * i) := Nat.pow_le_pow_right (by decide) (by omega)
    omega
theorem lebD_put (L r : List Int) : ∀ (u n i : Nat), L.drop i = lebB u ++ r → i + n = 10 → lebS L i + u * 2 ^ (7 * i) < 18446744073709551616 → (0 < u ∨ i = 0) →
    lebD L n i = (((lebS L i + u * 2 ^ (7 * i) : Nat) : Int), ((i + (lebB u).length : Nat) : Int), 0) := by
  intro u
  induction u using Nat.strongRecOn with
  | _ u ih =>
    intro n i hd hn hb hu
    have h9 : i ≤ 9 := by
      rcases hu with hu | hu
      · refine pow7 i ?_
        have := Nat.mul_le_mul_right (2 ^ (7 * i)) hu
        omega
      · omega
    obtain ⟨n, rfl⟩ : ∃ m, n = m + 1 := ⟨n - 1, by omega⟩
    rw [lebD]
    by_cases h : u < 128
    · rw [lebB_lo h] at hd ⊢
      obtain ⟨hl, hx, _⟩ := getD_cons_at L r i u (by simpa using hd)
      rw [if_neg (by omega), hx, if_neg (by omega), if_neg ?_, if_neg (by omega)]
      · simp
      · rintro ⟨h1, h2⟩
        subst h1
        have : 2 * 2 ^ (7 * 9) ≤ u * 2 ^ (7 * 9) := Nat.mul_le_mul_right _ (by omega)
        omega
    · rw [lebB_hi h] at hd ⊢
      obtain ⟨hl, hx, hr⟩ := getD_cons_at L (lebB (u / 128) ++ r) i _ (by simpa using hd)
      have hs : lebS L (i + 1) = lebS L i + u % 128 * 2 ^ (7 * i) := by
        rw [lebS, hx]
        congr 2
        omega
      have hp : 2 ^ (7 * (i + 1)) = 128 * 2 ^ (7 * i) := by rw [show 7 * (i + 1) = 7 * i + 7 by omega, Nat.pow_add]; omega
      have he : lebS L (i + 1) + u / 128 * 2 ^ (7 * (i + 1)) = lebS L i + u * 2 ^ (7 * i) := by
        rw [hs, hp, Nat.add_assoc, ← Nat.mul_assoc, ← Nat.add_mul]
        congr 2
        omega
      rw [if_neg (by omega), hx, if_pos (by omega), ih (u / 128) (by omega) n (i + 1) hr (by omega) (by omega) (.inl (by omega)), he, List.length_cons]
      congr 2
      omega
/-- what was written is read -/
theorem lebD_lebB (v : Nat) (hv : v < 18446744073709551616) (r : List Int) : lebD (lebB v ++ r) 10 0 = ((v : Int), ((lebB v).length : Int), 0) := by
  rw [lebD_put (lebB v ++ r) r v 10 0 rfl (by omega) (by simp [lebS]; omega) (.inr rfl)]
  simp [lebS]
/-- what is read would be written so -/
theorem lebD_got (L : List Int) (hL : IsBytes L) : ∀ (n i : Nat), i + n = 10 → lebS L i < 2 ^ (7 * i) → lebD L n i = (0, 0, 10) ∨ lebD L n i = (0, 0, 11) ∨ lebD L n i = (0, 0, 12) ∨
    ∃ u k : Nat, lebD L n i = (((lebS L i + u * 2 ^ (7 * i) : Nat) : Int), ((i + k : Nat) : Int), 0) ∧ i + k ≤ L.length ∧ 1 ≤ k ∧ i + k ≤ 10 ∧ (L.drop i).take k = lebB u ∧ lebS L i + u * 2 ^ (7 * i) < 18446744073709551616 ∧ (0 < u ∨ i = 0) := by
  intro n
  induction n with
  | zero =>
    intro i _ _
    rw [lebD]
    split
    · exact .inl rfl
    · exact .inr (.inl rfl)
  | succ n ih =>
    intro i hn hs
    rw [lebD]
    by_cases hl : L.length ≤ i
    · rw [if_pos hl]
      split
      · exact .inl rfl
      · exact .inr (.inl rfl)
    rw [if_neg hl]
    obtain ⟨b0, b1⟩ := byte_at hL (show i < L.length by omega)
    have hdr : L.drop i = L.getD i 0 :: L.drop (i + 1) := by
      rw [List.drop_eq_getElem_cons (by omega), List.getD_eq_getElem?_getD, List.getElem?_eq_getElem (by omega), Option.getD_some]
    have hss : lebS L (i + 1) = lebS L i + (L.getD i 0).toNat % 128 * 2 ^ (7 * i) := rfl
    have hp : 2 ^ (7 * (i + 1)) = 128 * 2 ^ (7 * i) := by rw [show 7 * (i + 1) = 7 * i + 7 by omega, Nat.pow_add]; omega
    generalize L.getD i 0 = x at *
    by_cases hx : 128 ≤ x
    · rw [if_pos hx]
      rcases ih (i + 1) (by omega) (lebS_lt L (i + 1)) with h | h | h | ⟨u, k, h, h1, h2, h2', h3, h4, h5⟩
      · exact .inl h
      · exact .inr (.inl h)
      · exact .inr (.inr (.inl h))
      · have hu : 0 < u := by omega
        have he : lebS L i + (128 * u + x.toNat % 128) * 2 ^ (7 * i) = lebS L (i + 1) + u * 2 ^ (7 * (i + 1)) := by
          rw [hss, hp, Nat.add_mul, ← Nat.mul_assoc, Nat.mul_comm 128 u]
          omega
        refine .inr (.inr (.inr ⟨128 * u + x.toNat % 128, k + 1, ?_, by omega, by omega, by omega, ?_, by omega, .inl (by omega)⟩))
        · rw [h, he]
          congr 2
          omega
        · rw [hdr, List.take_succ_cons, h3, lebB_hi (v := 128 * u + x.toNat % 128) (by omega)]
          congr 1
          · omega
          · congr 1
            omega
    · rw [if_neg hx]
      by_cases h9 : i = 9 ∧ 1 < x
      · rw [if_pos h9]; exact .inr (.inl rfl)
      rw [if_neg h9]
      by_cases h0 : 0 < i ∧ x = 0
      · rw [if_pos h0]; exact .inr (.inr (.inl rfl))
      rw [if_neg h0]
      refine .inr (.inr (.inr ⟨x.toNat, 1, rfl, by omega, by omega, by omega, ?_, ?_, by omega⟩))
      · rw [hdr, List.take_succ_cons, List.take_zero, lebB_lo (by omega)]
        congr 1
        omega
      · by_cases h9' : i = 9
        · subst h9'
          have : x.toNat * 2 ^ (7 * 9) ≤ 1 * 2 ^ (7 * 9) := Nat.mul_le_mul_right _ (by omega)
          omega
        · have : x.toNat * 2 ^ (7 * i) ≤ 127 * 2 ^ (7 * i) := Nat.mul_le_mul_right _ (by omega)
          have h2 : 2 ^ (7 * i) ≤ 2 ^ 56 := Nat.pow_le_pow_right (by decide) (by omega)
          omega
/-- the whole: an error, or a number that stands in its shortest form -/
theorem lebD_cases (L : List Int) (hL : IsBytes L) : lebD L 10 0 = (0, 0, 10) ∨ lebD L 10 0 = (0, 0, 11) ∨ lebD L 10 0 = (0, 0, 12) ∨
    ∃ u k : Nat, lebD L 10 0 = ((u : Int), (k : Int), 0) ∧ k ≤ L.length ∧ 1 ≤ k ∧ k ≤ 10 ∧ L.take k = lebB u ∧ u < 18446744073709551616 := by
  rcases lebD_got L hL 10 0 (by omega) (by simp [lebS]) with h | h | h | ⟨u, k, h, h1, h2, h2', h3, h4, h5⟩
  · exact .inl h
  · exact .inr (.inl h)
  · exact .inr (.inr (.inl h))
  · simp only [lebS, Nat.mul_zero, Nat.pow_zero, Nat.mul_one, Nat.zero_add, List.drop_zero] at h h1 h2' h3 h4
    exact .inr (.inr (.inr ⟨u, k, h, h1, h2, h2', h3, h4⟩))
def LebRet (R : Int × Int × Int) (w : World) (e : Ending) (w' : World) : Prop := e = .returned (.tuple #[.int .u64 R.1, .int .i64 R.2.1, .int .i64 R.2.2]) ∧ w = w'
theorem and127_all : ∀ n : Fin 256, bits .and .u8 ((n.val : Nat) : Int) 127 = ((n.val % 128 : Nat) : Int) := by decide
theorem and127 {x : Int} (x0 : 0 ≤ x) (x1 : x < 256) : bits .and .u8 x 127 = ((x.toNat % 128 : Nat) : Int) := by
  have h := and127_all ⟨x.toNat, by omega⟩
  rw [show ((⟨x.toNat, by omega⟩ : Fin 256).val : Nat) = x.toNat from rfl, Int.toNat_of_nonneg x0] at h
  exact h
theorem leb_or {S y k : Nat} (hS : S < 2 ^ (7 * k)) (hy : y < 256) (hb : S + y * 2 ^ (7 * k) < 18446744073709551616) :
    bits .or .u64 (S : Int) (IntKind.u64.wrap (IntKind.u64.wrap (y : Int) * 2 ^ (7 * k))) = ((S + y * 2 ^ (7 * k) : Nat) : Int) := by
  have e1 : IntKind.u64.wrap (y : Int) = (y : Int) := by rw [IntKind.wrap_u64]; omega
  have e2 : ((y : Int) * 2 ^ (7 * k)) = ((y * 2 ^ (7 * k) : Nat) : Int) := by rw [Int.natCast_mul, Int.natCast_pow]; rfl
  rw [e1, e2]
  have e3 : IntKind.u64.wrap ((y * 2 ^ (7 * k) : Nat) : Int) = ((y * 2 ^ (7 * k) : Nat) : Int) := by
    rw [IntKind.wrap_u64]
    generalize y * 2 ^ (7 * k) = z at *
    omega
  rw [e3]
  exact or_u64 hS hb
theorem leb_hi {S k : Nat} {x : Int} (hS : S < 2 ^ (7 * k)) (x0 : 0 ≤ x) (x1 : x < 256) (hk : k + 1 ≤ 9) :
    bits .or .u64 (S : Int) (IntKind.u64.wrap (IntKind.u64.wrap (bits .and .u8 x 127) * 2 ^ (7 * k))) = ((S + x.toNat % 128 * 2 ^ (7 * k) : Nat) : Int) := by
  rw [and127 x0 x1]
  have h1 : x.toNat % 128 * 2 ^ (7 * k) ≤ 127 * 2 ^ (7 * k) := Nat.mul_le_mul_right _ (by omega)
  have h2 : 2 ^ (7 * k) ≤ 2 ^ 56 := Nat.pow_le_pow_right (by decide) (by omega)
  exact leb_or hS (by omega) (by omega)
theorem leb_lo {S k : Nat} {x : Int} (hS : S < 2 ^ (7 * k)) (x0 : 0 ≤ x) (x1 : ¬ 128 ≤ x) (hk : k ≤ 9) (h9 : ¬ (k = 9 ∧ 1 < x)) :
    bits .or .u64 (S : Int) (IntKind.u64.wrap (x * 2 ^ (7 * k))) = ((S + x.toNat * 2 ^ (7 * k) : Nat) : Int) := by
  obtain ⟨y, rfl⟩ := Int.eq_ofNat_of_zero_le x0
  rw [Int.toNat_natCast]
  have e0 : IntKind.u64.wrap (y : Int) = (y : Int) := by rw [IntKind.wrap_u64]; omega
  rw [← e0]
  refine leb_or hS (by omega) ?_
  by_cases h : k = 9
  · subst h
    have : y * 2 ^ (7 * 9) ≤ 1 * 2 ^ (7 * 9) := Nat.mul_le_mul_right _ (by omega)
    omega
  · have h1 : y * 2 ^ (7 * k) ≤ 127 * 2 ^ (7 * k) := Nat.mul_le_mul_right _ (by omega)
    have h2 : 2 ^ (7 * k) ≤ 2 ^ 56 := Nat.pow_le_pow_right (by decide) (by omega)
    omega
theorem infoB : (Try.prog.info? 5).map (fun i => (i.zero, i.size, i.bytes)) = some (some (.int .u8 0), 1, 1) := by kernel_rfl
theorem or128_all : ∀ n : Fin 256, bits .or .u8 ((n.val : Nat) : Int) 128 = ((n.val % 128 + 128 : Nat) : Int) := by decide
theorem or128 (u : Nat) : bits .or .u8 ((u : Int) % 256) 128 = ((u % 128 + 128 : Nat) : Int) := by
  have h := or128_all ⟨u % 256, by omega⟩
  have e : (u : Int) % 256 = (((⟨u % 256, by omega⟩ : Fin 256).val : Nat) : Int) := by show (u : Int) % 256 = ((u % 256 : Nat) : Int); omega
  rw [e, h]
  show ((u % 256 % 128 + 128 : Nat) : Int) = _
  omega
theorem cell_one8 (x : Int) (j : Nat) (hj : j < 1) : (#[Value.int .u8 x])[j]? = some (.int .u8 (([x] : List Int).getD j 0)) := by
  obtain rfl : j = 0 := by omega
  rfl
def PutRet (w0 : World) (base : Nat) (L : List Int) (e : Ending) (w' : World) : Prop := ∃ v1, e = .returned v1 ∧ Own w' base 5 v1 L ∧ Below base w0 w'
theorem one_bytes {b : Int} (h0 : 0 ≤ b) (h1 : b < 256) : IsBytes [b] := fun x hx => by rw [List.mem_singleton] at hx; subst hx; exact ⟨h0, h1⟩
theorem box_own8 (W : World) (base : Nat) (hb : base ≤ W.heap.size) (x : Int) (h0 : 0 ≤ x) (h1 : x < 256) : Own (W.alloc (.cells #[.int .u8 x] 5)) base 5 (.slice (some ⟨W.heap.size, 0, none⟩) 1 1) [x] :=
  ⟨one_bytes h0 h1, World.ownsRow_lit (e := 5) (size := 1) W #[.int .u8 x] 1 hb (by decide) rfl⟩
theorem lebD_run (l : List Int) (k : Nat) (hk : k ≤ l.length) (h : ∀ j, j < k → 128 ≤ l.getD j 0) : ∀ i, i ≤ k → i ≤ 10 → lebD l 10 0 = lebD l (10 - i) i
  | 0, _, _ => rfl
  | i + 1, h1, h2 => by
    rw [lebD_run l k hk h i (by omega) (by omega), show 10 - i = (10 - (i + 1)) + 1 by omega, lebD, if_neg (by omega), if_pos (h i (by omega))]
theorem lebD_short {l : List Int} {k : Nat} (hk : k = l.length) (h10 : l.length < 10) (h : ∀ j, j < k → 128 ≤ l.getD j 0) : lebD l 10 0 = (0, 0, 10) := by
  subst hk
  rw [lebD_run l _ (Nat.le_refl _) h l.length (Nat.le_refl _) (by omega), show 10 - l.length = (9 - l.length) + 1 by omega, lebD, if_pos (Nat.le_refl _), if_pos h10]
theorem lebD_long {l : List Int} {k : Nat} (hk : k ≤ l.length) (h10 : 10 ≤ k) (h : ∀ j, j < k → 128 ≤ l.getD j 0) : lebD l 10 0 = (0, 0, 11) := by
  rw [lebD_run l k hk h 10 h10 (Nat.le_refl _), Nat.sub_self, lebD, if_neg (by omega)]
theorem lebD_at {l : List Int} {k : Nat} (hk : k < l.length) (h10 : k < 10) (h : ∀ j, j < k → 128 ≤ l.getD j 0) (hx : ¬ 128 ≤ l.getD k 0) : lebD l 10 0 =
    if k = 9 ∧ 1 < l.getD k 0 then (0, 0, 11) else if 0 < k ∧ l.getD k 0 = 0 then (0, 0, 12) else (((lebS l k + (l.getD k 0).toNat * 2 ^ (7 * k) : Nat) : Int), ((k + 1 : Nat) : Int), 0) := by
  rw [lebD_run l k (by omega) h k (Nat.le_refl _) (by omega), show 10 - k = (9 - k) + 1 by omega, lebD, if_neg (by omega), if_neg hx]
theorem read_step {l : List Int} {V i T : Nat} (h : V * 2 ^ (7 * (i + 1)) + lebS l (i + 1) = T) : (V * 128 + (l.getD i 0).toNat % 128) * 2 ^ (7 * i) + lebS l i = T := by
  rw [← h, show 7 * (i + 1) = 7 * i + 7 by omega, Nat.pow_add, show (2 : Nat) ^ 7 = 128 from rfl, lebS, Nat.add_mul, Nat.mul_assoc V 128, Nat.mul_comm 128 (2 ^ (7 * i))]
  omega
theorem read_le {V m S T : Nat} (h : V * 2 ^ (7 * m) + S = T) : V ≤ T := by
  have : V * 1 ≤ V * 2 ^ (7 * m) := Nat.mul_le_mul_left _ (Nat.one_le_two_pow)
  omega
theorem Same_any (v u : Value) (l m : List Int) (w : World) (HR : Rd w v l) (HS : Rd w u m) :
    Calls Try.prog 31 #[v, u] w fun e w' => e = .returned (.bool (decide (l = m))) ∧ w = w' := by
  have h1 := HR.str (P := Try.prog) 24 5 9 Try.underlying24 Try.underlying5 Try.underlying9
  have h2 := HS.str (P := Try.prog) 24 5 9 Try.underlying24 Try.underlying5 Try.underlying9
  have he := str_eq HR.1 HS.1
  go_enter Try.func31, Try.ntmps31
  go_wp2
  go_ret
  exact ⟨rfl, rfl⟩
/-- a list in a longer one, whose other places are marked -/
def markL (n : Nat) : Nat → List Int
  | 0 => []
  | k + 1 => markL n k ++ [((201 + n + k : Nat) : Int) % 256]
theorem markL_length (n : Nat) : ∀ k, (markL n k).length = k
  | 0 => rfl
  | k + 1 => by rw [markL, List.length_append, markL_length n k]; rfl
theorem markL_bytes (n : Nat) : ∀ k, IsBytes (markL n k)
  | 0 => fun b hb => absurd hb (by simp [markL])
  | k + 1 => bytes_append (markL_bytes n k) (one_bytes (by omega) (by omega))
theorem markL_getD (n : Nat) : ∀ (k j : Nat), j < k → (markL n k).getD j 0 = ((201 + n + j : Nat) : Int) % 256
  | k + 1, j, h => by
    rw [markL]
    by_cases hj : j < k
    · rw [getD_left (by rw [markL_length]; exact hj), markL_getD n k j hj]
    · obtain rfl : j = k := by omega
      rw [getD_mid (markL_length n j).symm]
def lendL (l : List Int) : List Int := l ++ markL l.length 9
theorem lendL_length (l : List Int) : (lendL l).length = l.length + 9 := by unfold lendL; rw [List.length_append, markL_length]
/-- the marks alone, k of n places laid -/
def fillM (n k : Nat) : List Int := (List.range k).map (fun j => ((201 + j : Nat) : Int) % 256) ++ List.replicate (n - k) 0
theorem fillM_length {n k : Nat} (h : k ≤ n) : (fillM n k).length = n := by unfold fillM; rw [List.length_append, List.length_map, List.length_range, List.length_replicate]; omega
theorem fillM_zero (n : Nat) : fillM n 0 = List.replicate n 0 := rfl
theorem fillM_set {n k : Nat} (h : k < n) : (fillM n k).set k (((201 + k : Nat) : Int) % 256) = fillM n (k + 1) := by
  unfold fillM
  have hl : ((List.range k).map (fun j => ((201 + j : Nat) : Int) % 256)).length = k := by rw [List.length_map, List.length_range]
  rw [List.set_append_right _ _ (by omega), hl, Nat.sub_self, show n - k = (n - (k + 1)) + 1 by omega, List.replicate_succ, List.set_cons_zero, List.range_succ, List.map_append, List.append_assoc]
  rfl
theorem fillM_getD {n : Nat} (j : Nat) (h : j < n) : (fillM n n).getD j 0 = ((201 + j : Nat) : Int) % 256 := by
  unfold fillM
  rw [Nat.sub_self, List.replicate_zero, List.append_nil, List.getD_eq_getElem?_getD, List.getElem?_map, List.getElem?_range h]
  rfl
theorem list_ext {a b : List Int} (hl : a.length = b.length) (h : ∀ j, j < a.length → a.getD j 0 = b.getD j 0) : a = b := by
  refine List.ext_getElem hl fun j h1 h2 => ?_
  have := h j h1
  rw [List.getD_eq_getElem?_getD, List.getD_eq_getElem?_getD, List.getElem?_eq_getElem h1, List.getElem?_eq_getElem h2] at this
  exact this
theorem fillM_drop (n : Nat) : (fillM (n + 9) (n + 9)).drop n = markL n 9 := by
  have hl : ((fillM (n + 9) (n + 9)).drop n).length = 9 := by rw [List.length_drop, fillM_length (Nat.le_refl _)]; omega
  refine list_ext (by rw [hl, markL_length]) fun j hj => ?_
  rw [hl] at hj
  rw [markL_getD n 9 j hj, List.getD_eq_getElem?_getD, List.getElem?_drop, ← List.getD_eq_getElem?_getD, fillM_getD _ (by omega), Nat.add_assoc]
theorem fillM_byte (k : Nat) : 0 ≤ ((201 + k : Nat) : Int) % 256 ∧ ((201 + k : Nat) : Int) % 256 < 256 := by omega
/-- the front of a row of one's own -/
theorem sl_front {P : Program} {t e : TypeId} (ht : P.underlying t = some (.slice e)) (hinfo : (P.info? e).map (fun i => (i.zero, i.size, i.bytes)) = some (some (.int .u8 0), 1, 1)) {w : World} {g n cap : Nat} {xs : List Int} (h : Rd w (.slice (some ⟨g, 0, none⟩) n cap) xs) (hn : xs.length = n) (k : Nat) (hk : k ≤ n) :
    ∃ u, (∀ W, (Instr.slice t (.slice (some ⟨g, 0, none⟩) n cap) none (some (.int .i64 (k : Int))) none).run P W = .ok u W) ∧ Rd w u (xs.take k) ∧ u.ownBlock = some g := by
  subst hn
  obtain ⟨A, cap', hv, h1, h2, h3, h4⟩ := h.form
  injection hv with e1 e2 e3
  subst e1; subst e3
  have hel : P.elem t = e := by simp [Program.elem, ht]
  have hc := h.cut 0 k cap (Nat.zero_le _) hk (by omega) (Nat.le_refl _)
  rw [List.drop_zero] at hc
  refine ⟨sliced (some ⟨g, 0, none⟩) 0 k cap 1, fun W => ?_, hc, ?_⟩
  · rw [run_slice_h (P := P) W t _ xs.length cap (by rw [hel]; exact ht) .i64 k (by omega) (by omega), hel, run_size hinfo]
    simp
  · unfold sliced
    split <;> simp [Value.ownBlock, Addr.add]
def LendRet (w : World) (l : List Int) (e : Ending) (w' : World) : Prop :=
  ∃ g cap p, e = .returned (.tuple #[.slice (some ⟨g, 0, none⟩) (l.length + 9) cap, p]) ∧ Own w' w.heap.size 5 (.slice (some ⟨g, 0, none⟩) (l.length + 9) cap) (lendL l) ∧ Rd w' p l ∧ p.ownBlock = some g ∧ Below w.heap.size w w'
set_option linter.unusedSimpArgs false
def RetF (w : World) (xs : List Int) (e : Ending) (w' : World) : Prop := ∃ v, e = .returned v ∧ OwnF w' w.heap.size v xs ∧ Below w.heap.size w w'
/-- nil, or a row of one's own wherever it comes from -/
def OwnN (W : World) (v : Value) (xs : List Int) : Prop := (v = .slice none 0 0 ∧ xs = []) ∨ OwnF W 0 v xs
theorem OwnN.nil (W : World) : OwnN W (.slice none 0 0) [] := .inl ⟨rfl, rfl⟩
theorem OwnN.rd {W : World} {v : Value} {xs : List Int} (h : OwnN W v xs) : Rd W v xs := by
  rcases h with ⟨rfl, rfl⟩ | h
  · exact (own_nil8 W 0 0).rd
  · exact h.rd
theorem OwnN.chg {S : Nat → Prop} {w w1 : World} {v : Value} {xs : List Int} (h : OwnN w v xs) (hc : Chg S w w1) (hn : ∀ k, v.ownBlock = some k → ¬ S k) : OwnN w1 v xs := by
  rcases h with h | h
  · exact .inl h
  · exact .inr (h.chg hc hn)
theorem OwnN.keep {w w1 : World} {v : Value} {xs : List Int} (h : OwnN w v xs) (hb : Below w.heap.size w w1) : OwnN w1 v xs := h.chg (Chg.below (S := fun _ => False) hb) (fun _ _ h => h)
theorem OwnN.lt {W : World} {v : Value} {xs : List Int} (h : OwnN W v xs) (k : Nat) (hk : v.ownBlock = some k) : k < W.heap.size := by
  rcases h with ⟨rfl, _⟩ | h
  · cases hk
  · exact (h.lt k hk).2
section
variable {P : Program} {o : Oper} {a : Act} {K : Act → World → Prop} {Q : Exit → Act → World → Prop}
theorem run_appN {W : World} (t ty e : TypeId) (ht : P.underlying t = some (.slice e)) (hinfo : (P.info? e).map (fun i => (i.zero, i.size, i.bytes)) = some (some (.int .u8 0), 1, 1))
    {v y : Value} {xs ys : List Int} (HO : OwnN W v xs) (HR : Rd W y ys) (hl : xs.length + ys.length ≤ 140737488355328) :
    ∃ v1 w1, (Builtin.append_ #[t, t] ty #[v, y]).run P W = .ok v1 w1 ∧ OwnN w1 v1 (xs ++ ys) ∧ Chg (fun k => v.ownBlock = some k) W w1 ∧ (v1.ownBlock = v.ownBlock ∨ ∀ k, v1.ownBlock = some k → W.heap.size ≤ k) := by
  rcases HO with ⟨rfl, rfl⟩ | HO
  · obtain ⟨v1, w1, hr, h2, h3, h5⟩ := run_app (P := P) W.heap.size t ty e (.int .u8 0) 1 1 ht hinfo rfl (by omega) (World.ownsRow_nil W W.heap.size e 1) HR.2 (nums8_one ys) (Nat.le_refl _) (by omega) (by simp at hl; omega)
    have hO : Own w1 W.heap.size e v1 ys := ⟨HR.1, by simpa using h2⟩
    refine ⟨v1, w1, hr, ?_, (Chg.of h3).mono (fun b _ e => by cases e), .inr (fun k hk => (h2.lt k hk).1)⟩
    rw [List.nil_append]
    by_cases hv : v1 = .slice none 0 0
    · subst hv
      obtain ⟨A, c, he, _⟩ := hO.rd.form
      injection he with _ e2 _
      exact .inl ⟨rfl, List.eq_nil_of_length_eq_zero e2.symm⟩
    · exact .inr ((hO.toF hv).low (Nat.zero_le _))
  · obtain ⟨v1, w1, hr, h2, h3, h5⟩ := run_appF (P := P) 0 t ty e ht hinfo HO HR (Nat.zero_le _) hl
    exact ⟨v1, w1, hr, .inr h2, h3, h5⟩
theorem wp_app_N {W : World} (hgd : o.guard = none) (s x : Operand) (t e : TypeId)
    (ho : o.op = .call { callee := .builtin .append, args := #[s, x], argTypes := #[t, t] })
    (ht : P.underlying t = some (.slice e)) (hinfo : (P.info? e).map (fun i => (i.zero, i.size, i.bytes)) = some (some (.int .u8 0), 1, 1))
    (v y : Value) (xs ys : List Int) (hs : a.eval s = v) (hx : a.eval x = y)
    (HO : OwnN W v xs) (HR : Rd W y ys) (hl : xs.length + ys.length ≤ 140737488355328)
    (h : ∀ v1 w1, OwnN w1 v1 (xs ++ ys) → Chg (fun k => v.ownBlock = some k) W w1 → (v1.ownBlock = v.ownBlock ∨ ∀ k, v1.ownBlock = some k → W.heap.size ≤ k) → K (a.put o.dst v1) w1) :
    Oper.wp P o a W K Q := by
  obtain ⟨v1, w1, hr, h2, h3, h5⟩ := run_appN (P := P) t o.type e ht hinfo HO HR hl
  unfold Oper.wp execOp
  simp only [ho, resolve, invoke, builtin, Sem.run_bind, Sem.run_pure, Result.andThen_ok, List.map_toArray, List.map_cons, List.map_nil, hs, hx, hr]
  exact h v1 w1 h2 h3 h5
end

section
variable {P : Program} {ops : Array Oper} {rest : List Oper} {o : Oper} {a : Act} {Q : Exit → Act → World → Prop}
theorem app_N {W : World} (hgd : o.guard = none) (s x : Operand) (t e : TypeId)
    (ho : o.op = .call { callee := .builtin .append, args := #[s, x], argTypes := #[t, t] })
    (ht : P.underlying t = some (.slice e)) (hinfo : (P.info? e).map (fun i => (i.zero, i.size, i.bytes)) = some (some (.int .u8 0), 1, 1))
    (v y : Value) (xs ys : List Int) (hs : a.eval s = v) (hx : a.eval x = y)
    (HO : OwnN W v xs) (HR : Rd W y ys) (hl : xs.length + ys.length ≤ 140737488355328)
    (h : ∀ v1 w1, OwnN w1 v1 (xs ++ ys) → Chg (fun k => v.ownBlock = some k) W w1 → (v1.ownBlock = v.ownBlock ∨ ∀ k, v1.ownBlock = some k → W.heap.size ≤ k) → wpList P ops Q rest (a.put o.dst v1) w1) :
    wpList P ops Q (o :: rest) a W := by
  unfold wpList
  rw [if_pos (by simp [Region.wanted, hgd])]
  exact .inl (wp_app_N hgd s x t e ho ht hinfo v y xs ys hs hx HO HR hl h)
end
theorem u8_num {b : Int} (h0 : 0 ≤ b) (h1 : b < 256) : (((UInt8.ofNat b.toNat).toNat : Nat) : Int) = b := by
  rw [UInt8.toNat_ofNat']
  omega
theorem Copy_any (v : Value) (l : List Int) (w : World) (HR : Rd w v l) : Calls Try.prog 57 #[v] w (RetF w l) := by
  have h1 := HR.str (P := Try.prog) 24 5 9 Try.underlying24 Try.underlying5 Try.underlying9
  have hsz : (strOfNums l).size = l.length := by simp [strOfNums, ByteArray.size]
  have h2 := run_bytes_of_string (P := Try.prog) w 9 24 5 (strOfNums l) Try.underlying9 Try.underlying24 Try.underlying5
  rw [hsz] at h2
  have hge := grownCap_ge w l.length 0 5
  have hle := grownCap_le_maxLen w l.length 0 5 (by obtain ⟨_, cp, _, k1, k2, _⟩ := HR.form; omega)
  generalize grownCap w l.length 0 5 = cap at *
  have hC : (bytesRow (strOfNums l) cap).size = cap := by
    unfold bytesRow
    rw [Array.size_append, Array.size_map, Array.size_replicate]
    show (strOfNums l).size + (cap - (strOfNums l).size) = cap
    rw [hsz]; omega
  rw [hC] at h2
  have hF : OwnF (w.drew.alloc (.cells (bytesRow (strOfNums l) cap) 5 (cap, cap + 1))) w.heap.size (.slice (some ⟨w.heap.size, 0, none⟩) l.length cap) l := by
    have hh := heap_alloc_new w.drew (.cells (bytesRow (strOfNums l) cap) 5 (cap, cap + 1))
    have hhs : w.drew.heap.size = w.heap.size := rfl
    rw [hhs] at hh
    refine ⟨HR.1, _, _, rfl, Nat.le_refl _, by simp, hge, hle, fun j hj => ?_, fun j hj => ?_, fun j hj => ?_⟩
    · obtain ⟨b0, b1⟩ := byte_at HR.1 hj
      unfold World.cell?
      simp only [hh]
      unfold bytesRow
      have hj2 : j < ((strOfNums l).data.map fun b => Value.int .u8 (b.toNat : Int)).size := by rw [Array.size_map]; show j < (strOfNums l).size; omega
      show (Array.map _ (strOfNums l).data ++ _)[j]? = _
      rw [Array.getElem?_append_left hj2, Array.getElem?_map]
      have e : (strOfNums l).data[j]? = some (UInt8.ofNat (l.getD j 0).toNat) := by
        rw [← Array.getElem?_toList, strOfNums_data, List.getElem?_map, List.getElem?_eq_getElem hj, List.getD_eq_getElem?_getD, List.getElem?_eq_getElem hj]
        rfl
      rw [e]
      show some (Value.int .u8 _) = _
      rw [u8_num b0 b1]
    · unfold World.cell?
      simp only [hh]
      show ((bytesRow (strOfNums l) cap)[j]?).isSome = true
      rw [Array.getElem?_eq_getElem (by omega)]
      rfl
    · unfold World.frozen?
      simp only [hh]
      simp
      omega
  have hB : Below w.heap.size w (w.drew.alloc (.cells (bytesRow (strOfNums l) cap) 5 (cap, cap + 1))) := al1 (Below.refl w.heap.size w).drew _
  have HF := hd_ hF
  have HB := hd_ hB
  clear hF hB hC hsz
  generalize strOfNums l = S at *
  go_enter Try.func57, Try.ntmps57
  go_wp2
  go_ret
  exact ⟨_, rfl, HF.out, HB.out⟩
theorem cell_put (W : World) (g j i : Nat) (u : Value) (hj : (W.cell? ⟨g, j, none⟩).isSome = true) : (W.setCell ⟨g, j, none⟩ u).cell? ⟨g, i, none⟩ = if i = j then some u else W.cell? ⟨g, i, none⟩ := by
  by_cases h : i = j
  · subst h
    obtain ⟨x, hx⟩ := Option.isSome_iff_exists.1 hj
    rw [if_pos rfl, World.cell?_setCell_same _ _ _ hx]
  · rw [if_neg h, World.cell?_setCell_other _ _ _ _ (fun e => by injection e with _ e; exact h e.symm)]
theorem frozen_put (W : World) (g j i : Nat) (u : Value) : (W.setCell ⟨g, j, none⟩ u).frozen? ⟨g, i, none⟩ = W.frozen? ⟨g, i, none⟩ := World.frozen?_setCells g [u] j W ⟨g, i, none⟩
theorem chg_put (W : World) (g j : Nat) (u : Value) : Chg (fun k => k = g) W (W.setCell ⟨g, j, none⟩ u) := chg_setCells g [u] j W
theorem OwnF.put {W : World} {base g n cap : Nat} {xs : List Int} (h : OwnF W base (.slice (some ⟨g, 0, none⟩) n cap) xs) (j : Nat) (hj : j < xs.length) (b : Int) (h0 : 0 ≤ b) (h1 : b < 256) :
    OwnF (W.setCell ⟨g, j, none⟩ (.int .u8 b)) base (.slice (some ⟨g, 0, none⟩) n cap) (xs.set j b) := by
  obtain ⟨hb, g', cap', hv, k1, k2, k3, k4, k5, k6, k7⟩ := h
  injection hv with e1 e2 e3
  injection e1 with e1
  injection e1 with e1
  subst e1; subst e3; subst e2
  have hc := chg_put W g j (.int .u8 b)
  refine ⟨?_, g, cap, by rw [List.length_set], k1, Nat.lt_of_lt_of_le k2 hc.size, by rw [List.length_set]; exact k3, k4, fun i hi => ?_, fun i hi => ?_, fun i hi => ?_⟩
  · intro x hx
    rcases List.mem_or_eq_of_mem_set hx with h3 | h3
    · exact hb x h3
    · subst h3; exact ⟨h0, h1⟩
  · rw [List.length_set] at hi
    rw [cell_put W g j i _ (k6 j (by omega))]
    by_cases e : i = j
    · subst e
      rw [if_pos rfl, List.getD_eq_getElem?_getD, List.getElem?_set_self hi]
      rfl
    · rw [if_neg e, k5 i hi, List.getD_eq_getElem?_getD, List.getD_eq_getElem?_getD, List.getElem?_set_ne (fun h => e h.symm)]
  · rw [cell_put W g j i _ (k6 j (by omega))]
    split
    · rfl
    · exact k6 i hi
  · rw [frozen_put]; exact k7 i hi
/-- append onto such a row: in place, or into a new one -/
theorem run_appG {P : Program} {W : World} (t ty e : TypeId) (ht : P.underlying t = some (.slice e)) (hinfo : (P.info? e).map (fun i => (i.zero, i.size, i.bytes)) = some (some (.int .u8 0), 1, 1))
    {v y : Value} {xs ys : List Int} (HO : OwnN W v xs) (HR : Rd W y ys) (hl : xs.length + ys.length ≤ 140737488355328) :
    ∃ v1 w1, (Builtin.append_ #[t, t] ty #[v, y]).run P W = .ok v1 w1 ∧ OwnN w1 v1 (xs ++ ys) ∧ ((v1.ownBlock = v.ownBlock ∧ Chg (fun k => v.ownBlock = some k) W w1) ∨ ((∀ k, v1.ownBlock = some k → W.heap.size ≤ k) ∧ Below W.heap.size W w1)) := by
  rcases HO with ⟨rfl, rfl⟩ | HO
  · obtain ⟨v1, w1, hr, h2, h3, h5⟩ := run_app (P := P) W.heap.size t ty e (.int .u8 0) 1 1 ht hinfo rfl (by omega) (World.ownsRow_nil W W.heap.size e 1) HR.2 (nums8_one ys) (Nat.le_refl _) (by omega) (by simp at hl; omega)
    have hO : Own w1 W.heap.size e v1 ys := ⟨HR.1, by simpa using h2⟩
    refine ⟨v1, w1, hr, ?_, .inr ⟨fun k hk => (h2.lt k hk).1, ((Chg.of h3).mono (S' := fun _ => False) (fun b _ e => by cases e)).to_below (fun b h => h.elim) (Nat.le_refl _)⟩⟩
    rw [List.nil_append]
    by_cases hv : v1 = .slice none 0 0
    · subst hv
      obtain ⟨A, c, he, _⟩ := hO.rd.form
      injection he with _ e2 _
      exact .inl ⟨rfl, List.eq_nil_of_length_eq_zero e2.symm⟩
    · exact .inr ((hO.toF hv).low (Nat.zero_le _))
  · obtain ⟨v1, w1, hr, h2, h3, h5⟩ := run_appF (P := P) 0 t ty e ht hinfo HO HR (Nat.zero_le _) hl
    refine ⟨v1, w1, hr, .inr h2, ?_⟩
    rcases h5 with h5 | h5
    · exact .inl ⟨h5, h3⟩
    · obtain ⟨i0, hi, hz0, hz1, hz2⟩ := info_parts hinfo
      have hb0 : (∀ k, v1.ownBlock = some k → W.heap.size ≤ k) := h5
      refine .inr ⟨h5, ?_⟩
      -- a new row leaves all that was there
      obtain ⟨hb, g, cap, rfl, k1, k2, k3, k4, k5, k6, k7⟩ := HO
      obtain ⟨hby, hlen, A, capy, rfl, hc1, hc2, hc3, hc4⟩ := HR
      rw [nums8_length, Nat.mul_one] at hlen
      obtain ⟨_, g2, cap2, hv2, _, hg2, _⟩ := h2
      have hge := h5 g2 (by rw [hv2]; rfl)
      cases A with
      | none =>
        have hcap := hc3 rfl
        subst hcap
        obtain rfl : ys = [] := List.eq_nil_of_length_eq_zero (by omega)
        have hr2 : (Builtin.append_ #[t, t] ty #[.slice (some ⟨g, 0, none⟩) xs.length cap, .slice none 0 0]).run P W = .ok (.slice (some ⟨g, 0, none⟩) xs.length cap) W := by
          simp [Builtin.append_, run_underlying ht, sizeOf, typeInfo, hi, Builtin.lenOf, Builtin.firstCells, k3, storeCells]
        have := hr.symm.trans hr2
        injection this with e1 e2
        subst e2
        exact Below.refl _ _
      | some ad =>
        have hcells : ∀ j u, (nums8 ys)[j]? = some u → W.cell? (ad.add j) = some u := by
          intro j u hu
          have hj := (List.getElem?_eq_some_iff.1 hu).1
          obtain ⟨b, off, ha, hc⟩ := hc4 j hj
          injection ha with ha
          subst ha
          rw [Addr.add_lit, hc, hu]
        by_cases hroom : xs.length + ys.length ≤ cap
        · have hr2 := run_append_room_cells (P := P) W t ty e i0 ht hi g 0 xs.length cap ad ys.length capy (nums8 ys) (by rw [nums8_length, hz1, Nat.mul_one]) hcells (nums8_one ys) hroom
            (fun j hj => by rw [nums8_length] at hj; rw [hz1]; exact k6 _ (by omega)) (fun j hj => by rw [nums8_length] at hj; rw [hz1]; exact k7 _ (by omega))
          have := hr.symm.trans hr2
          injection this with e1 e2
          rw [hv2] at e1
          injection e1 with e1
          injection e1 with e1
          injection e1 with e1
          omega
        · obtain ⟨v', w', hr2, ho, hg⟩ := run_append_arg_grows (P := P) W t ty e i0 (.int .u8 0) 1 1 ht hi hz0 hz1 hz2 rfl (by omega) ⟨g, 0, none⟩ xs.length cap (nums8 xs) (by rw [nums8_length, Nat.mul_one])
            (fun j u hu => by
              have hj := (List.getElem?_eq_some_iff.1 hu).1
              rw [nums8_length] at hj
              rw [Addr.add_lit, Nat.zero_add, k5 j hj, ← hu, nums8_get xs j hj])
            ad ys.length capy (nums8 ys) (by rw [nums8_length, Nat.mul_one]) hcells (by omega) (by simp only [maxLen]; omega) (by omega)
          have := hr.symm.trans hr2
          injection this with e1 e2
          subst e2
          exact ((Chg.of hg).mono (S' := fun _ => False) (fun b _ e => by cases e)).to_below (fun b h => h.elim) (Nat.le_refl _)
/-- append onto what has no room left: a new row -/
theorem run_app_full {P : Program} {W : World} (t ty e : TypeId) (ht : P.underlying t = some (.slice e)) (hinfo : (P.info? e).map (fun i => (i.zero, i.size, i.bytes)) = some (some (.int .u8 0), 1, 1))
    {A : Option Addr} {n : Nat} {y : Value} {xs ys : List Int} (HX : Rd W (.slice A n n) xs) (HR : Rd W y ys) (hy : ys ≠ []) (hl : xs.length + ys.length ≤ 140737488355328) :
    ∃ v1 w1, (Builtin.append_ #[t, t] ty #[.slice A n n, y]).run P W = .ok v1 w1 ∧ OwnN w1 v1 (xs ++ ys) ∧ (∀ k, v1.ownBlock = some k → W.heap.size ≤ k) ∧ Below W.heap.size W w1 := by
  have hy1 : 0 < ys.length := List.length_pos_iff.2 hy
  cases A with
  | none =>
    obtain ⟨A, c, he, h1, h2, h3, _⟩ := HX.form
    injection he with e1 e2 e3
    have hc := h3 e1.symm
    obtain rfl : xs = [] := List.eq_nil_of_length_eq_zero (by omega)
    have hn0 : n = 0 := by simpa using e2
    subst hn0
    obtain ⟨v1, w1, hr, k1, k2⟩ := run_appG (P := P) (W := W) t ty e ht hinfo (v := .slice none 0 0) (xs := []) (OwnN.nil W) HR hl
    refine ⟨v1, w1, hr, k1, ?_⟩
    rcases k2 with ⟨k2, k3⟩ | k2
    · exact ⟨fun k hk => absurd (k2.symm.trans hk) (by simp [Value.ownBlock]), (k3.mono (S' := fun _ => False) (fun b _ e => by cases e)).to_below (fun b h => h.elim) (Nat.le_refl _)⟩
    · exact k2
  | some ad0 =>
    obtain ⟨i0, hi, hz0, hz1, hz2⟩ := info_parts hinfo
    obtain ⟨hbx, hlx, Ax, capx, hvx, q1, q2, q3, q4⟩ := HX
    obtain ⟨hby, hlen, A, capy, rfl, hc1, hc2, hc3, hc4⟩ := HR
    injection hvx with e1 e2 e3
    subst e1; subst e3
    rw [nums8_length, Nat.mul_one] at hlen hlx
    cases A with
    | none => have := hc3 rfl; omega
    | some ad =>
      have hcells : ∀ j u, (nums8 ys)[j]? = some u → W.cell? (ad.add j) = some u := by
        intro j u hu
        have hj := (List.getElem?_eq_some_iff.1 hu).1
        obtain ⟨b, off, ha, hc⟩ := hc4 j hj
        injection ha with ha
        subst ha
        rw [Addr.add_lit, hc, hu]
      have hcellx : ∀ j u, (nums8 xs)[j]? = some u → W.cell? (ad0.add j) = some u := by
        intro j u hu
        have hj := (List.getElem?_eq_some_iff.1 hu).1
        obtain ⟨b, off, ha, hc⟩ := q4 j hj
        injection ha with ha
        subst ha
        rw [Addr.add_lit, hc, hu]
      have hn : n = xs.length := e2
      subst hn
      obtain ⟨v', w', hr2, ho, hg⟩ := run_append_arg_grows (P := P) W t ty e i0 (.int .u8 0) 1 1 ht hi hz0 hz1 hz2 rfl (by omega) ad0 xs.length xs.length (nums8 xs) (by rw [nums8_length, Nat.mul_one]) hcellx
        ad ys.length capy (nums8 ys) (by rw [nums8_length, Nat.mul_one]) hcells (by omega) (by simp only [maxLen]; omega) (by omega)
      have hO : Own w' W.heap.size e v' (xs ++ ys) := ⟨bytes_append hbx hby, by rw [nums8_append, List.length_append]; exact ho⟩
      have hv : v' ≠ .slice none 0 0 := fun e => by
        obtain ⟨A, c, hv, h8, _⟩ := hO.rd.form
        rw [e] at hv
        injection hv with _ e2 _
        rw [List.length_append] at e2
        omega
      have hF := (hO.toF hv)
      exact ⟨v', w', hr2, .inr (hF.low (Nat.zero_le _)), fun k hk => (hF.lt k hk).1, ((Chg.of hg).mono (S' := fun _ => False) (fun b _ e => by cases e)).to_below (fun b h => h.elim) (Nat.le_refl _)⟩
/-- a row of one-cell values, by cells -/
structure CRow (W : World) (g n : Nat) (gs : Nat → Value) : Prop where
  lt : g < W.heap.size
  cell : ∀ j, j < n → W.cell? ⟨g, j, none⟩ = some (gs j)
  free : ∀ j, j < n → W.frozen? ⟨g, j, none⟩ = false
theorem CRow.chg {S : Nat → Prop} {w w1 : World} {g n : Nat} {gs : Nat → Value} (h : CRow w g n gs) (hc : Chg S w w1) (hn : ¬ S g) : CRow w1 g n gs := by
  have hg := hc.block g h.lt hn
  exact ⟨Nat.lt_of_lt_of_le h.lt hc.size, fun j hj => by rw [World.cell?_of_block (w := w) (a := ⟨g, j, none⟩) hg]; exact h.cell j hj, fun j hj => by rw [World.frozen?_of_block (w := w) (a := ⟨g, j, none⟩) hg]; exact h.free j hj⟩
theorem CRow.keep {w w1 : World} {g n : Nat} {gs : Nat → Value} (h : CRow w g n gs) (hb : Below w.heap.size w w1) : CRow w1 g n gs := h.chg (Chg.below (S := fun _ => False) hb) (fun h => h)
def upd (f : Nat → Value) (i : Nat) (v : Value) : Nat → Value := fun j => if j = i then v else f j
def updL (f : Nat → List Int) (i : Nat) (v : List Int) : Nat → List Int := fun j => if j = i then v else f j
theorem upd_self (f : Nat → Value) (i : Nat) (v : Value) : upd f i v i = v := if_pos rfl
theorem upd_ne (f : Nat → Value) (i j : Nat) (v : Value) (h : j ≠ i) : upd f i v j = f j := if_neg h
theorem updL_self (f : Nat → List Int) (i : Nat) (v : List Int) : updL f i v i = v := if_pos rfl
theorem updL_ne (f : Nat → List Int) (i j : Nat) (v : List Int) (h : j ≠ i) : updL f i v j = f j := if_neg h
theorem CRow.put {w : World} {g n : Nat} {gs : Nat → Value} (h : CRow w g n gs) (i : Nat) (hi : i < n) (u : Value) : CRow (w.setCell ⟨g, i, none⟩ u) g n (upd gs i u) := by
  have hs : (w.cell? ⟨g, i, none⟩).isSome = true := by rw [h.cell i hi]; rfl
  refine ⟨Nat.lt_of_lt_of_le h.lt (chg_put w g i u).size, fun j hj => ?_, fun j hj => by rw [frozen_put]; exact h.free j hj⟩
  rw [cell_put w g i j u hs]
  unfold upd
  split
  · rfl
  · exact h.cell j hj
end Go.Proofs.Ytilmmohkdgmhnaa
