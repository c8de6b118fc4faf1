/- What is read lies in a row of one's own kind: kept while other rows grow. Lists of structs of two cells. Over any program. -/
import Derived.Test.YtcaljnlicohkaaaMem6
namespace Go.Proofs.Ytcaljnlicohkaaa
open Go.RowKit
theorem cell_grown {w w1 : World} {row : Option Nat} (hg : w.grownBy w1 row) {a : Addr} {v : Value} (hc : w.cell? a = some v) (hne : some a.block ≠ row) : w1.cell? a = some v := by
  rw [World.cell?_of_block (w := w) (hg.block a.block (World.block_lt_of_cell? w a hc) hne)]
  exact hc
/-- the bytes l, in a row of the kind ty that is not older than base -/
def RdB (W : World) (base : Nat) (ty : TypeId) (v : Value) (l : List Int) : Prop :=
  Rd W v l ∧ ∃ A n c, v = .slice A n c ∧ ∀ a, A = some a → base ≤ a.block ∧ ∃ cur, W.heap[a.block]? = some (.cells cur ty (0, 0))
theorem RdB.len {W : World} {base : Nat} {ty : TypeId} {v : Value} {l : List Int} (h : RdB W base ty v l) : ∃ A c, v = .slice A l.length c := by
  obtain ⟨A, c, hv, _⟩ := h.1.form
  exact ⟨A, c, hv⟩
theorem RdB.keep {w w1 : World} {base : Nat} {ty : TypeId} {v : Value} {l : List Int} (h : RdB w base ty v l) (hb : Below w.heap.size w w1) : RdB w1 base ty v l := by
  obtain ⟨h1, A, n, c, hv, h2⟩ := h
  refine ⟨h1.keep hb, A, n, c, hv, fun a ha => ?_⟩
  obtain ⟨h3, cur, h4⟩ := h2 a ha
  exact ⟨h3, cur, (hb.block a.block (Array.getElem?_eq_some_iff.1 h4).1).trans h4⟩
theorem RdB.grown {w w1 : World} {base : Nat} {ty : TypeId} {v : Value} {l : List Int} {row : Option Nat} (h : RdB w base ty v l) (hg : w.grownBy w1 row)
    (hne : ∀ b cur, w.heap[b]? = some (.cells cur ty (0, 0)) → some b ≠ row) : RdB w1 base ty v l := by
  obtain ⟨h1, A, n, c, hv, h2⟩ := h
  refine ⟨⟨h1.1, ?_⟩, A, n, c, hv, fun a ha => ?_⟩
  · obtain ⟨hl, A', cap, hv', k1, k2, k3, k4⟩ := h1.2
    rw [hv] at hv'
    injection hv' with e1 e2 e3
    subst e1
    refine ⟨hl, A, cap, by rw [hv, e2, e3], k1, k2, k3, fun j hj => ?_⟩
    obtain ⟨b, off, ha, hc⟩ := k4 j hj
    obtain ⟨_, cur, h4⟩ := h2 _ ha
    refine ⟨b, off, ha, ?_⟩
    rw [List.getElem?_eq_getElem hj] at hc ⊢
    exact cell_grown hg hc (hne b cur h4)
  · obtain ⟨h3, cur, h4⟩ := h2 a ha
    exact ⟨h3, cur, (hg.block a.block (Array.getElem?_eq_some_iff.1 h4).1 (hne _ _ h4)).trans h4⟩
theorem RdB.own {W : World} {base : Nat} {ty : TypeId} {v : Value} {l : List Int} (h : Own W base ty v l) : RdB W base ty v l := by
  refine ⟨h.rd, ?_⟩
  rcases h.2.2 with ⟨rfl, _⟩ | ⟨g, cap, cur, rfl, hb, hh, _⟩
  · exact ⟨none, 0, 0, rfl, fun a ha => by cases ha⟩
  · exact ⟨_, _, _, rfl, fun a ha => by injection ha with ha; subst ha; exact ⟨hb, cur, hh⟩⟩
theorem RdB.cut {W : World} {base : Nat} {ty : TypeId} {A : Option Addr} {cap : Nat} {xs : List Int} (h : RdB W base ty (.slice A xs.length cap) xs) (l : Nat) (hl : l ≤ xs.length) :
    RdB W base ty (sliced A l xs.length cap 1) (xs.drop l) := by
  obtain ⟨h1, A', n, c, hv, h2⟩ := h
  injection hv with e1 e2 e3
  subst e1
  obtain ⟨_, _, hv', k1, _⟩ := h1.form
  injection hv' with _ _ e4
  subst e4
  have hc := h1.cut l xs.length cap hl (Nat.le_refl _) k1 (Nat.le_refl _)
  rw [List.take_length] at hc
  refine ⟨hc, _, _, _, rfl, fun a ha => ?_⟩
  split at ha
  · exact h2 a ha
  · cases A with
    | none => cases ha
    | some b =>
      simp only [Option.map_some, Option.some.injEq] at ha
      subst ha
      have := h2 b rfl
      unfold Addr.add
      split
      · exact this
      · exact this
section
variable {P : Program} {t e : TypeId} (ht : P.underlying t = some (.slice e)) (hinfo : (P.info? e).map (fun i => (i.zero, i.size, i.bytes)) = some (some (.int .u8 0), 1, 1))
include ht hinfo
theorem RdB.sl_l {w : World} {base : Nat} {ty : TypeId} {v : Value} {xs : List Int} (h : RdB w base ty v xs) (l : Nat) (hl : l ≤ xs.length) :
    ∃ u, (∀ W, (Instr.slice t v (some (.int .i64 l)) none none).run P W = .ok u W) ∧ RdB w base ty u (xs.drop l) := by
  obtain ⟨A, cap, rfl, h1, h2, h3, h4⟩ := h.1.form
  have hel : P.elem t = e := by simp [Program.elem, ht]
  refine ⟨sliced A l xs.length cap 1, fun W => ?_, h.cut l hl⟩
  rw [run_slice_l (P := P) W t A xs.length cap (by rw [hel]; exact ht) .i64 l (by omega) (by omega), hel, run_size hinfo]
  simp
end
/-! ### a list of structs of a number and bytes -/
def frCells : List (Int × List Int) → List Value → List Value
  | f :: fs, u :: us => .int .i64 f.1 :: u :: frCells fs us
  | _, _ => []
theorem frCells_append : ∀ (fs : List (Int × List Int)) (us : List Value) (f : Int × List Int) (u : Value), us.length = fs.length → frCells (fs ++ [f]) (us ++ [u]) = frCells fs us ++ [.int .i64 f.1, u]
  | [], [], _, _, _ => rfl
  | x :: fs, y :: us, f, u, h => by
    simp only [List.cons_append, frCells]
    rw [frCells_append fs us f u (by simpa using h)]
  | [], _ :: _, _, _, h => by simp at h
  | _ :: _, [], _, _, h => by simp at h
theorem frCells_length : ∀ (fs : List (Int × List Int)) (us : List Value), us.length = fs.length → (frCells fs us).length = fs.length * 2
  | [], [], _ => rfl
  | x :: fs, y :: us, h => by simp [frCells, frCells_length fs us (by simpa using h)]; omega
  | [], _ :: _, h => by simp at h
  | _ :: _, [], h => by simp at h
theorem frCells_get : ∀ (fs : List (Int × List Int)) (us : List Value) (i : Nat), us.length = fs.length → i < fs.length → (frCells fs us)[i * 2]? = some (.int .i64 (fs.getD i (0, [])).1) ∧ (frCells fs us)[i * 2 + 1]? = some (us.getD i undef)
  | f :: fs, u :: us, 0, _, _ => ⟨rfl, rfl⟩
  | f :: fs, u :: us, i + 1, h, hi => by
    have := frCells_get fs us i (by simpa using h) (by simpa using hi)
    rw [show (i + 1) * 2 = i * 2 + 2 by omega]
    exact this
  | [], _, _, _, hi => absurd hi (by simp)
  | _ :: _, [], _, h, _ => by simp at h
/-- a row of one's own of such structs; the bytes lie in rows of the kind e8 -/
def FrL (W : World) (base : Nat) (eF e8 : TypeId) (lv : Value) (fs : List (Int × List Int)) : Prop :=
  ∃ us : List Value, us.length = fs.length ∧ W.ownsRow base eF 2 lv fs.length (frCells fs us) ∧ ∀ i, i < fs.length → Own W base e8 (us.getD i undef) (fs.getD i (0, [])).2
theorem FrL.nil (W : World) (base : Nat) (eF e8 : TypeId) : FrL W base eF e8 (.slice none 0 0) [] := ⟨[], rfl, World.ownsRow_nil W base eF 2, fun i hi => absurd hi (by simp)⟩
theorem FrL.keep {w w1 : World} {base : Nat} {eF e8 : TypeId} {lv : Value} {fs : List (Int × List Int)} (h : FrL w base eF e8 lv fs) (hb : Below w.heap.size w w1) : FrL w1 base eF e8 lv fs := by
  obtain ⟨us, h1, h2, h3⟩ := h
  exact ⟨us, h1, row_keep h2 hb, fun i hi => (h3 i hi).keep hb⟩
theorem own_ne {W : World} {base g : Nat} {e t : TypeId} {size n : Nat} {v : Value} {xs : List Value} {cs : Array Value} (h : W.ownsRow base e size v n xs) (hb : Box W g t cs) (hne : e ≠ t) : v.ownBlock = none ∨ v.ownBlock ≠ some g := by
  rcases h.2 with ⟨rfl, _⟩ | ⟨g', cap, cur, rfl, _, hh, _⟩
  · exact .inl rfl
  · refine .inr fun he => ?_
    have he : g' = g := by simpa [Value.ownBlock] using he
    subst he
    unfold Box at hb
    rw [hh] at hb
    injection hb with hb
    injection hb with _ hb
    exact hne hb
/-- another variable of another kind changes -/
theorem FrL.boxed {w w1 : World} {base g : Nat} {eF e8 t : TypeId} {lv : Value} {fs : List (Int × List Int)} {cs : Array Value} (h : FrL w base eF e8 lv fs) (hb : Box w g t cs) (hg : w.grownBy w1 (some g)) (hF : eF ≠ t) (h8 : e8 ≠ t) : FrL w1 base eF e8 lv fs := by
  obtain ⟨us, h1, h2, h3⟩ := h
  exact ⟨us, h1, h2.kept hg (own_ne h2 hb hF), fun i hi => (h3 i hi).kept hg (own_ne (h3 i hi).2 hb h8)⟩
theorem FrL.len {W : World} {base : Nat} {eF e8 : TypeId} {lv : Value} {fs : List (Int × List Int)} (h : FrL W base eF e8 lv fs) : ∃ A c, lv = .slice A fs.length c := by
  obtain ⟨us, h1, h2, h3⟩ := h
  rcases h2.2 with ⟨rfl, h0⟩ | ⟨g, cap, cur, rfl, _⟩
  · exact ⟨none, 0, by rw [h0]⟩
  · exact ⟨_, cap, rfl⟩
theorem kind_ne {W : World} {base : Nat} {e : TypeId} {size n : Nat} {v : Value} {xs : List Value} (h : W.ownsRow base e size v n xs) {b : Nat} {cur : Array Value} {ty : TypeId} (hb : W.heap[b]? = some (.cells cur ty (0, 0))) (hne : e ≠ ty) : some b ≠ v.ownBlock := by
  rcases own_ne h (g := b) (t := ty) (cs := cur) hb hne with h1 | h1
  · rw [h1]; simp
  · exact fun h => h1 h.symm
section
variable {P : Program} {ops : Array Oper} {rest : List Oper} {o : Oper} {a : Act} {Q : Exit → Act → World → Prop}
theorem app_frame {w0 W : World} (base : Nat) (hgd : o.guard = none) (s x : Operand) (t e e8 : TypeId) (z : Value)
    (ho : o.op = .call { callee := .builtin .append, args := #[s, x], argTypes := #[t, t] })
    (ht : P.underlying t = some (.slice e)) (hinfo : (P.info? e).map (fun i => (i.zero, i.size, i.bytes)) = some (some z, 2, 32)) (hzs : z.cells.size = 2) (hne : e ≠ e8)
    (v y u : Value) (fs : List (Int × List Int)) (f : Int × List Int) (hs : a.eval s = v) (hx : a.eval x = y)
    (HF : FrL W base e e8 v fs) (HR : RdC 2 W y 1 [.int .i64 f.1, u]) (hu1 : u.oneCell' = true) (HU : Own W base e8 u f.2) (HB : Below base w0 W) (hbase : base ≤ W.heap.size) (hl : (fs.length + 1) * 32 ≤ 140737488355328)
    (h : ∀ v1 w1, FrL w1 base e e8 v1 (fs ++ [f]) → Below base w0 w1 → W.grownBy w1 v.ownBlock → (∀ b cur ty, W.heap[b]? = some (.cells cur ty (0, 0)) → e ≠ ty → some b ≠ v.ownBlock) → wpList P ops Q rest (a.put o.dst v1) w1) :
    wpList P ops Q (o :: rest) a W := by
  obtain ⟨us, h1, h2, h3⟩ := HF
  refine app_rd base hgd s x t e z 2 32 ho ht hinfo hzs (by omega) v y fs.length 1 (frCells fs us) [.int .i64 f.1, u] hs hx h2 HR (fun w hw => ?_) hbase (by omega) hl ?_
  · simp only [List.mem_cons, List.not_mem_nil, or_false] at hw
    rcases hw with rfl | rfl
    · rfl
    · exact hu1
  intro v1 w1 k1 k2 k3
  refine h v1 w1 ⟨us ++ [u], by simp [h1], ?_, fun i hi => ?_⟩ (HB.grown k2 hbase fun k hk => (h2.lt k hk).1) k2 (fun b cur ty hb hn => kind_ne h2 hb hn)
  · rw [frCells_append fs us f u h1, List.length_append]
    exact k1
  · have hnb : ∀ {v' : Value} {xs : List Int}, Own W base e8 v' xs → Own w1 base e8 v' xs := fun ho => ho.kept k2 (own_types ho.2 h2 (fun e => hne e.symm))
    rw [List.length_append, List.length_singleton] at hi
    by_cases hlt : i < fs.length
    · rw [getD_left (by omega), getD_left hlt]
      exact hnb (h3 i hlt)
    · obtain rfl : i = fs.length := by omega
      rw [getD_mid h1.symm, getD_mid rfl]
      exact hnb HU
end
theorem grown_bel {w0 w w1 : World} {row : Option Nat} (h : w0.grownBy w row) (hb : Below w.heap.size w w1) : w0.grownBy w1 row :=
  h.trans (grown_below hb row)
theorem grown_own {w0 w w1 : World} {row : Option Nat} {e : TypeId} {size n : Nat} {v : Value} {xs : List Value} (h : w0.grownBy w row) (ho : w.ownsRow w0.heap.size e size v n xs) (hg : w.grownBy w1 v.ownBlock) : w0.grownBy w1 row :=
  ⟨hg.os.trans h.os, hg.tape.trans h.tape, hg.output.trans h.output, Nat.le_trans h.size hg.size, fun k hk hne => (hg.block k (Nat.lt_of_lt_of_le hk h.size) (fun e => by have := (ho.lt k e.symm).1; omega)).trans (h.block k hk hne)⟩
theorem grown_new {w0 w w1 : World} {row : Option Nat} {g : Nat} (h : w0.grownBy w row) (hg : w.grownBy w1 (some g)) (hge : w0.heap.size ≤ g) : w0.grownBy w1 row :=
  ⟨hg.os.trans h.os, hg.tape.trans h.tape, hg.output.trans h.output, Nat.le_trans h.size hg.size, fun k hk hne => (hg.block k (Nat.lt_of_lt_of_le hk h.size) (fun e => by injection e with e; omega)).trans (h.block k hk hne)⟩
/-- the places of a kind are not the variable of another kind -/
theorem box_kind {W : World} {g : Nat} {t ty : TypeId} {cs : Array Value} (hb : Box W g t cs) (hne : ty ≠ t) : ∀ b cur, W.heap[b]? = some (.cells cur ty (0, 0)) → some b ≠ some g := by
  intro b cur h he
  injection he with he
  subst he
  unfold Box at hb
  rw [hb] at h
  injection h with h
  injection h with _ h
  exact hne h.symm
end Go.Proofs.Ytcaljnlicohkaaa
