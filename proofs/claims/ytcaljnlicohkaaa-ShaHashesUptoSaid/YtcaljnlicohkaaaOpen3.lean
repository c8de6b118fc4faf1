/- What came in, opened by its shape, and how great it is: over any program. -/
import Derived.Test.YtcaljnlicohkaaaRows
import Derived.Test.YtcaljnlicohkaaaOpen2
namespace Go.Proofs.Ytcaljnlicohkaaa
open Go.RowKit Go.ChangeShapes Go.WideShapes Go.ChangeAt
set_option linter.unusedVariables false
theorem bulk_one {H : Type} (d : DataW H) : 1 ≤ Rows.uptoBulk d := by
  cases d with
  | lit l => cases l <;> simp [Rows.uptoBulk]
  | nil => simp [Rows.uptoBulk]
  | ptr d => simp [Rows.uptoBulk]
  | slice elems spare => simp [Rows.uptoBulk]
  | agg parts => simp [Rows.uptoBulk]
  | iface t d => simp [Rows.uptoBulk]
  | map entries => simp [Rows.uptoBulk]
  | held h => simp [Rows.uptoBulk]
theorem bulk_length {H : Type} (l : List (DataW H)) : l.length ≤ Rows.uptoBulkAll l := by
  induction l with
  | nil => simp [Rows.uptoBulkAll]
  | cons x r ih => have := bulk_one x; simp only [Rows.uptoBulkAll, List.length_cons]; omega
theorem bulk_append {H : Type} (l r : List (DataW H)) : Rows.uptoBulkAll (l ++ r) = Rows.uptoBulkAll l + Rows.uptoBulkAll r := by
  induction l with
  | nil => simp [Rows.uptoBulkAll]
  | cons x l ih => simp only [List.cons_append, Rows.uptoBulkAll, ih]; omega
theorem sum_bulk {H α : Type} {μ : α → Nat} {X : Nat → α} {D : Nat → DataW H} : ∀ len : Nat, (∀ i, i < len → μ (X i) ≤ Rows.uptoBulk (D i)) → (((List.range len).map X).map μ).sum ≤ Rows.uptoBulkAll ((List.range len).map D)
  | 0, _ => by simp [Rows.uptoBulkAll]
  | len + 1, h => by
    have ih := sum_bulk len fun i hi => h i (by omega)
    have hl := h len (by omega)
    rw [List.range_succ, List.map_append, List.map_append, List.map_append, List.sum_append, bulk_append]
    simp only [List.map_cons, List.map_nil, List.sum_cons, List.sum_nil, Rows.uptoBulkAll]
    omega
section
variable {H : Type} (enc : TypeId × Value → H) (P : Program) (w : World) (base : Nat) (spare : Nat → Bool) (held : Bool)
def OpensB (t : TypeId) (n : Nat) {α : Type} (R : World → List Value → α → Prop) (μ : α → Nat) : Prop :=
  P.cellsOf t = n ∧ ∀ fuel cs x, DataW.trod enc P w base spare held fuel t cs = some x → Small P t x.1 → ∃ a, R w cs a ∧ μ a ≤ Rows.uptoBulk x.1
def OpensFsB (fs : List Field) {α : Type} (R : World → List Value → α → Prop) (μ : α → Nat) : Prop :=
  ∀ (n : Nat) (cs : List Value) (xs : List (DataW H × List MemPlace)), xs.length = fs.length → (∀ (i : Nat) (f : Field), fs[i]? = some f → DataW.trod enc P w base spare held n f.type ((cs.drop f.offset).take (P.cellsOf f.type)) = xs[i]?) →
    (∀ q ∈ DataW.weightsEach P (fs.map (·.type)) (xs.map (·.1)), q ≤ 140737488351232) → ∃ a, R w cs a ∧ μ a ≤ Rows.uptoBulkAll (xs.map (·.1))
end
section
variable {H : Type} {enc : TypeId × Value → H} {P : Program} {w : World} {base : Nat} {spare : Nat → Bool} {held : Bool}
theorem opensB_of {t : TypeId} {n : Nat} {α : Type} {R : World → List Value → α → Prop} (h : Opens enc P w base spare held t n R) : OpensB enc P w base spare held t n R (fun _ => 1) :=
  ⟨h.1, fun fuel cs x hx hz => by obtain ⟨a, ha⟩ := h.2 fuel cs x hx hz; exact ⟨a, ha, bulk_one _⟩⟩
theorem opensB_str {t : TypeId} (ht : P.underlying t = some .string) (hc : P.cellsOf t = 1) : OpensB enc P w base spare held t 1 RStr (fun s => s.size + 1) :=
  ⟨hc, fun fuel cs x h hz => by
    obtain ⟨s, h1, h2, _⟩ := DataW.trod_string ht h
    subst h2
    refine ⟨s, ⟨h1, ?_⟩, ?_⟩
    · have := hz s.data.toList.length (by simp [DataW.weights])
      simpa using this
    · simp [Rows.uptoBulk]⟩
theorem opensB_bytes {t e : TypeId} (ht : P.underlying t = some (.slice e)) (he : P.underlying e = some (.int .u8)) (hct : P.cellsOf t = 1) (hc : P.cellsOf e = 1) (hB : P.bytesOf e = 1) : OpensB enc P w base spare held t 1 RBytes (fun xs => xs.length + 1) :=
  ⟨hct, fun fuel cs x h hz => by
    obtain ⟨v, xs, h1, h2, h3, h4⟩ := open_bytes ht he hc hB h hz
    refine ⟨xs, ⟨v, h1, h2, h3⟩, ?_⟩
    rcases h4 with ⟨e1, e2⟩ | ⟨sp, e1⟩
    · rw [e1, e2]; simp [Rows.uptoBulk]
    · rw [e1]
      simp only [Rows.uptoBulk]
      have := bulk_length (H := H) (lits .u8 xs)
      simp only [lits, List.length_map] at this
      unfold lits
      omega⟩
theorem opensB_nil : OpensFsB enc P w base spare held [] RNil (fun _ => 0) := fun _ _ _ _ _ _ => ⟨(), trivial, Nat.zero_le _⟩
theorem opensB_cons {f : Field} {fs : List Field} {α β : Type} {n : Nat} {R : World → List Value → α → Prop} {S : World → List Value → β → Prop} {μ : α → Nat} {ν : β → Nat} (h : OpensB enc P w base spare held f.type n R μ) (hs : OpensFsB enc P w base spare held fs S ν) :
    OpensFsB enc P w base spare held (f :: fs) (RAnd f.offset n R S) (fun a => μ a.1 + ν a.2) := by
  intro m cs xs hl hx hq
  match xs, hl with
  | x :: xs, hl =>
    have h0 := hx 0 f rfl
    simp only [List.getElem?_cons_zero] at h0
    obtain ⟨a, ha, ha2⟩ := h.2 _ _ x h0 (fun q hq1 => hq q (by simp only [List.map_cons, DataW.weightsEach, List.mem_append]; exact Or.inl hq1))
    obtain ⟨b, hb, hb2⟩ := hs m cs xs (by simpa using hl) (fun i f' hf => by have := hx (i + 1) f' (by simpa using hf); simpa using this)
      (fun q hq1 => hq q (by simp only [List.map_cons, DataW.weightsEach, List.mem_append]; exact Or.inr hq1))
    rw [h.1] at ha
    refine ⟨(a, b), ⟨ha, hb⟩, ?_⟩
    simp only [List.map_cons, Rows.uptoBulkAll]
    omega
theorem opensB_struct {t : TypeId} {fs : List Field} {n : Nat} {α : Type} {R : World → List Value → α → Prop} {μ : α → Nat} (ht : P.underlying t = some (.struct fs.toArray)) (hc : P.cellsOf t = n) (h : OpensFsB enc P w base spare held fs R μ) :
    OpensB enc P w base spare held t n R (fun a => μ a + 1) :=
  ⟨hc, fun fuel cs x hx hz => by
    obtain ⟨xs, m, _, rfl, _, hl, hf⟩ := DataW.trod_struct ht hx
    obtain ⟨a, ha, ha2⟩ := h m cs xs (by simpa using hl) (fun i f hif => hf i f (by simpa using hif)) (fun q hq => hz q (by simpa [DataW.weights, ht] using hq))
    refine ⟨a, ha, ?_⟩
    simp only [Rows.uptoBulk]
    omega⟩
theorem opensB_slice {t e : TypeId} {m B : Nat} {α : Type} [Inhabited α] {R : World → List Value → α → Prop} {μ : α → Nat} (ht : P.underlying t = some (.slice e)) (hct : P.cellsOf t = 1) (hm : 0 < m) (hB : P.bytesOf e = B) (h : OpensB enc P w base spare held e m R μ) :
    OpensB enc P w base spare held t 1 (RSl m B R) (fun l => (l.map μ).sum + 1) :=
  ⟨hct, fun fuel cs x hx hz => by
    rcases Go.Deep.open_slice ht hx with ⟨rfl, rfl⟩ | ⟨a, len, cap, mm, n, D, Pl, rfl, _, hl, hcm, hmm, rfl, hel⟩
    · exact ⟨[], ⟨_, [], rfl, RdC.own (World.ownsRow_nil w 0 e m), by simp, fun j hj => absurd hj (by simp)⟩, by simp [Rows.uptoBulk]⟩
    · have hlm : len ≤ mm := by rw [hmm]; split <;> omega
      rw [h.1] at hel
      have hw : ∀ i, i < len → Small P e (D i) := by
        intro i hi q hq
        refine hz q ?_
        simp only [DataW.weights, ht, List.mem_cons, List.mem_append]
        refine .inr (.inl (weightsAll_mem (i := i) (d := D i) ?_ q hq))
        rw [List.getElem?_map, List.getElem?_range hi]; rfl
      obtain ⟨F, hF⟩ := Go.Deep.choose_lt (α := List Value) (n := len) (p := fun i c => w.cells? base (a.add (i * m)) m = some c ∧ DataW.trod enc P w base spare held n e c = some (D i, Pl i)) (fun i hi => hel i (by omega))
      obtain ⟨X, hX⟩ := Go.Deep.choose_lt (α := α) (n := len) (p := fun i x => R w (F i) x ∧ μ x ≤ Rows.uptoBulk (D i)) (fun i hi => h.2 _ _ _ (hF i hi).2 (hw i hi))
      have hFl : ∀ i, i < len → (F i).length = m := fun i hi => (World.cells?_some (hF i hi).1).2.1
      obtain ⟨k1, k2⟩ := flatMap_get F len hFl
      have hlenX : ((List.range len).map X).length = len := by rw [List.length_map, List.length_range]
      refine ⟨(List.range len).map X, ⟨_, (List.range len).flatMap F, rfl, ⟨by rw [hlenX, k1], some a, cap, by rw [hlenX], by rw [hlenX]; exact hl, hcm, (fun h => by cases h), ?_⟩, ?_, ?_⟩, ?_⟩
      · intro j hj
        rw [k1] at hj
        have hi : j / m < len := by rw [Nat.div_lt_iff_lt_mul hm]; exact hj
        have hr : j % m < m := Nat.mod_lt _ hm
        have hc := (World.cells?_some (hF _ hi).1).2.2 (j % m) hr
        have e1 : j = j / m * m + j % m := by rw [Nat.mul_comm]; exact (Nat.div_add_mod j m).symm
        have e2 : ((List.range len).flatMap F)[j]? = (F (j / m))[j % m]? := by
          rw [← k2 _ hi, List.getElem?_take_of_lt hr, List.getElem?_drop, ← e1]
        have hadd : (a.add (j / m * m)).add (j % m) = a.add j := by rw [Addr.add_add, ← e1]
        rw [hadd] at hc
        have hsp : a.spot = none := by
          have hl0 : 0 < len := Nat.lt_of_le_of_lt (Nat.zero_le _) hi
          have hc0 := (World.cells?_some (hF 0 hl0).1).2.2 0 hm
          rw [Nat.zero_mul, List.getElem?_eq_getElem (by rw [hFl 0 hl0]; exact hm)] at hc0
          simpa [Addr.add] using World.cell?_spot hc0
        obtain ⟨b, off, spot⟩ := a
        have : spot = none := hsp
        subst this
        refine ⟨b, off, rfl, ?_⟩
        rw [Addr.add_lit] at hc
        rw [hc, e2]
      · have := hz ((len + (mm - len)) * P.bytesOf e) (by simp [DataW.weights, ht])
        rw [hB] at this
        rw [hlenX]
        have h2 : len * B ≤ (len + (mm - len)) * B := Nat.mul_le_mul_right _ (by omega)
        omega
      · intro j hj
        rw [hlenX] at hj
        rw [k2 j hj]
        exact ⟨X j, by rw [List.getElem?_map, List.getElem?_range hj]; rfl, hFl j hj, (hX j hj).1⟩
      · have := sum_bulk (μ := μ) (X := X) (D := D) len (fun i hi => (hX i hi).2)
        simp only [Rows.uptoBulk]
        omega⟩
theorem opensB_one {t : TypeId} {α : Type} {R : World → List Value → α → Prop} {μ : α → Nat} {v : Value} {d : DataW H} {ps : List MemPlace} (h : OpensB enc P w base spare held t 1 R μ) (hv : v.cells = #[v]) (hx : DataW.Trod enc P w base spare held t v d ps) (hz : Small P t d) : ∃ a, R w [v] a ∧ μ a ≤ Rows.uptoBulk d := by
  obtain ⟨fuel, hf⟩ := hx
  rw [hv] at hf
  exact h.2 _ _ _ hf hz
theorem opensB_agg {t : TypeId} {n : Nat} {α : Type} {R : World → List Value → α → Prop} {μ : α → Nat} {cs : Array Value} {d : DataW H} {ps : List MemPlace} (h : OpensB enc P w base spare held t n R μ) (hx : DataW.Trod enc P w base spare held t (.agg cs) d ps) (hz : Small P t d) : ∃ a, R w cs.toList a ∧ μ a ≤ Rows.uptoBulk d := by
  obtain ⟨fuel, hf⟩ := hx
  exact h.2 _ _ _ hf hz
theorem bytes_bulk {d : DataW H} {xs : List Int} (h : d = .nil ∧ xs = [] ∨ ∃ sp, d = .slice (lits .u8 xs) sp) : xs.length + 1 ≤ Rows.uptoBulk d := by
  rcases h with ⟨rfl, rfl⟩ | ⟨sp, rfl⟩
  · simp [Rows.uptoBulk]
  · have := bulk_length (H := H) (lits .u8 xs)
    simp only [lits, List.length_map] at this
    simp only [Rows.uptoBulk]
    unfold lits
    omega
/-- a list of lists of bytes: how many bytes in all -/
theorem lists_bulk {d : DataW H} {xss : List (List Int)} (h : d = .nil ∧ xss = [] ∨ ∃ es sp, d = .slice es sp ∧ es.length = xss.length ∧ ∀ j, j < xss.length → (es[j]? = some .nil ∧ xss.getD j [] = [] ∨ ∃ s, es[j]? = some (.slice (lits .u8 (xss.getD j [])) s))) : xss.flatten.length + xss.length ≤ Rows.uptoBulk d := by
  rcases h with ⟨_, rfl⟩ | ⟨es, sp, rfl, hl, he⟩
  · simp
  · have key : ∀ (xss : List (List Int)) (es : List (DataW H)), es.length = xss.length → (∀ j, j < xss.length → (es[j]? = some .nil ∧ xss.getD j [] = [] ∨ ∃ s, es[j]? = some (.slice (lits .u8 (xss.getD j [])) s))) → xss.flatten.length + xss.length ≤ Rows.uptoBulkAll es := by
      intro xss
      induction xss with
      | nil => intro es _ _; simp
      | cons xs xss ih =>
        intro es hl he
        match es, hl with
        | e :: es, hl =>
          have h0 := he 0 (by simp)
          have h1 := ih es (by simpa using hl) (fun j hj => by have := he (j + 1) (by simpa using hj); simpa using this)
          have hb : xs.length + 1 ≤ Rows.uptoBulk e := by
            simp only [List.getElem?_cons_zero, Option.some.injEq, List.getD_cons_zero] at h0
            rcases h0 with ⟨e1, e2⟩ | ⟨s, e1⟩
            · rw [e1, e2]; simp [Rows.uptoBulk]
            · rw [e1]
              simp only [Rows.uptoBulk]
              have := bulk_length (H := H) (lits .u8 xs)
              simp only [lits, List.length_map] at this
              unfold lits
              omega
          simp only [List.flatten_cons, List.length_append, List.length_cons, Rows.uptoBulkAll]
          omega
    have := key xss es hl he
    simp only [Rows.uptoBulk]
    omega
end
end Go.Proofs.Ytcaljnlicohkaaa
