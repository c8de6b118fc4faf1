/- What came in, opened by its shape: over any program. -/
import Derived.Test.YtcaljnlicohkaaaOpen
import Derived.Lib.SmallJoins
namespace Go.Proofs.Ytcaljnlicohkaaa
open Go.RowKit Go.ChangeShapes Go.WideShapes Go.ChangeAt
set_option linter.unusedVariables false
theorem okWide_array {P : Program} {w : World} {r : Reach} {base : Nat} {t e : TypeId} {n : Nat} {v : Value} (ht : P.underlying t = some (.array n e)) (h : Value.okWide P w r base t v) : ∃ cs, v = .agg cs ∧ cs.size = P.cellsOf t := by
  simp only [Value.okWide, ht] at h
  obtain ⟨cs, h1, h2, _⟩ := h
  exact ⟨cs, h1, h2⟩
def RInt (k : IntKind) (w : World) (cs : List Value) (n : Int) : Prop := cs = [.int k n] ∧ (Lit.int k n).wf = true
def RBool (w : World) (cs : List Value) (b : Bool) : Prop := cs = [.bool b]
def RStr (w : World) (cs : List Value) (s : ByteArray) : Prop := cs = [.string s] ∧ s.size ≤ 140737488351232
def RBytes (w : World) (cs : List Value) (xs : List Int) : Prop := ∃ v, cs = [v] ∧ Rd w v xs ∧ xs.length ≤ 140737488351232
def RInts (k : IntKind) (n : Nat) (w : World) (cs : List Value) (xs : List Int) : Prop := xs.length = n ∧ cs = xs.map (Value.int k) ∧ ∀ x ∈ xs, (Lit.int k x).wf = true
def RNil (w : World) (cs : List Value) (_ : Unit) : Prop := True
def RAnd {α β : Type} (off n : Nat) (R : World → List Value → α → Prop) (S : World → List Value → β → Prop) (w : World) (cs : List Value) (a : α × β) : Prop := R w ((cs.drop off).take n) a.1 ∧ S w cs a.2
def RSl {α : Type} (m B : Nat) (R : World → List Value → α → Prop) (w : World) (cs : List Value) (as : List α) : Prop :=
  ∃ v vs, cs = [v] ∧ RdC m w v as.length vs ∧ as.length * B ≤ 140737488351232 ∧ ∀ j, j < as.length → ∃ a, as[j]? = some a ∧ ((vs.drop (j * m)).take m).length = m ∧ R w ((vs.drop (j * m)).take m) a
section
variable {H : Type} (enc : TypeId × Value → H) (P : Program) (w : World) (base : Nat) (spare : Nat → Bool) (held : Bool)
def Opens (t : TypeId) (n : Nat) {α : Type} (R : World → List Value → α → Prop) : Prop :=
  P.cellsOf t = n ∧ ∀ fuel cs x, DataW.trod enc P w base spare held fuel t cs = some x → Small P t x.1 → ∃ a, R w cs a
def OpensFs (fs : List Field) {α : Type} (R : World → List Value → α → Prop) : Prop :=
  ∀ (n : Nat) (cs : List Value) (xs : List (DataW H × List MemPlace)), xs.length = fs.length → (∀ (i : Nat) (f : Field), fs[i]? = some f → DataW.trod enc P w base spare held n f.type ((cs.drop f.offset).take (P.cellsOf f.type)) = xs[i]?) →
    (∀ q ∈ DataW.weightsEach P (fs.map (·.type)) (xs.map (·.1)), q ≤ 140737488351232) → ∃ a, R w cs a
end
section
variable {H : Type} {enc : TypeId × Value → H} {P : Program} {w : World} {base : Nat} {spare : Nat → Bool} {held : Bool}
theorem opens_int {t : TypeId} {k : IntKind} (ht : P.underlying t = some (.int k)) (hc : P.cellsOf t = 1) : Opens enc P w base spare held t 1 (RInt k) :=
  ⟨hc, fun fuel cs x h _ => by obtain ⟨n, h1, _, h2⟩ := DataW.trod_int ht h; exact ⟨n, h1, h2⟩⟩
theorem opens_bool {t : TypeId} (ht : P.underlying t = some .bool) (hc : P.cellsOf t = 1) : Opens enc P w base spare held t 1 RBool :=
  ⟨hc, fun fuel cs x h _ => by
    cases fuel with
    | zero => simp [DataW.trod] at h
    | succ n =>
      unfold DataW.trod at h
      rw [ht] at h
      split at h <;> simp_all [RBool]⟩
theorem opens_str {t : TypeId} (ht : P.underlying t = some .string) (hc : P.cellsOf t = 1) : Opens enc P w base spare held t 1 RStr :=
  ⟨hc, fun fuel cs x h hz => by
    obtain ⟨s, h1, h2, _⟩ := DataW.trod_string ht h
    subst h2
    refine ⟨s, h1, ?_⟩
    have := hz s.data.toList.length (by simp [DataW.weights])
    simpa using this⟩
theorem opens_bytes {t e : TypeId} (ht : P.underlying t = some (.slice e)) (he : P.underlying e = some (.int .u8)) (hct : P.cellsOf t = 1) (hc : P.cellsOf e = 1) (hB : P.bytesOf e = 1) : Opens enc P w base spare held t 1 RBytes :=
  ⟨hct, fun fuel cs x h hz => by obtain ⟨v, xs, h1, h2, h3, _⟩ := open_bytes ht he hc hB h hz; exact ⟨xs, v, h1, h2, h3⟩⟩
theorem opens_nil : OpensFs enc P w base spare held [] RNil := fun _ _ _ _ _ _ => ⟨(), trivial⟩
theorem opens_cons {f : Field} {fs : List Field} {α β : Type} {n : Nat} {R : World → List Value → α → Prop} {S : World → List Value → β → Prop} (h : Opens enc P w base spare held f.type n R) (hs : OpensFs enc P w base spare held fs S) :
    OpensFs enc P w base spare held (f :: fs) (RAnd f.offset n R S) := by
  intro m cs xs hl hx hq
  match xs, hl with
  | x :: xs, hl =>
    have h0 := hx 0 f rfl
    simp only [List.getElem?_cons_zero] at h0
    obtain ⟨a, ha⟩ := h.2 _ _ x h0 (fun q hq1 => hq q (by simp only [List.map_cons, DataW.weightsEach, List.mem_append]; exact Or.inl hq1))
    obtain ⟨b, hb⟩ := hs m cs xs (by simpa using hl) (fun i f' hf => by have := hx (i + 1) f' (by simpa using hf); simpa using this)
      (fun q hq1 => hq q (by simp only [List.map_cons, DataW.weightsEach, List.mem_append]; exact Or.inr hq1))
    rw [h.1] at ha
    exact ⟨(a, b), ha, hb⟩
theorem opens_struct {t : TypeId} {fs : List Field} {n : Nat} {α : Type} {R : World → List Value → α → Prop} (ht : P.underlying t = some (.struct fs.toArray)) (hc : P.cellsOf t = n) (h : OpensFs enc P w base spare held fs R) :
    Opens enc P w base spare held t n R :=
  ⟨hc, fun fuel cs x hx hz => by
    obtain ⟨xs, m, _, rfl, _, hl, hf⟩ := DataW.trod_struct ht hx
    refine h m cs xs (by simpa using hl) (fun i f hif => hf i f (by simpa using hif)) (fun q hq => hz q ?_)
    simpa [DataW.weights, ht] using hq⟩
theorem opens_arr {t e : TypeId} {n : Nat} {k : IntKind} (ht : P.underlying t = some (.array n e)) (he : P.underlying e = some (.int k)) (hc : P.cellsOf e = 1) (hct : P.cellsOf t = n) : Opens enc P w base spare held t n (RInts k n) :=
  ⟨hct, fun fuel cs x hx hz => by
    obtain ⟨xs, m, _, rfl, hcl, hl, hf⟩ := DataW.trod_array ht hx
    rw [hct] at hcl
    have hel : ∀ i, i < n → ∃ z : Int, cs[i]? = some (Value.int k z) ∧ (Lit.int k z).wf = true := fun i hi => by
      have h1 := hf i hi
      rw [hc, Nat.mul_one] at h1
      obtain ⟨y, hy⟩ : ∃ y, xs[i]? = some y := ⟨_, List.getElem?_eq_getElem (by omega)⟩
      rw [hy] at h1
      obtain ⟨z, h2, _, h3⟩ := DataW.trod_int he h1
      refine ⟨z, ?_, h3⟩
      have := congrArg (fun l : List Value => l[0]?) h2
      simpa [List.getElem?_take, List.getElem?_drop] using this
    obtain ⟨Z, hZ⟩ := Go.Deep.choose_lt (α := Int) (p := fun i z => cs[i]? = some (Value.int k z) ∧ (Lit.int k z).wf = true) hel
    refine ⟨(List.range n).map Z, by simp, ?_, ?_⟩
    · refine List.ext_getElem? fun i => ?_
      by_cases hi : i < n
      · rw [(hZ i hi).1, List.getElem?_map, List.getElem?_map, List.getElem?_range hi]; rfl
      · rw [List.getElem?_eq_none (by omega), List.getElem?_eq_none (by simp; omega)]
    · intro z hz
      obtain ⟨i, hi, rfl⟩ := List.mem_map.1 hz
      exact (hZ i (List.mem_range.1 hi)).2⟩
theorem flatMap_get {α : Type} {m : Nat} (F : Nat → List α) (len : Nat) (hF : ∀ i, i < len → (F i).length = m) : ((List.range len).flatMap F).length = len * m ∧
    ∀ i, i < len → ((((List.range len).flatMap F).drop (i * m)).take m) = F i := by
  induction len with
  | zero => exact ⟨by simp, fun i hi => by omega⟩
  | succ len ih =>
    obtain ⟨h1, h2⟩ := ih fun i hi => hF i (by omega)
    have e : (List.range (len + 1)).flatMap F = (List.range len).flatMap F ++ F len := by rw [List.range_succ, List.flatMap_append]; simp
    rw [e]
    refine ⟨by rw [List.length_append, h1, hF len (by omega), Nat.succ_mul], fun i hi => ?_⟩
    by_cases hlt : i < len
    · have hle : i * m + m ≤ len * m := by rw [← Nat.succ_mul]; exact Nat.mul_le_mul_right _ (by omega)
      rw [List.drop_append_of_le_length (by rw [h1]; omega), List.take_append_of_le_length (by rw [List.length_drop, h1]; omega)]
      exact h2 i hlt
    · obtain rfl : i = len := by omega
      rw [← h1, List.drop_left, ← hF i (by omega), List.take_length]
theorem opens_slice {t e : TypeId} {m B : Nat} {α : Type} [Inhabited α] {R : World → List Value → α → Prop} (ht : P.underlying t = some (.slice e)) (hct : P.cellsOf t = 1) (hm : 0 < m) (hB : P.bytesOf e = B) (h : Opens enc P w base spare held e m R) :
    Opens enc P w base spare held t 1 (RSl m B R) :=
  ⟨hct, fun fuel cs x hx hz => by
    rcases Go.Deep.open_slice ht hx with ⟨rfl, rfl⟩ | ⟨a, len, cap, mm, n, D, Pl, rfl, _, hl, hcm, hmm, rfl, hel⟩
    · exact ⟨[], _, [], rfl, RdC.own (World.ownsRow_nil w 0 e m), by simp, fun j hj => absurd hj (by simp)⟩
    · have hlm : len ≤ mm := by rw [hmm]; split <;> omega
      rw [h.1] at hel
      have hw : ∀ i, i < len → Small P e (D i) := by
        intro i hi q hq
        refine hz q ?_
        simp only [DataW.weights, ht, List.mem_cons, List.mem_append]
        refine .inr (.inl (weightsAll_mem (i := i) (d := D i) ?_ q hq))
        rw [List.getElem?_map, List.getElem?_range hi]; rfl
      obtain ⟨F, hF⟩ := Go.Deep.choose_lt (α := List Value) (n := len) (p := fun i c => w.cells? base (a.add (i * m)) m = some c ∧ DataW.trod enc P w base spare held n e c = some (D i, Pl i)) (fun i hi => hel i (by omega))
      obtain ⟨X, hX⟩ := Go.Deep.choose_lt (α := α) (n := len) (p := fun i x => R w (F i) x) (fun i hi => h.2 _ _ _ (hF i hi).2 (hw i hi))
      have hFl : ∀ i, i < len → (F i).length = m := fun i hi => (World.cells?_some (hF i hi).1).2.1
      obtain ⟨k1, k2⟩ := flatMap_get F len hFl
      have hlenX : ((List.range len).map X).length = len := by rw [List.length_map, List.length_range]
      refine ⟨(List.range len).map X, _, (List.range len).flatMap F, rfl, ⟨by rw [hlenX, k1], some a, cap, by rw [hlenX], by rw [hlenX]; exact hl, hcm, (fun h => by cases h), ?_⟩, ?_, ?_⟩
      · intro j hj
        rw [k1] at hj
        have hi : j / m < len := by rw [Nat.div_lt_iff_lt_mul hm]; exact hj
        have hr : j % m < m := Nat.mod_lt _ hm
        have hc := (World.cells?_some (hF _ hi).1).2.2 (j % m) hr
        have e1 : j = j / m * m + j % m := by rw [Nat.mul_comm]; exact (Nat.div_add_mod j m).symm
        have e2 : ((List.range len).flatMap F)[j]? = (F (j / m))[j % m]? := by
          rw [← k2 _ hi, List.getElem?_take_of_lt hr, List.getElem?_drop, ← e1]
        have hadd : (a.add (j / m * m)).add (j % m) = a.add j := by rw [Addr.add_add, ← e1]
        rw [hadd] at hc
        have hsp : a.spot = none := by
          have hl0 : 0 < len := Nat.lt_of_le_of_lt (Nat.zero_le _) hi
          have hc0 := (World.cells?_some (hF 0 hl0).1).2.2 0 hm
          rw [Nat.zero_mul, List.getElem?_eq_getElem (by rw [hFl 0 hl0]; exact hm)] at hc0
          simpa [Addr.add] using World.cell?_spot hc0
        obtain ⟨b, off, spot⟩ := a
        have : spot = none := hsp
        subst this
        refine ⟨b, off, rfl, ?_⟩
        rw [Addr.add_lit] at hc
        rw [hc, e2]
      · have := hz ((len + (mm - len)) * P.bytesOf e) (by simp [DataW.weights, ht])
        rw [hB] at this
        rw [hlenX]
        have h2 : len * B ≤ (len + (mm - len)) * B := Nat.mul_le_mul_right _ (by omega)
        omega
      · intro j hj
        rw [hlenX] at hj
        rw [k2 j hj]
        exact ⟨X j, by rw [List.getElem?_map, List.getElem?_range hj]; rfl, hFl j hj, hX j hj⟩⟩
/-- a value of one cell, or of a struct or an array, opened -/
theorem opens_one {t : TypeId} {α : Type} {R : World → List Value → α → Prop} {v : Value} {d : DataW H} {ps : List MemPlace} (h : Opens enc P w base spare held t 1 R) (hv : v.cells = #[v]) (hx : DataW.Trod enc P w base spare held t v d ps) (hz : Small P t d) : ∃ a, R w [v] a := by
  obtain ⟨fuel, hf⟩ := hx
  rw [hv] at hf
  exact h.2 _ _ _ hf hz
theorem opens_agg {t : TypeId} {n : Nat} {α : Type} {R : World → List Value → α → Prop} {cs : Array Value} {d : DataW H} {ps : List MemPlace} (h : Opens enc P w base spare held t n R) (hx : DataW.Trod enc P w base spare held t (.agg cs) d ps) (hz : Small P t d) : ∃ a, R w cs.toList a := by
  obtain ⟨fuel, hf⟩ := hx
  exact h.2 _ _ _ hf hz
end
end Go.Proofs.Ytcaljnlicohkaaa
