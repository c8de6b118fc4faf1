/- What a slice reads as; rows of one's own: over any program. -/
import Derived.Below
import Derived.OwnWalk
import Derived.Laws.BytesArg
import Derived.Maps.AppendAt
import Derived.ChangeKeysEq
import Derived.WalkKit
import Derived.WalkLawsBesides
import Derived.WalkSpells
import Derived.Test.YtcaljnlicohkaaaCrcMath
namespace Go.Proofs.Ytcaljnlicohkaaa
open Go.RowKit
theorem hd_ {p : Prop} (h : p) : Hid p := h
def nums8 (xs : List Int) : List Value := xs.map (Value.int .u8)
theorem nums8_length (xs : List Int) : (nums8 xs).length = xs.length := List.length_map _
theorem nums8_append (xs ys : List Int) : nums8 (xs ++ ys) = nums8 xs ++ nums8 ys := List.map_append
theorem nums8_get (xs : List Int) (j : Nat) (h : j < xs.length) : (nums8 xs)[j]? = some (.int .u8 (xs.getD j 0)) := by
  unfold nums8
  rw [List.getElem?_map, List.getElem?_eq_getElem h, List.getD_eq_getElem?_getD, List.getElem?_eq_getElem h]
  rfl
theorem nums8_one (xs : List Int) : ∀ u ∈ nums8 xs, u.oneCell' = true := ints_oneCell .u8 xs
/-- 'v' is a slice of n elements of 'size' cells that hold cs. -/
def RdC (size : Nat) (w : World) (v : Value) (n : Nat) (cs : List Value) : Prop :=
  cs.length = n * size ∧ ∃ A cap, v = .slice A n cap ∧ n ≤ cap ∧ cap ≤ maxLen ∧ (A = none → cap = 0) ∧
    ∀ j, j < cs.length → ∃ b off, A = some ⟨b, off, none⟩ ∧ w.cell? ⟨b, off + j, none⟩ = cs[j]?
theorem cell_keep {w w1 : World} (hb : Below w.heap.size w w1) {a : Addr} {v : Value} (h : w.cell? a = some v) : w1.cell? a = some v :=
  (hb.cell (World.block_lt_of_cell? w a h)).trans h
theorem RdC.keep {size : Nat} {w w1 : World} {v : Value} {n : Nat} {cs : List Value} (h : RdC size w v n cs) (hb : Below w.heap.size w w1) : RdC size w1 v n cs := by
  obtain ⟨hl, A, cap, hv, h1, h2, h3, h4⟩ := h
  refine ⟨hl, A, cap, hv, h1, h2, h3, fun j hj => ?_⟩
  obtain ⟨b, off, ha, hc⟩ := h4 j hj
  refine ⟨b, off, ha, ?_⟩
  rw [List.getElem?_eq_getElem hj] at hc ⊢
  exact cell_keep hb hc
theorem RdC.own {size base : Nat} {e : TypeId} {w : World} {v : Value} {n : Nat} {xs : List Value} (h : w.ownsRow base e size v n xs) : RdC size w v n xs := by
  have hl := h.1
  rcases h.2 with ⟨rfl, rfl⟩ | ⟨g, cap, cur, rfl, hb, hh, h1, h2, h3, h4⟩
  · obtain rfl : xs = [] := List.eq_nil_of_length_eq_zero (by simpa using hl)
    exact ⟨by simp, none, 0, rfl, Nat.le_refl _, Nat.zero_le _, fun _ => rfl, fun j hj => absurd hj (by simp)⟩
  · refine ⟨hl, _, cap, rfl, h1, h2, (fun h => by cases h), fun j hj => ⟨g, 0, rfl, ?_⟩⟩
    have := h.cells (g := g) rfl j (xs[j]) (List.getElem?_eq_getElem hj)
    rw [List.getElem?_eq_getElem hj, ← this]
    unfold Addr.add
    split <;> simp_all
/-- 'v' reads as the bytes xs. -/
def Rd (w : World) (v : Value) (xs : List Int) : Prop := IsBytes xs ∧ RdC 1 w v xs.length (nums8 xs)
theorem Rd.keep {w w1 : World} {v : Value} {xs : List Int} (h : Rd w v xs) (hb : Below w.heap.size w w1) : Rd w1 v xs := ⟨h.1, h.2.keep hb⟩
/-- A row of bytes of one's own. -/
def Own (w : World) (base : Nat) (e : TypeId) (v : Value) (xs : List Int) : Prop := IsBytes xs ∧ w.ownsRow base e 1 v xs.length (nums8 xs)
theorem Own.rd {w : World} {base : Nat} {e : TypeId} {v : Value} {xs : List Int} (h : Own w base e v xs) : Rd w v xs := ⟨h.1, RdC.own h.2⟩
theorem Rd.form {w : World} {v : Value} {xs : List Int} (h : Rd w v xs) : ∃ A cap, v = .slice A xs.length cap ∧ xs.length ≤ cap ∧ cap ≤ maxLen ∧ (A = none → cap = 0) ∧
    ∀ j, j < xs.length → ∃ b off, A = some ⟨b, off, none⟩ ∧ w.cell? ⟨b, off + j, none⟩ = some (.int .u8 (xs.getD j 0)) := by
  obtain ⟨hb, hl, A, cap, hv, h1, h2, h3, h4⟩ := h
  refine ⟨A, cap, hv, h1, h2, h3, fun j hj => ?_⟩
  obtain ⟨b, off, ha, hc⟩ := h4 j (by rw [nums8_length]; exact hj)
  exact ⟨b, off, ha, by rw [hc, nums8_get xs j hj]⟩
theorem byte_at {xs : List Int} (h : IsBytes xs) {j : Nat} (hj : j < xs.length) : 0 ≤ xs.getD j 0 ∧ xs.getD j 0 < 256 := by
  rw [List.getD_eq_getElem?_getD, List.getElem?_eq_getElem hj, Option.getD_some]
  exact h _ (List.getElem_mem hj)
theorem bytes_append {xs ys : List Int} (h : IsBytes xs) (k : IsBytes ys) : IsBytes (xs ++ ys) := by
  intro b hb
  rcases List.mem_append.1 hb with h1 | h1
  · exact h b h1
  · exact k b h1
theorem bytes_take {xs : List Int} (h : IsBytes xs) (n : Nat) : IsBytes (xs.take n) := fun b hb => h b (List.mem_of_mem_take hb)
theorem bytes_drop {xs : List Int} (h : IsBytes xs) (n : Nat) : IsBytes (xs.drop n) := fun b hb => h b (List.mem_of_mem_drop hb)

/-! ### cuts -/
theorem map_add_zero (A : Option Addr) : A.map (·.add 0) = A := by cases A <;> simp [Addr.add]
theorem RdC.cut {size : Nat} {w : World} {A : Option Addr} {cap : Nat} {n : Nat} {cs : List Value} (h : RdC size w (.slice A n cap) n cs) (l k m : Nat) (hlk : l ≤ k) (hkn : k ≤ n) (hkm : k ≤ m) (hm : m ≤ cap) :
    RdC size w (sliced A l k m size) (k - l) ((cs.take (k * size)).drop (l * size)) := by
  obtain ⟨hl, A', cap', hv, h1, h2, h3, h4⟩ := h
  injection hv with e1 _ e2
  subst e1; subst e2
  have hlen : ((cs.take (k * size)).drop (l * size)).length = (k - l) * size := by
    rw [List.length_drop, List.length_take, hl, Nat.min_eq_left (Nat.mul_le_mul_right _ hkn), Nat.sub_mul]
  refine ⟨hlen, _, _, rfl, Nat.sub_le_sub_right hkm _, by omega, ?_, ?_⟩
  · intro h
    split at h
    · omega
    · cases A with
      | none => have := h3 rfl; omega
      | some a => simp at h
  · intro j hj
    rw [hlen] at hj
    have hkl : 0 < k - l := Nat.pos_of_ne_zero fun h => by rw [h] at hj; omega
    have hj2 : l * size + j < k * size := by rw [Nat.sub_mul] at hj; omega
    have hj3 : l * size + j < cs.length := by rw [hl]; exact Nat.lt_of_lt_of_le hj2 (Nat.mul_le_mul_right _ hkn)
    obtain ⟨b, off, ha, hc⟩ := h4 _ hj3
    subst ha
    rw [if_neg (by omega)]
    have e : ((cs.take (k * size)).drop (l * size))[j]? = cs[l * size + j]? := by
      rw [List.getElem?_drop, List.getElem?_take_of_lt hj2]
    rw [e]
    by_cases hz : l * size = 0
    · refine ⟨b, off, by simp [Addr.add, hz], ?_⟩
      rw [hz, Nat.zero_add] at hc ⊢
      exact hc
    · refine ⟨b, off + l * size, by simp [Addr.add, hz], ?_⟩
      rw [Nat.add_assoc]
      exact hc
theorem nums8_cut (xs : List Int) (l k : Nat) : ((nums8 xs).take (k * 1)).drop (l * 1) = nums8 ((xs.take k).drop l) := by
  unfold nums8
  rw [Nat.mul_one, Nat.mul_one, List.map_drop, List.map_take]
theorem Rd.cut {w : World} {A : Option Addr} {cap : Nat} {xs : List Int} (h : Rd w (.slice A xs.length cap) xs) (l k m : Nat) (hlk : l ≤ k) (hkn : k ≤ xs.length) (hkm : k ≤ m) (hm : m ≤ cap) :
    Rd w (sliced A l k m 1) ((xs.take k).drop l) := by
  have hc := h.2.cut l k m hlk hkn hkm hm
  rw [nums8_cut] at hc
  have e : ((xs.take k).drop l).length = k - l := by rw [List.length_drop, List.length_take]; omega
  refine ⟨bytes_drop (bytes_take h.1 _) _, ?_⟩
  rw [e]
  exact hc

theorem run_size {P : Program} {e : TypeId} {s : Nat} {z : Value} {b : Nat} (hinfo : (P.info? e).map (fun i => (i.zero, i.size, i.bytes)) = some (some z, s, b)) (W : World) : (sizeOf e).run P W = .ok s W := by
  obtain ⟨i0, hi, _, h2, _⟩ := info_parts hinfo
  simp [sizeOf, typeInfo, hi, h2]
section
variable {P : Program} {t e : TypeId} (ht : P.underlying t = some (.slice e)) {z : Value} {s b : Nat} (hinfo : (P.info? e).map (fun i => (i.zero, i.size, i.bytes)) = some (some z, s, b))
include ht hinfo
theorem RdC.sl {w : World} {v : Value} {n : Nat} {cs : List Value} (h : RdC s w v n cs) (l k : Nat) (hlk : l ≤ k) (hkn : k ≤ n) :
    ∃ u, (∀ W, (Instr.slice t v (some (.int .i64 l)) (some (.int .i64 k)) none).run P W = .ok u W) ∧ RdC s w u (k - l) ((cs.take (k * s)).drop (l * s)) := by
  obtain ⟨hl, A, cap, rfl, h1, h2, h3, h4⟩ := id h
  have hel : P.elem t = e := by simp [Program.elem, ht]
  refine ⟨sliced A l k cap s, fun W => ?_, h.cut l k cap hlk hkn (by omega) (Nat.le_refl _)⟩
  rw [run_slice_lh (P := P) W t A n cap (by rw [hel]; exact ht) .i64 .i64 l k (by omega) (by omega) (by omega), hel, run_size hinfo]
  simp
theorem RdC.sl_h {w : World} {v : Value} {n : Nat} {cs : List Value} (h : RdC s w v n cs) (k : Nat) (hkn : k ≤ n) :
    ∃ u, (∀ W, (Instr.slice t v none (some (.int .i64 k)) none).run P W = .ok u W) ∧ RdC s w u k (cs.take (k * s)) := by
  obtain ⟨hl, A, cap, rfl, h1, h2, h3, h4⟩ := id h
  have hel : P.elem t = e := by simp [Program.elem, ht]
  have hc := h.cut 0 k cap (Nat.zero_le _) hkn (by omega) (Nat.le_refl _)
  rw [Nat.zero_mul, List.drop_zero, Nat.sub_zero] at hc
  refine ⟨sliced A 0 k cap s, fun W => ?_, hc⟩
  rw [run_slice_h (P := P) W t A n cap (by rw [hel]; exact ht) .i64 k (by omega) (by omega), hel, run_size hinfo]
  simp
theorem RdC.sl_l {w : World} {v : Value} {n : Nat} {cs : List Value} (h : RdC s w v n cs) (l : Nat) (hl : l ≤ n) :
    ∃ u, (∀ W, (Instr.slice t v (some (.int .i64 l)) none none).run P W = .ok u W) ∧ RdC s w u (n - l) (cs.drop (l * s)) := by
  obtain ⟨hlen, A, cap, rfl, h1, h2, h3, h4⟩ := id h
  have hel : P.elem t = e := by simp [Program.elem, ht]
  have hc := h.cut l n cap hl (Nat.le_refl _) h1 (Nat.le_refl _)
  rw [List.take_of_length_le (by rw [hlen]; exact Nat.le_refl _)] at hc
  refine ⟨sliced A l n cap s, fun W => ?_, hc⟩
  rw [run_slice_l (P := P) W t A n cap (by rw [hel]; exact ht) .i64 l (by omega) (by omega), hel, run_size hinfo]
  simp
end
section
variable {P : Program} {t e : TypeId} (ht : P.underlying t = some (.slice e)) (hinfo : (P.info? e).map (fun i => (i.zero, i.size, i.bytes)) = some (some (.int .u8 0), 1, 1))
include ht hinfo
theorem Rd.sl {w : World} {v : Value} {xs : List Int} (h : Rd w v xs) (l k : Nat) (hlk : l ≤ k) (hkn : k ≤ xs.length) :
    ∃ u, (∀ W, (Instr.slice t v (some (.int .i64 l)) (some (.int .i64 k)) none).run P W = .ok u W) ∧ Rd w u ((xs.take k).drop l) := by
  obtain ⟨u, h1, h2⟩ := h.2.sl ht hinfo l k hlk hkn
  rw [nums8_cut] at h2
  refine ⟨u, h1, bytes_drop (bytes_take h.1 _) _, ?_⟩
  rw [show ((xs.take k).drop l).length = k - l from by rw [List.length_drop, List.length_take]; omega]
  exact h2
theorem Rd.sl_h {w : World} {v : Value} {xs : List Int} (h : Rd w v xs) (k : Nat) (hkn : k ≤ xs.length) :
    ∃ u, (∀ W, (Instr.slice t v none (some (.int .i64 k)) none).run P W = .ok u W) ∧ Rd w u (xs.take k) := by
  obtain ⟨u, h1, h2⟩ := h.2.sl_h ht hinfo k hkn
  refine ⟨u, h1, bytes_take h.1 _, ?_⟩
  rw [show (xs.take k).length = k from by rw [List.length_take]; omega]
  unfold nums8 at h2 ⊢
  rw [List.map_take]
  rw [Nat.mul_one] at h2
  exact h2
theorem Rd.sl_l {w : World} {v : Value} {xs : List Int} (h : Rd w v xs) (l : Nat) (hl : l ≤ xs.length) :
    ∃ u, (∀ W, (Instr.slice t v (some (.int .i64 l)) none none).run P W = .ok u W) ∧ Rd w u (xs.drop l) := by
  obtain ⟨u, h1, h2⟩ := h.2.sl_l ht hinfo l hl
  refine ⟨u, h1, bytes_drop h.1 _, ?_⟩
  rw [show (xs.drop l).length = xs.length - l from by rw [List.length_drop]]
  unfold nums8 at h2 ⊢
  rw [List.map_drop]
  rw [Nat.mul_one] at h2
  exact h2
end
theorem rd_new {w : World} {cs : Array Value} {t : TypeId} {fr : Nat × Nat} {n : Nat} (xs : List Int) (h : cs = (nums8 xs).toArray) (hn : xs.length = n) (hb : IsBytes xs) (hl : n ≤ maxLen) : Rd (w.alloc (.cells cs t fr)) (.slice (some ⟨w.heap.size, 0, none⟩) n n) xs := by
  subst h
  subst hn
  refine ⟨hb, by rw [nums8_length, Nat.mul_one], _, _, rfl, Nat.le_refl _, hl, (fun h => by cases h), fun j hj => ⟨_, 0, rfl, ?_⟩⟩
  rw [Nat.zero_add]
  unfold World.cell? World.alloc
  simp
/-! ### append of what is read onto a row of one's own -/
section
variable {P : Program} {ops : Array Oper} {rest : List Oper} {o : Oper} {a : Act} {Q : Exit → Act → World → Prop}
theorem run_app {W : World} (base : Nat) (t ty e : TypeId) (z : Value) (size bytes : Nat) (ht : P.underlying t = some (.slice e))
    (hinfo : (P.info? e).map (fun i => (i.zero, i.size, i.bytes)) = some (some z, size, bytes)) (hzs : z.cells.size = size) (hsz : 0 < size)
    {v y : Value} {n m : Nat} {xs ys : List Value} (HO : W.ownsRow base e size v n xs) (HR : RdC size W y m ys) (h1 : ∀ u ∈ ys, u.oneCell' = true)
    (hbase : base ≤ W.heap.size) (hb0 : 0 < bytes) (hl : (n + m) * bytes ≤ 140737488355328) :
    ∃ v1 w1, (Builtin.append_ #[t, t] ty #[v, y]).run P W = .ok v1 w1 ∧ w1.ownsRow base e size v1 (n + m) (xs ++ ys) ∧ W.grownBy w1 v.ownBlock ∧ (v1.ownBlock = v.ownBlock ∨ v1.ownBlock = some W.heap.size) := by
  obtain ⟨i0, hi, hz0, hz1, hz2⟩ := info_parts hinfo
  obtain ⟨hlen, A, cap, rfl, hc1, hc2, hc3, hc4⟩ := HR
  have hlen2 : n + m ≤ 140737488355328 := Nat.le_trans (Nat.le_mul_of_pos_right _ hb0) hl
  cases A with
  | none =>
    have hcap := hc3 rfl
    subst hcap
    obtain rfl : m = 0 := by omega
    obtain rfl : ys = [] := List.eq_nil_of_length_eq_zero (by simpa using hlen)
    exact ⟨v, W, run_append_owned_none (P := P) W base t ty e i0 size ht hi v n xs HO, by simpa using HO, World.grownBy.refl W _, .inl rfl⟩
  | some ad =>
    have hcells : ∀ j u, ys[j]? = some u → W.cell? (ad.add j) = some u := by
      intro j u hu
      have hj := (List.getElem?_eq_some_iff.1 hu).1
      obtain ⟨b, off, ha, hc⟩ := hc4 j hj
      injection ha with ha
      subst ha
      rw [Addr.add_lit, hc, hu]
    obtain ⟨v1, w1, hr, h2, h3, _, h5⟩ := run_append_own_at (P := P) W base t ty e i0 z size bytes ht hi hz0 hz1 hz2 hzs hsz v n xs HO ad m cap ys hlen hcells h1 (by simp only [maxLen]; omega) hl hbase
    exact ⟨v1, w1, hr, h2, h3, h5⟩
theorem app_rd {W : World} (base : Nat) (hgd : o.guard = none) (s x : Operand) (t e : TypeId) (z : Value) (size bytes : Nat)
    (ho : o.op = .call { callee := .builtin .append, args := #[s, x], argTypes := #[t, t] })
    (ht : P.underlying t = some (.slice e)) (hinfo : (P.info? e).map (fun i => (i.zero, i.size, i.bytes)) = some (some z, size, bytes)) (hzs : z.cells.size = size) (hsz : 0 < size)
    (v y : Value) (n m : Nat) (xs ys : List Value) (hs : a.eval s = v) (hx : a.eval x = y)
    (HO : W.ownsRow base e size v n xs) (HR : RdC size W y m ys) (h1 : ∀ u ∈ ys, u.oneCell' = true) (hbase : base ≤ W.heap.size) (hb0 : 0 < bytes) (hl : (n + m) * bytes ≤ 140737488355328)
    (h : ∀ v1 w1, w1.ownsRow base e size v1 (n + m) (xs ++ ys) → W.grownBy w1 v.ownBlock → (v1.ownBlock = v.ownBlock ∨ v1.ownBlock = some W.heap.size) → wpList P ops Q rest (a.put o.dst v1) w1) :
    wpList P ops Q (o :: rest) a W := by
  obtain ⟨v1, w1, hr, h2, h3, h5⟩ := run_app (P := P) base t o.type e z size bytes ht hinfo hzs hsz HO HR h1 hbase hb0 hl
  refine wpList_plain hgd fun K hK => ?_
  unfold Oper.wp execOp
  simp only [ho, resolve, invoke, builtin, Sem.run_bind, Sem.run_pure, Result.andThen_ok, List.map_toArray, List.map_cons, List.map_nil, hs, hx, hr]
  exact hK _ _ (h v1 w1 h2 h3 h5)
/-- The same for bytes. -/
theorem app_bytes {w0 W : World} (base : Nat) (hgd : o.guard = none) (s x : Operand) (t e : TypeId)
    (ho : o.op = .call { callee := .builtin .append, args := #[s, x], argTypes := #[t, t] })
    (ht : P.underlying t = some (.slice e)) (hinfo : (P.info? e).map (fun i => (i.zero, i.size, i.bytes)) = some (some (.int .u8 0), 1, 1))
    (v y : Value) (xs ys : List Int) (hs : a.eval s = v) (hx : a.eval x = y)
    (HO : Own W base e v xs) (HR : Rd W y ys) (HB : Below base w0 W) (hbase : base ≤ W.heap.size) (hl : xs.length + ys.length ≤ 140737488355328)
    (h : ∀ v1 w1, Own w1 base e v1 (xs ++ ys) → Below base w0 w1 → W.grownBy w1 v.ownBlock → (v1.ownBlock = v.ownBlock ∨ v1.ownBlock = some W.heap.size) → wpList P ops Q rest (a.put o.dst v1) w1) :
    wpList P ops Q (o :: rest) a W := by
  refine app_rd base hgd s x t e (.int .u8 0) 1 1 ho ht hinfo rfl (by omega) v y xs.length ys.length (nums8 xs) (nums8 ys) hs hx HO.2 HR.2 (nums8_one ys) hbase (by omega) (by omega) ?_
  intro v1 w1 h1 h2 h3
  refine h v1 w1 ⟨bytes_append HO.1 HR.1, ?_⟩ (HB.grown h2 hbase fun k hk => (HO.2.lt k hk).1) h2 h3
  rw [nums8_append, List.length_append]
  exact h1
end
theorem own_nil8 (W : World) (base : Nat) (e : TypeId) : Own W base e (.slice none 0 0) [] := ⟨fun b hb => absurd hb (by simp), World.ownsRow_nil W base e 1⟩
/-! ### lists of slices of bytes -/
def RdL (w : World) (v : Value) (xss : List (List Int)) : Prop :=
  ∃ vs : List Value, vs.length = xss.length ∧ RdC 1 w v xss.length vs ∧ (∀ u ∈ vs, u.oneCell' = true) ∧ ∀ j, j < xss.length → Rd w (vs.getD j undef) (xss.getD j [])
theorem RdL.keep {w w1 : World} {v : Value} {xss : List (List Int)} (h : RdL w v xss) (hb : Below w.heap.size w w1) : RdL w1 v xss := by
  obtain ⟨vs, h1, h2, h3, h4⟩ := h
  exact ⟨vs, h1, h2.keep hb, h3, fun j hj => (h4 j hj).keep hb⟩
theorem RdL.form {w : World} {v : Value} {xss : List (List Int)} (h : RdL w v xss) : ∃ A cap, v = .slice A xss.length cap ∧ xss.length ≤ cap ∧ cap ≤ maxLen ∧ (A = none → cap = 0) ∧
    ∀ j, j < xss.length → ∃ b off u, A = some ⟨b, off, none⟩ ∧ w.cell? ⟨b, off + j, none⟩ = some u ∧ Rd w u (xss.getD j []) := by
  obtain ⟨vs, h1, ⟨hl, A, cap, hv, k1, k2, k3, k4⟩, h3, h4⟩ := h
  refine ⟨A, cap, hv, k1, k2, k3, fun j hj => ?_⟩
  have hj2 : j < vs.length := by omega
  obtain ⟨b, off, ha, hc⟩ := k4 j hj2
  refine ⟨b, off, vs.getD j undef, ha, ?_, h4 j hj⟩
  rw [hc, List.getElem?_eq_getElem hj2, List.getD_eq_getElem?_getD, List.getElem?_eq_getElem hj2]
  rfl
theorem Own.kept {w w1 : World} {base : Nat} {e : TypeId} {v : Value} {xs : List Int} {row : Option Nat} (h : Own w base e v xs) (hg : w.grownBy w1 row) (hne : v.ownBlock = none ∨ v.ownBlock ≠ row) : Own w1 base e v xs :=
  ⟨h.1, h.2.kept hg hne⟩
theorem grown_below {w w1 : World} (h : Below w.heap.size w w1) (row : Option Nat) : w.grownBy w1 row := ⟨h.os, h.tape, h.output, h.size, fun i hi _ => h.block i hi⟩
theorem Own.keep {w w1 : World} {base : Nat} {e : TypeId} {v : Value} {xs : List Int} (h : Own w base e v xs) (hb : Below w.heap.size w w1) : Own w1 base e v xs :=
  h.kept (grown_below hb none) (by cases v.ownBlock <;> simp)
theorem row_keep {w w1 : World} {base size n : Nat} {e : TypeId} {v : Value} {xs : List Value} (h : w.ownsRow base e size v n xs) (hb : Below w.heap.size w w1) : w1.ownsRow base e size v n xs :=
  h.kept (grown_below hb none) (by cases v.ownBlock <;> simp)
theorem own_types {w : World} {b b' : Nat} {e e' : TypeId} {s s' n n' : Nat} {v v' : Value} {xs xs' : List Value} (h : w.ownsRow b e s v n xs) (h' : w.ownsRow b' e' s' v' n' xs') (hne : e ≠ e') : v.ownBlock = none ∨ v.ownBlock ≠ v'.ownBlock := by
  rcases h.2 with ⟨rfl, _⟩ | ⟨g, cap, cur, rfl, _, hh, _⟩
  · exact .inl rfl
  · refine .inr fun hk => ?_
    rcases h'.2 with ⟨rfl, _⟩ | ⟨g', cap', cur', rfl, _, hh', _⟩
    · simp [Value.ownBlock] at hk
    · have : g = g' := by simpa [Value.ownBlock] using hk
      subst this
      rw [hh] at hh'
      injection hh' with hh'
      injection hh' with _ ht
      exact hne ht
theorem below_grown {B : Nat} {w0 w w1 : World} {size n : Nat} {e : TypeId} {v : Value} {xs : List Value} (h : Below B w0 w) (ho : w.ownsRow B e size v n xs) (hg : w.grownBy w1 v.ownBlock) (hB : B ≤ w.heap.size) : Below B w0 w1 :=
  h.grown hg hB fun k hk => (ho.lt k hk).1
/-! ### arrays of whole numbers, compared -/
def eqL (a b : List Int) : Bool := decide (a = b)
section
variable {P : Program} {e : TypeId} {k : IntKind} (he : P.underlying e = some (.int k)) (hc : P.cellsOf e = 1)
include he hc
theorem part_int (w : World) (ps : List Int) (i : Nat) (hi : i < ps.length) : (part e (ps.map (Value.int k)).toArray (i * P.cellsOf e)).run P w = .ok (.int k (ps.getD i 0)) w := by
  have hp : P.plainKey e = true := by simp [Program.plainKey, he]
  refine run_part_plain w hp ?_
  rw [hc, Nat.mul_one]
  simp [hi]
theorem eqItems_int (d : Nat) (w : World) (ps qs : List Int) : ∀ is : List Nat, (∀ i ∈ is, i < ps.length ∧ i < qs.length) →
    (Op.eqItems (d + 1) e (P.cellsOf e) (ps.map (Value.int k)).toArray (qs.map (Value.int k)).toArray is).run P w = .ok (decide (∀ i ∈ is, ps.getD i 0 = qs.getD i 0)) w
  | [], _ => by simp [Op.eqItems]
  | i :: is, h => by
    obtain ⟨h1, h2⟩ := h i (by simp)
    have ih := eqItems_int d w ps qs is fun j hj => h j (by simp [hj])
    rw [Op.eqItems, Sem.run_bind, part_int he hc w ps i h1, Result.andThen_ok, Sem.run_bind, part_int he hc w qs i h2, Result.andThen_ok, Sem.run_bind, run_equalIn_int w d e k k _ _ he, Result.andThen_ok]
    by_cases hq : ps.getD i 0 = qs.getD i 0
    · have e1 : (ps.getD i 0 == qs.getD i 0) = true := beq_iff_eq.2 hq
      rw [e1]
      simp only [Bool.not_true, Bool.false_eq_true, if_false]
      rw [ih]
      congr 1
      rw [decide_eq_decide]
      constructor
      · intro hall j hj
        rcases List.mem_cons.1 hj with rfl | hj
        · exact hq
        · exact hall j hj
      · intro hall j hj
        exact hall j (by simp [hj])
    · have e1 : (ps.getD i 0 == qs.getD i 0) = false := beq_eq_false_iff_ne.2 hq
      rw [e1]
      simp only [Bool.not_false, if_true, Sem.run_pure]
      congr 1
      symm
      rw [decide_eq_false_iff_not]
      intro hall
      exact hq (hall i (by simp))
theorem eqArr (d : Nat) (w : World) {t : TypeId} {n : Nat} (ht : P.underlying t = some (.array n e)) {i : TypeInfo} (hi : P.info? e = some i) (ps qs : List Int) (ha : ps.length = n) (hb : qs.length = n) :
    (Op.equalIn (d + 2) t (.agg (ps.map (Value.int k)).toArray) (.agg (qs.map (Value.int k)).toArray)).run P w = .ok (decide (ps = qs)) w := by
  rw [run_equalIn_array w (d + 1) _ _ ht hi, eqItems_int he hc d w ps qs (List.range n) (fun i hi => by rw [List.mem_range] at hi; omega)]
  congr 1
  rw [decide_eq_decide]
  constructor
  · intro h
    refine List.ext_getElem (by omega) fun i h1 h2 => ?_
    have := h i (List.mem_range.2 (by omega))
    rw [List.getD_eq_getElem?_getD, List.getD_eq_getElem?_getD, List.getElem?_eq_getElem h1, List.getElem?_eq_getElem h2] at this
    exact this
  · intro h; subst h; intro i _; rfl
end
end Go.Proofs.Ytcaljnlicohkaaa
