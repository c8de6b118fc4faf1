/- Rows of one's own, nil too, and the document's Copy. -/
import Derived.Test.YtdmogbkfmeihfaaOwnF
import Derived.Test.YtdmogbkfmeihfaaLend
namespace Go.Proofs.Ytdmogbkfmeihfaa
open Go.RowKit
set_option maxRecDepth 100000
set_option linter.unusedVariables false
set_option linter.unusedSimpArgs false
def RetF (w : World) (xs : List Int) (e : Ending) (w' : World) : Prop := ∃ v, e = .returned v ∧ OwnF w' w.heap.size v xs ∧ Below w.heap.size w w'
/-- nil, or a row of one's own wherever it comes from -/
def OwnN (W : World) (v : Value) (xs : List Int) : Prop := (v = .slice none 0 0 ∧ xs = []) ∨ OwnF W 0 v xs
theorem OwnN.nil (W : World) : OwnN W (.slice none 0 0) [] := .inl ⟨rfl, rfl⟩
theorem OwnN.rd {W : World} {v : Value} {xs : List Int} (h : OwnN W v xs) : Rd W v xs := by
  rcases h with ⟨rfl, rfl⟩ | h
  · exact (own_nil8 W 0 0).rd
  · exact h.rd
theorem OwnN.chg {S : Nat → Prop} {w w1 : World} {v : Value} {xs : List Int} (h : OwnN w v xs) (hc : Chg S w w1) (hn : ∀ k, v.ownBlock = some k → ¬ S k) : OwnN w1 v xs := by
  rcases h with h | h
  · exact .inl h
  · exact .inr (h.chg hc hn)
theorem OwnN.keep {w w1 : World} {v : Value} {xs : List Int} (h : OwnN w v xs) (hb : Below w.heap.size w w1) : OwnN w1 v xs := h.chg (Chg.below (S := fun _ => False) hb) (fun _ _ h => h)
theorem OwnN.lt {W : World} {v : Value} {xs : List Int} (h : OwnN W v xs) (k : Nat) (hk : v.ownBlock = some k) : k < W.heap.size := by
  rcases h with ⟨rfl, _⟩ | h
  · cases hk
  · exact (h.lt k hk).2
section
variable {P : Program} {o : Oper} {a : Act} {K : Act → World → Prop} {Q : Exit → Act → World → Prop}
theorem run_appN {W : World} (t ty e : TypeId) (ht : P.underlying t = some (.slice e)) (hinfo : (P.info? e).map (fun i => (i.zero, i.size, i.bytes)) = some (some (.int .u8 0), 1, 1))
    {v y : Value} {xs ys : List Int} (HO : OwnN W v xs) (HR : Rd W y ys) (hl : xs.length + ys.length ≤ 140737488355328) :
    ∃ v1 w1, (Builtin.append_ #[t, t] ty #[v, y]).run P W = .ok v1 w1 ∧ OwnN w1 v1 (xs ++ ys) ∧ Chg (fun k => v.ownBlock = some k) W w1 ∧ (v1.ownBlock = v.ownBlock ∨ ∀ k, v1.ownBlock = some k → W.heap.size ≤ k) := by
  rcases HO with ⟨rfl, rfl⟩ | HO
  · obtain ⟨v1, w1, hr, h2, h3, h5⟩ := run_app (P := P) W.heap.size t ty e (.int .u8 0) 1 1 ht hinfo rfl (by omega) (World.ownsRow_nil W W.heap.size e 1) HR.2 (nums8_one ys) (Nat.le_refl _) (by omega) (by simp at hl; omega)
    have hO : Own w1 W.heap.size e v1 ys := ⟨HR.1, by simpa using h2⟩
    refine ⟨v1, w1, hr, ?_, (Chg.of h3).mono (fun b _ e => by cases e), .inr (fun k hk => (h2.lt k hk).1)⟩
    rw [List.nil_append]
    by_cases hv : v1 = .slice none 0 0
    · subst hv
      obtain ⟨A, c, he, _⟩ := hO.rd.form
      injection he with _ e2 _
      exact .inl ⟨rfl, List.eq_nil_of_length_eq_zero e2.symm⟩
    · exact .inr ((hO.toF hv).low (Nat.zero_le _))
  · obtain ⟨v1, w1, hr, h2, h3, h5⟩ := run_appF (P := P) 0 t ty e ht hinfo HO HR (Nat.zero_le _) hl
    exact ⟨v1, w1, hr, .inr h2, h3, h5⟩
theorem wp_app_N {W : World} (hgd : o.guard = none) (s x : Operand) (t e : TypeId)
    (ho : o.op = .call { callee := .builtin .append, args := #[s, x], argTypes := #[t, t] })
    (ht : P.underlying t = some (.slice e)) (hinfo : (P.info? e).map (fun i => (i.zero, i.size, i.bytes)) = some (some (.int .u8 0), 1, 1))
    (v y : Value) (xs ys : List Int) (hs : a.eval s = v) (hx : a.eval x = y)
    (HO : OwnN W v xs) (HR : Rd W y ys) (hl : xs.length + ys.length ≤ 140737488355328)
    (h : ∀ v1 w1, OwnN w1 v1 (xs ++ ys) → Chg (fun k => v.ownBlock = some k) W w1 → (v1.ownBlock = v.ownBlock ∨ ∀ k, v1.ownBlock = some k → W.heap.size ≤ k) → K (a.put o.dst v1) w1) :
    Oper.wp P o a W K Q := by
  obtain ⟨v1, w1, hr, h2, h3, h5⟩ := run_appN (P := P) t o.type e ht hinfo HO HR hl
  unfold Oper.wp execOp
  simp only [ho, resolve, invoke, builtin, Sem.run_bind, Sem.run_pure, Result.andThen_ok, List.map_toArray, List.map_cons, List.map_nil, hs, hx, hr]
  exact h v1 w1 h2 h3 h5
end

section
variable {P : Program} {ops : Array Oper} {rest : List Oper} {o : Oper} {a : Act} {Q : Exit → Act → World → Prop}
theorem app_N {W : World} (hgd : o.guard = none) (s x : Operand) (t e : TypeId)
    (ho : o.op = .call { callee := .builtin .append, args := #[s, x], argTypes := #[t, t] })
    (ht : P.underlying t = some (.slice e)) (hinfo : (P.info? e).map (fun i => (i.zero, i.size, i.bytes)) = some (some (.int .u8 0), 1, 1))
    (v y : Value) (xs ys : List Int) (hs : a.eval s = v) (hx : a.eval x = y)
    (HO : OwnN W v xs) (HR : Rd W y ys) (hl : xs.length + ys.length ≤ 140737488355328)
    (h : ∀ v1 w1, OwnN w1 v1 (xs ++ ys) → Chg (fun k => v.ownBlock = some k) W w1 → (v1.ownBlock = v.ownBlock ∨ ∀ k, v1.ownBlock = some k → W.heap.size ≤ k) → wpList P ops Q rest (a.put o.dst v1) w1) :
    wpList P ops Q (o :: rest) a W := by
  unfold wpList
  rw [if_pos (by simp [Region.wanted, hgd])]
  exact .inl (wp_app_N hgd s x t e ho ht hinfo v y xs ys hs hx HO HR hl h)
end
theorem u8_num {b : Int} (h0 : 0 ≤ b) (h1 : b < 256) : (((UInt8.ofNat b.toNat).toNat : Nat) : Int) = b := by
  rw [UInt8.toNat_ofNat']
  omega
theorem Copy_any (v : Value) (l : List Int) (w : World) (HR : Rd w v l) : Calls Try.prog 34 #[v] w (RetF w l) := by
  have h1 := HR.str (P := Try.prog) 22 5 9 Try.underlying22 Try.underlying5 Try.underlying9
  have hsz : (strOfNums l).size = l.length := by simp [strOfNums, ByteArray.size]
  have h2 := run_bytes_of_string (P := Try.prog) w 9 22 5 (strOfNums l) Try.underlying9 Try.underlying22 Try.underlying5
  rw [hsz] at h2
  have hge := grownCap_ge w l.length 0 5
  have hle := grownCap_le_maxLen w l.length 0 5 (by obtain ⟨_, cp, _, k1, k2, _⟩ := HR.form; omega)
  generalize grownCap w l.length 0 5 = cap at *
  have hC : (bytesRow (strOfNums l) cap).size = cap := by
    unfold bytesRow
    rw [Array.size_append, Array.size_map, Array.size_replicate]
    show (strOfNums l).size + (cap - (strOfNums l).size) = cap
    rw [hsz]; omega
  rw [hC] at h2
  have hF : OwnF (w.drew.alloc (.cells (bytesRow (strOfNums l) cap) 5 (cap, cap + 1))) w.heap.size (.slice (some ⟨w.heap.size, 0, none⟩) l.length cap) l := by
    have hh := heap_alloc_new w.drew (.cells (bytesRow (strOfNums l) cap) 5 (cap, cap + 1))
    have hhs : w.drew.heap.size = w.heap.size := rfl
    rw [hhs] at hh
    refine ⟨HR.1, _, _, rfl, Nat.le_refl _, by simp, hge, hle, fun j hj => ?_, fun j hj => ?_, fun j hj => ?_⟩
    · obtain ⟨b0, b1⟩ := byte_at HR.1 hj
      unfold World.cell?
      simp only [hh]
      unfold bytesRow
      have hj2 : j < ((strOfNums l).data.map fun b => Value.int .u8 (b.toNat : Int)).size := by rw [Array.size_map]; show j < (strOfNums l).size; omega
      show (Array.map _ (strOfNums l).data ++ _)[j]? = _
      rw [Array.getElem?_append_left hj2, Array.getElem?_map]
      have e : (strOfNums l).data[j]? = some (UInt8.ofNat (l.getD j 0).toNat) := by
        rw [← Array.getElem?_toList, strOfNums_data, List.getElem?_map, List.getElem?_eq_getElem hj, List.getD_eq_getElem?_getD, List.getElem?_eq_getElem hj]
        rfl
      rw [e]
      show some (Value.int .u8 _) = _
      rw [u8_num b0 b1]
    · unfold World.cell?
      simp only [hh]
      show ((bytesRow (strOfNums l) cap)[j]?).isSome = true
      rw [Array.getElem?_eq_getElem (by omega)]
      rfl
    · unfold World.frozen?
      simp only [hh]
      simp
      omega
  have hB : Below w.heap.size w (w.drew.alloc (.cells (bytesRow (strOfNums l) cap) 5 (cap, cap + 1))) := al1 (Below.refl w.heap.size w).drew _
  have HF := hd_ hF
  have HB := hd_ hB
  clear hF hB hC hsz
  generalize strOfNums l = S at *
  go_enter Try.func34, Try.ntmps34
  go_wp2
  go_ret
  exact ⟨_, rfl, HF.out, HB.out⟩
end Go.Proofs.Ytdmogbkfmeihfaa
