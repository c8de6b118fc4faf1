/- What turns bits in a copy: a row made out of a text. -/
import Derived.Test.YtilmmohkdgmhnaaFrameDc
import Derived.Test.YtilmmohkdgmhnaaFrameY
import Derived.Laws.IdiomStrings
namespace Go.Proofs.Ytilmmohkdgmhnaa
open Go.RowKit
set_option maxRecDepth 100000
set_option linter.unusedVariables false
theorem top_Same_any (v u : Value) (l m : List Int) (w : World) (HR : Rd w v l) (HS : Rd w u m) :
    Calls Try.prog 31 #[v, u] w fun e w' => e = .returned (.bool (decide (l = m))) ∧ w = w' := by
  have h1 := HR.str (P := Try.prog) 24 5 9 Try.underlying24 Try.underlying5 Try.underlying9
  have h2 := HS.str (P := Try.prog) 24 5 9 Try.underlying24 Try.underlying5 Try.underlying9
  have h3 := str_eq HR.1 HS.1
  go_enter Try.func31, Try.ntmps31
  go_wp2
  go_ret
  exact ⟨rfl, rfl⟩
theorem top_put_any (k n : Int) (hk : (Lit.int .i64 k).wf = true) (hn : 0 < n) (hn2 : n ≤ 4611686018427387904) (w : World) :
    Calls Try.prog 26 #[.int .i64 k, .int .i64 n] w fun e w' => ∃ K : Nat, e = .returned (.int .i64 K) ∧ (K : Int) < n ∧ w = w' := by
  obtain ⟨k0, k1⟩ := wf_i64 hk
  have t1 := Int.tmod_lt_of_pos k hn
  have t2 := Int.lt_tmod_of_pos k hn
  have hz : ¬ n = 0 := by omega
  have hzb : (n == 0) = false := by simpa using hz
  by_cases hneg : k.tmod n < 0
  · have hw : IntKind.i64.wrap (k.tmod n) = k.tmod n := by rw [IntKind.wrap_i64]; omega
    have hw2 : IntKind.i64.wrap (k.tmod n + n) = k.tmod n + n := by rw [IntKind.wrap_i64]; omega
    obtain ⟨K, hK⟩ : ∃ K : Nat, k.tmod n + n = (K : Int) := ⟨(k.tmod n + n).toNat, by omega⟩
    have hKn : (K : Int) < n := by omega
    rw [hK] at hw2
    go_enter Try.func26, Try.ntmps26
    go_wp2
    go_ret
    exact ⟨K, rfl, hKn, rfl⟩
  · have hw : IntKind.i64.wrap (k.tmod n) = k.tmod n := by rw [IntKind.wrap_i64]; omega
    obtain ⟨K, hK⟩ : ∃ K : Nat, k.tmod n = (K : Int) := ⟨(k.tmod n).toNat, by omega⟩
    have hKn : (K : Int) < n := by omega
    rw [hK] at hw hneg
    go_enter Try.func26, Try.ntmps26
    go_wp2
    go_ret
    exact ⟨K, rfl, hKn, rfl⟩
/-- a row made out of a text: the cell behind it is marked, itself it may be written -/
def FzRow (W : World) (g n cap : Nat) (l : List Int) : Prop :=
  IsBytes l ∧ l.length = n ∧ n ≤ cap ∧ cap ≤ maxLen ∧ ∃ C : Array Value, W.heap[g]? = some (.cells C 5 (cap, cap + 1)) ∧ C.size = cap ∧ ∀ j, j < n → C[j]? = some (.int .u8 (l.getD j 0))
theorem FzRow.keep {W W1 : World} {g n cap : Nat} {l : List Int} (h : FzRow W g n cap l) (hb : Below W.heap.size W W1) : FzRow W1 g n cap l := by
  obtain ⟨h1, h2, h3, h4, C, h5, h6⟩ := h
  exact ⟨h1, h2, h3, h4, C, (hb.block g (Array.getElem?_eq_some_iff.1 h5).1).trans h5, h6⟩
theorem FzRow.cell {W : World} {g n cap : Nat} {l : List Int} (h : FzRow W g n cap l) (j : Nat) (hj : j < n) : W.cell? ⟨g, j, none⟩ = some (.int .u8 (l.getD j 0)) ∧ W.frozen? ⟨g, j, none⟩ = false := by
  obtain ⟨h1, h2, h3, h4, C, h5, h6, h7⟩ := h
  refine ⟨by rw [cell_of_row W g j C _ _ h5]; exact h7 j hj, ?_⟩
  simp only [World.frozen?, h5]
  rw [Bool.and_eq_false_iff]
  left
  rw [decide_eq_false_iff_not]
  omega
theorem FzRow.rd {W : World} {g n cap : Nat} {l : List Int} (h : FzRow W g n cap l) : Rd W (.slice (some ⟨g, 0, none⟩) n cap) l := by
  have hc := fun j hj => (h.cell j hj).1
  obtain ⟨h1, h2, h3, h4, C, h5, h6, h7⟩ := h
  subst h2
  refine ⟨h1, by rw [nums8_length, Nat.mul_one], _, _, rfl, h3, h4, (fun h => by cases h), fun j hj => ?_⟩
  rw [nums8_length] at hj
  exact ⟨g, 0, rfl, by rw [Nat.zero_add, hc j hj, nums8_get l j hj]⟩
theorem FzRow.put {W : World} {g n cap : Nat} {l : List Int} (h : FzRow W g n cap l) (j : Nat) (hj : j < n) (b : Int) (h0 : 0 ≤ b) (h1 : b < 256) :
    FzRow (W.setCell ⟨g, j, none⟩ (.int .u8 b)) g n cap (l.set j b) ∧ W.grownBy (W.setCell ⟨g, j, none⟩ (.int .u8 b)) (some g) := by
  obtain ⟨k1, k2, k3, k4, C, k5, k6, k7⟩ := h
  refine ⟨⟨fun x hx => ?_, by rw [List.length_set]; exact k2, k3, k4, C.setIfInBounds j (.int .u8 b), (by simp [World.setCell, Array.getElem?_modify, k5]), by simpa using k6, fun i hi => ?_⟩, rfl, rfl, rfl, by simp, fun k _ hk => heap_setCell_other W ⟨g, j, none⟩ k _ (fun e => hk (by simp [e]))⟩
  · rcases List.mem_or_eq_of_mem_set hx with h3 | h3
    · exact k1 x h3
    · subst h3; exact ⟨h0, h1⟩
  · rw [Array.getElem?_setIfInBounds, getD_set (by omega)]
    by_cases he : j = i
    · subst he
      rw [if_pos rfl, if_pos rfl, if_pos (by omega)]
    · rw [if_neg he, if_neg he]
      exact k7 i hi
theorem u8_num {b : Int} (h0 : 0 ≤ b) (h1 : b < 256) : (((UInt8.ofNat b.toNat).toNat : Nat) : Int) = b := by
  rw [UInt8.toNat_ofNat']
  omega
theorem top_Copy_any (v : Value) (l : List Int) (w : World) (HR : Rd w v l) :
    Calls Try.prog 57 #[v] w fun e w' => ∃ g cap, e = .returned (.slice (some ⟨g, 0, none⟩) l.length cap) ∧ w.heap.size ≤ g ∧ FzRow w' g l.length cap l ∧ Below w.heap.size w w' := by
  have h1 := HR.str (P := Try.prog) 24 5 9 Try.underlying24 Try.underlying5 Try.underlying9
  have hsz : (strOfNums l).size = l.length := by simp [strOfNums, ByteArray.size]
  have h2 := run_bytes_of_string (P := Try.prog) w 9 24 5 (strOfNums l) Try.underlying9 Try.underlying24 Try.underlying5
  rw [hsz] at h2
  have hge := grownCap_ge w l.length 0 5
  have hle := grownCap_le_maxLen w l.length 0 5 (by obtain ⟨_, cp, _, k1, k2, _⟩ := HR.form; omega)
  generalize grownCap w l.length 0 5 = cap at *
  have hC : (bytesRow (strOfNums l) cap).size = cap := by
    unfold bytesRow
    rw [Array.size_append, Array.size_map, Array.size_replicate]
    show (strOfNums l).size + (cap - (strOfNums l).size) = cap
    rw [hsz]; omega
  rw [hC] at h2
  have hF : FzRow (w.drew.alloc (.cells (bytesRow (strOfNums l) cap) 5 (cap, cap + 1))) w.heap.size l.length cap l := by
    refine ⟨HR.1, rfl, hge, hle, _, heap_alloc_new w.drew _, hC, fun j hj => ?_⟩
    obtain ⟨b0, b1⟩ := bytes_at HR.1 j
    unfold bytesRow
    rw [Array.getElem?_append_left (by rw [Array.size_map]; show j < (strOfNums l).size; omega), Array.getElem?_map]
    have e : (strOfNums l).data[j]? = some (UInt8.ofNat (l.getD j 0).toNat) := by
      rw [← Array.getElem?_toList, strOfNums_data, List.getElem?_map, List.getElem?_eq_getElem hj, List.getD_eq_getElem?_getD, List.getElem?_eq_getElem hj]
      rfl
    rw [e]
    show some (Value.int .u8 _) = _
    rw [u8_num b0 b1]
  have hB : Below w.heap.size w (w.drew.alloc (.cells (bytesRow (strOfNums l) cap) 5 (cap, cap + 1))) := al1 (Below.refl w.heap.size w).drew _
  have HF := hd_ hF
  have HB := hd_ hB
  clear hF hB hC hsz
  generalize strOfNums l = S at *
  go_enter Try.func57, Try.ntmps57
  go_wp2
  go_ret
  exact ⟨_, _, rfl, Nat.le_refl _, HF.out, HB.out⟩
end Go.Proofs.Ytilmmohkdgmhnaa
