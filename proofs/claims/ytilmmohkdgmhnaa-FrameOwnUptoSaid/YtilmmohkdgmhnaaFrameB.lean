import Derived.Test.YtilmmohkdgmhnaaFrameA
import Derived.Test.YtilmmohkdgmhnaaMem3
import Derived.Deep.RegionHeld3
import Derived.Deep.RegionWith
namespace Go.Proofs.Ytilmmohkdgmhnaa
open Go.RowKit
set_option maxRecDepth 100000
set_option linter.unusedVariables false
def frontB (l : List Int) : Bool := (decide (l.length = 0) || l.getD 0 0 == 72) && (decide (l.length < 2) || l.getD 1 0 == 87)
def headB (l : List Int) : Bool := l.getD 2 0 != 0 && holdsB (l.take 10)
theorem frame_begins_any (v : Value) (l : List Int) (w : World) (HR : Rd w v l) :
    Calls Try.prog 48 #[v] w fun e w' => e = .returned (.bool (frontB l)) ∧ w = w' := by
  have hb := HR.1
  have hlen := HR.2.len (P := Try.prog) 24 5 3 Try.underlying24
  obtain ⟨A, cap, rfl, hn, hm, _, hc⟩ := HR.form
  unfold maxLen at hm
  unfold frontB
  by_cases l0 : l.length = 0
  · rw [l0] at *
    clear hc
    go_enter Try.func48, Try.ntmps48
    go_wp2
    go_ret
    exact ⟨rfl, rfl⟩
  · obtain ⟨b, off, rfl, h0⟩ := hc 0 (by omega)
    rw [Nat.add_zero] at h0
    by_cases l1 : l.length = 1
    · rw [l1] at *
      clear hc
      generalize l.getD 0 0 = x0 at *
      cases hx : (x0 == 72)
      · have hx2 : (x0 != 72) = true := by rw [bne, hx]; rfl
        have hx3 : ¬ x0 = 72 := by simpa using hx
        go_enter Try.func48, Try.ntmps48
        go_wp2
        go_ret
        exact ⟨rfl, rfl⟩
      · have hx2 : (x0 != 72) = false := by rw [bne, hx]; rfl
        go_enter Try.func48, Try.ntmps48
        go_wp2
        go_ret
        exact ⟨rfl, rfl⟩
    · obtain ⟨b', off', e1, h1⟩ := hc 1 (by omega)
      simp only [Option.some.injEq, Addr.mk.injEq, and_true] at e1
      obtain ⟨rfl, rfl⟩ := e1
      have hn2 : 2 ≤ l.length := by omega
      rw [decide_eq_false l0, decide_eq_false (by omega : ¬ l.length < 2)]
      clear hc l0 l1
      generalize l.getD 0 0 = x0 at *
      generalize l.getD 1 0 = x1 at *
      cases hx : (x0 == 72)
      · have hx2 : (x0 != 72) = true := by rw [bne, hx]; rfl
        have hx3 : ¬ x0 = 72 := by simpa using hx
        go_enter Try.func48, Try.ntmps48
        go_wp2
        go_ret
        exact ⟨rfl, rfl⟩
      · have hx2 : (x0 != 72) = false := by rw [bne, hx]; rfl
        obtain rfl : x0 = 72 := by simpa using hx
        cases hy : (x1 == 87)
        · have hy2 : (x1 != 87) = true := by rw [bne, hy]; rfl
          go_enter Try.func48, Try.ntmps48
          go_wp2
          go_ret
          exact ⟨rfl, rfl⟩
        · have hy2 : (x1 != 87) = false := by rw [bne, hy]; rfl
          go_enter Try.func48, Try.ntmps48
          go_wp2
          go_ret
          exact ⟨rfl, rfl⟩
theorem drewN_bel {w w' : World} (h : ∃ m, w' = w.drewN m) : Below w.heap.size w w' := by obtain ⟨m, rfl⟩ := h; exact below_drewN (Below.refl _ _) m
theorem frame_word_bel (v : Value) (l : List Int) (w : World) (HR : Rd w v l) (hl : 4 ≤ l.length) : Calls Try.prog 61 #[v] w fun e w' => e = .returned (.int .u32 (wordN l)) ∧ Below w.heap.size w w' :=
  (frame_word_any v l w HR hl).mono fun e w' ⟨h1, h2⟩ => ⟨h1, drewN_bel h2⟩
theorem frame_length_bel (v : Value) (l : List Int) (w : World) (HR : Rd w v l) (hl : 6 ≤ l.length) : Calls Try.prog 50 #[v] w fun e w' => e = .returned (.int .i64 (lenN l)) ∧ Below w.heap.size w w' :=
  (frame_length_any v l w HR hl).mono fun e w' ⟨h1, h2⟩ => ⟨h1, drewN_bel h2⟩
/-- the sum of all but the last four bytes, told by these -/
theorem word_holds {l : List Int} (hb : IsBytes l) {n : Nat} (hn : l.length = n + 4) : (wordN (l.drop n) == I (sumW (l.take n))) = holdsB l := by
  rw [wordN_B4 (bytes_drop hb n) (by rw [List.length_drop]; omega)]
  unfold holdsB
  rw [show l.length - 4 = n by omega, decide_eq_true (by omega : 4 ≤ l.length), Bool.true_and]
theorem frame_whole_any (v : Value) (l : List Int) (w : World) (HR : Rd w v l) (hl : 4 ≤ l.length) :
    Calls Try.prog 51 #[v] w fun e w' => e = .returned (.bool (holdsB l)) ∧ Below w.heap.size w w' := by
  have hlen := HR.2.len (P := Try.prog) 24 5 3 Try.underlying24
  obtain ⟨n, hn⟩ : ∃ n, l.length = n + 4 := ⟨l.length - 4, by omega⟩
  have hq1 := HR.lt63
  rw [← word_holds HR.1 hn]
  obtain ⟨u1, hs1, hR1⟩ := HR.sl_h Try.underlying24 info8 n (by omega)
  obtain ⟨u2, hs2, hR2⟩ := HR.sl_l Try.underlying24 info8 n (by omega)
  have h4 : 4 ≤ (l.drop n).length := by rw [List.length_drop]; omega
  rw [hn] at hlen hq1
  obtain ⟨A1, cp1, rfl, hx1, hx2, hx3, hx4⟩ := hR1.form
  clear hx1 hx2 hx3 hx4
  generalize hz : (l.take n).length = z at hs1 hR1
  have hone : RdL (w.alloc (.cells #[.slice A1 z cp1] 24)) (.slice (some ⟨w.heap.size, 0, none⟩) 1 1) [l.take n] := crc_Sum_one _ _ w hR1 rfl
  have KS : ∀ w', Below w.heap.size w w' → (Below w.heap.size w w' ∧ True) := fun w' hw => ⟨hw, trivial⟩
  generalize hww : (wordN (l.drop n)) = W at *
  generalize hss : I (sumW (l.take n)) = Z at *
  go_enter Try.func51, Try.ntmps51
  go_wp2
  go_region_with (first | (go_at_call 61; refine (frame_word_bel _ _ _ (hR2.keep (by first | exact (Below.refl _ _).drew | exact ((Below.refl _ _).alloc (Nat.le_refl _) _).drew)) h4).mono ?_; rintro e w' ⟨rfl, hb⟩; rw [hww]) | (go_at_call 46; with_reducible refine (crc_Sum_any _ _ _ (crc_Sum_one _ _ _ (hR1.keep (bel_trans (Below.refl _ _).drew hb)) rfl)).mono ?_; rintro e w2 ⟨rfl, hb2⟩; rw [List.flatten_singleton, hss]) | (go_at_call 46; with_reducible refine (crc_Sum_any _ _ _ ((rdl_drew hone).keep hb)).mono ?_; rintro e w2 ⟨rfl, hb2⟩; rw [List.flatten_singleton, hss]))
  all_goals
    go_wp2
    go_ret
    first | exact ⟨rfl, bel_trans (al1 (bel_trans (Below.refl _ _).drew hb) _) hb2⟩ | exact ⟨rfl, bel_trans (bel_trans ((Below.refl _ _).alloc (Nat.le_refl _) _).drew hb) hb2⟩
theorem take_take10 {l : List Int} (h : 10 ≤ l.length) : (l.take 10).take 6 = l.take 6 ∧ (l.take 10).length = 6 + 4 := ⟨by rw [List.take_take]; congr 1, by rw [List.length_take]; omega⟩
theorem wordN_take {l : List Int} (h : 10 ≤ l.length) : wordN ((l.take 10).drop 6) = wordN (l.drop 6) := by
  have e : ∀ j, j < 4 → ((l.take 10).drop 6).getD j 0 = (l.drop 6).getD j 0 := fun j hj => by
    rw [List.getD_eq_getElem?_getD, List.getD_eq_getElem?_getD, List.getElem?_drop, List.getElem?_drop, List.getElem?_take_of_lt (by omega)]
  unfold wordN
  rw [e 0 (by omega), e 1 (by omega), e 2 (by omega), e 3 (by omega)]
theorem head_word {l : List Int} (hb : IsBytes l) (h : 10 ≤ l.length) : (wordN (l.drop 6) == I (sumW (l.take 6))) = holdsB (l.take 10) := by
  have := word_holds (bytes_take hb 10) (take_take10 h).2
  rw [wordN_take h, (take_take10 h).1] at this
  exact this
theorem frame_headed_any (v : Value) (l : List Int) (w : World) (HR : Rd w v l) (hl : 10 ≤ l.length) :
    Calls Try.prog 49 #[v] w fun e w' => e = .returned (.bool (headB l)) ∧ Below w.heap.size w w' := by
  unfold headB
  rw [← head_word HR.1 hl]
  have hq1 := HR.lt63
  obtain ⟨u1, hs1, hR1⟩ := HR.sl_h Try.underlying24 info8 6 (by omega)
  obtain ⟨u2, hs2, hR2⟩ := HR.sl_l Try.underlying24 info8 6 (by omega)
  have h4 : 4 ≤ (l.drop 6).length := by rw [List.length_drop]; omega
  obtain ⟨A1, cp1, rfl, hx1, hx2, hx3, hx4⟩ := hR1.form
  clear hx1 hx2 hx3 hx4
  generalize hz : (l.take 6).length = z at hs1 hR1
  have hone : RdL (w.alloc (.cells #[.slice A1 z cp1] 24)) (.slice (some ⟨w.heap.size, 0, none⟩) 1 1) [l.take 6] := crc_Sum_one _ _ w hR1 rfl
  generalize hww : (wordN (l.drop 6)) = W at *
  generalize hss : I (sumW (l.take 6)) = Z at *
  obtain ⟨bl, off, hat, h2⟩ := HR.at Try.underlying24 info8 .i64 2 (by omega)
  have hs1 : ∀ (W : World), Sem.run Try.prog (Instr.slice 24 v none (some (Value.int IntKind.i64 6)) none) W = Result.ok (Value.slice A1 z cp1) W := hs1
  have hs2 : ∀ (W : World), Sem.run Try.prog (Instr.slice 24 v (some (Value.int IntKind.i64 6)) none none) W = Result.ok u2 W := hs2
  have hat : ∀ (W : World), Sem.run Try.prog (Instr.indexAt 24 v (Value.int IntKind.i64 2)) W = Result.ok (Value.pointer (some ⟨bl, off, none⟩)) W := hat
  generalize l.getD 2 0 = x at *
  cases hx : (x != 0)
  · go_enter Try.func49, Try.ntmps49
    go_wp2
    go_quiet (fail)
    go_wp2
    go_ret
    exact ⟨rfl, below_drewN (Below.refl _ _) _⟩
  · go_enter Try.func49, Try.ntmps49
    go_wp2
    go_region_with (first | (go_at_call 61; refine (frame_word_bel _ _ _ (hR2.keep (by first | exact (Below.refl _ _).drew | exact ((Below.refl _ _).alloc (Nat.le_refl _) _).drew)) h4).mono ?_; rintro e w' ⟨rfl, hb⟩; rw [hww]) | (go_at_call 46; with_reducible refine (crc_Sum_any _ _ _ (crc_Sum_one _ _ _ (hR1.keep (bel_trans (Below.refl _ _).drew hb)) rfl)).mono ?_; rintro e w2 ⟨rfl, hb2⟩; rw [List.flatten_singleton, hss]) | (go_at_call 46; with_reducible refine (crc_Sum_any _ _ _ ((rdl_drew hone).keep hb)).mono ?_; rintro e w2 ⟨rfl, hb2⟩; rw [List.flatten_singleton, hss]))
    all_goals
      go_wp2
      go_ret
      first | exact ⟨rfl, bel_trans (al1 (bel_trans (Below.refl _ _).drew hb) _) hb2⟩ | exact ⟨rfl, bel_trans (bel_trans ((Below.refl _ _).alloc (Nat.le_refl _) _).drew hb) hb2⟩
end Go.Proofs.Ytilmmohkdgmhnaa
