import Derived.Test.YtilmmohkdgmhnaaFrameI
import Derived.Test.YtilmmohkdgmhnaaMem6
namespace Go.Proofs.Ytilmmohkdgmhnaa
open Go.RowKit
set_option maxRecDepth 100000
set_option linter.unusedVariables false
theorem infoG : (Try.prog.info? 33).map (·.size) = some 2 := by kernel_rfl
theorem ref_front_any (v : Value) (l : List Int) (w : World) (HR : Rd w v l) :
    Calls Try.prog 53 #[v] w fun e w' => e = .returned (.bool (frontB l)) ∧ w = w' := by
  have hb := HR.1
  have hlen := HR.2.len (P := Try.prog) 24 5 3 Try.underlying24
  obtain ⟨A, cap, rfl, hn, hm, _, hc⟩ := HR.form
  unfold maxLen at hm
  unfold frontB
  by_cases l0 : l.length = 0
  · rw [l0] at *
    clear hc
    go_enter Try.func53, Try.ntmps53
    go_wp2
    go_ret
    exact ⟨rfl, rfl⟩
  · obtain ⟨b, off, rfl, h0⟩ := hc 0 (by omega)
    rw [Nat.add_zero] at h0
    by_cases l1 : l.length = 1
    · rw [l1] at *
      clear hc
      generalize l.getD 0 0 = x0 at *
      cases hx : (x0 == 72)
      · have hx2 : (x0 != 72) = true := by rw [bne, hx]; rfl
        have hx3 : ¬ x0 = 72 := by simpa using hx
        go_enter Try.func53, Try.ntmps53
        go_wp2
        go_ret
        exact ⟨rfl, rfl⟩
      · have hx2 : (x0 != 72) = false := by rw [bne, hx]; rfl
        go_enter Try.func53, Try.ntmps53
        go_wp2
        go_ret
        exact ⟨rfl, rfl⟩
    · obtain ⟨b', off', e1, h1⟩ := hc 1 (by omega)
      simp only [Option.some.injEq, Addr.mk.injEq, and_true] at e1
      obtain ⟨rfl, rfl⟩ := e1
      have hn2 : 2 ≤ l.length := by omega
      rw [decide_eq_false l0, decide_eq_false (by omega : ¬ l.length < 2)]
      clear hc l0 l1
      generalize l.getD 0 0 = x0 at *
      generalize l.getD 1 0 = x1 at *
      cases hx : (x0 == 72)
      · have hx2 : (x0 != 72) = true := by rw [bne, hx]; rfl
        have hx3 : ¬ x0 = 72 := by simpa using hx
        go_enter Try.func53, Try.ntmps53
        go_wp2
        go_ret
        exact ⟨rfl, rfl⟩
      · have hx2 : (x0 != 72) = false := by rw [bne, hx]; rfl
        obtain rfl : x0 = 72 := by simpa using hx
        cases hy : (x1 == 87)
        · have hy2 : (x1 != 87) = true := by rw [bne, hy]; rfl
          go_enter Try.func53, Try.ntmps53
          go_wp2
          go_ret
          refine ⟨?_, rfl⟩
          show Ending.returned (Value.bool (decide ((l.length : Int) < 2))) = _
          rw [decide_eq_false (by omega)]
          rfl
        · have hy2 : (x1 != 87) = false := by rw [bne, hy]; rfl
          go_enter Try.func53, Try.ntmps53
          go_wp2
          go_ret
          exact ⟨rfl, rfl⟩
set_option maxHeartbeats 1000000 in
theorem ref_length_any (v : Value) (l : List Int) (w : World) (HR : Rd w v l) (hl : 10 ≤ l.length) :
    Calls Try.prog 54 #[v] w fun e w' => e = .returned (.int .i64 (if headB l = true then lenN l else -1)) ∧ Below w.heap.size w w' := by
  unfold headB lenN
  obtain ⟨u1, hs1, hR1⟩ := HR.sl_h Try.underlying24 info8 10 (by omega)
  have hs1 : ∀ (W : World), Sem.run Try.prog (Instr.slice 24 v none (some (Value.int IntKind.i64 10)) none) W = Result.ok u1 W := hs1
  obtain ⟨b2, o2, hat2, h2⟩ := HR.at Try.underlying24 info8 .i64 2 (by omega)
  obtain ⟨b3, o3, hat3, h3⟩ := HR.at Try.underlying24 info8 .i64 3 (by omega)
  obtain ⟨b4, o4, hat4, h4⟩ := HR.at Try.underlying24 info8 .i64 4 (by omega)
  obtain ⟨b5, o5, hat5, h5⟩ := HR.at Try.underlying24 info8 .i64 5 (by omega)
  have hat2 : ∀ W, Sem.run Try.prog (Instr.indexAt 24 v (Value.int IntKind.i64 2)) W = .ok (.pointer (some ⟨b2, o2, none⟩)) W := hat2
  have hat3 : ∀ W, Sem.run Try.prog (Instr.indexAt 24 v (Value.int IntKind.i64 3)) W = .ok (.pointer (some ⟨b3, o3, none⟩)) W := hat3
  have hat4 : ∀ W, Sem.run Try.prog (Instr.indexAt 24 v (Value.int IntKind.i64 4)) W = .ok (.pointer (some ⟨b4, o4, none⟩)) W := hat4
  have hat5 : ∀ W, Sem.run Try.prog (Instr.indexAt 24 v (Value.int IntKind.i64 5)) W = .ok (.pointer (some ⟨b5, o5, none⟩)) W := hat5
  obtain ⟨p2, q2⟩ := bytes_at HR.1 2
  obtain ⟨p3, q3⟩ := bytes_at HR.1 3
  obtain ⟨p4, q4⟩ := bytes_at HR.1 4
  obtain ⟨p5, q5⟩ := bytes_at HR.1 5
  have h10 : (l.take 10).length ≤ 281474976710656 := by rw [List.length_take]; omega
  have H10 := hd_ h10
  clear h10
  generalize l.getD 2 0 = x2 at *
  generalize l.getD 3 0 = x3 at *
  generalize l.getD 4 0 = x4 at *
  generalize l.getD 5 0 = x5 at *
  cases hH : holdsB (l.take 10)
  · have hif : (if (x2 != 0 && false) = true then x3 + x4 * 256 + x5 * 65536 else -1) = (-1 : Int) := by simp
    rw [hif]
    clear hif
    go_enter Try.func54, Try.ntmps54
    go_wp2_with (go_at_call 55; refine (ref_Holds_any _ _ _ hR1 H10.out).mono ?_; rintro e w1 ⟨rfl, HB1⟩; rw [hH])
    go_ret
    exact ⟨rfl, HB1⟩
  · cases hx : (x2 == 0)
    · have hif : (if (x2 != 0 && true) = true then x3 + x4 * 256 + x5 * 65536 else -1) = x3 + x4 * 256 + x5 * 65536 := by simp [bne, hx]
      rw [hif]
      clear hif
      go_enter Try.func54, Try.ntmps54
      go_wp2_with (go_at_call 55; refine (ref_Holds_any _ _ _ hR1 H10.out).mono ?_; rintro e w1 ⟨rfl, HB1⟩; rw [hH]; have k2 := cell_keep HB1 h2; have k3 := cell_keep HB1 h3; have k4 := cell_keep HB1 h4; have k5 := cell_keep HB1 h5)
      go_quiet (fail)
      go_wp2
      go_ret
      refine ⟨?_, below_drewN HB1 _⟩
      show Ending.returned (Value.int .i64 (x3 + 256 * x4 + 65536 * x5)) = _
      congr 2
      omega
    · have hif : (if (x2 != 0 && true) = true then x3 + x4 * 256 + x5 * 65536 else -1) = (-1 : Int) := by simp [bne, hx]
      rw [hif]
      clear hif
      go_enter Try.func54, Try.ntmps54
      go_wp2_with (go_at_call 55; refine (ref_Holds_any _ _ _ hR1 H10.out).mono ?_; rintro e w1 ⟨rfl, HB1⟩; rw [hH]; have k2 := cell_keep HB1 h2)
      go_ret
      exact ⟨rfl, HB1⟩
end Go.Proofs.Ytilmmohkdgmhnaa
