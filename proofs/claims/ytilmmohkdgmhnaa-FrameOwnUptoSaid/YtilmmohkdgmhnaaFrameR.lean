import Derived.Test.YtilmmohkdgmhnaaFrameQ
import Derived.Test.YtilmmohkdgmhnaaMem7
namespace Go.Proofs.Ytilmmohkdgmhnaa
open Go.RowKit
set_option maxRecDepth 100000
set_option linter.unusedVariables false
/-- what stands at the splitter's place: 0 junk, 1 too short, 2 lost, 3 a frame -/
def lookN (m : Int) (l : List Int) : Nat :=
  if frontB l = false then 0 else if l.length < 10 then 1 else if headB l = false then 0 else if m < lenN l then 0 else if (l.length : Int) < lenN l + 14 then 1 else if holdsB (l.take (lenN l + 14).toNat) = false then 2 else 3
/-- a splitter that was made: its most, the bytes from its place on, junk, lost -/
def Spl (W : World) (g : Nat) (m : Int) (l : List Int) (j lo : Nat) : Prop :=
  ∃ v, Box W g 74 #[.bool true, .int .i64 m, v, .int .i64 (j : Int), .int .i64 (lo : Int)] ∧ RdB W 0 5 v l
theorem Spl.keep {w w1 : World} {g : Nat} {m : Int} {l : List Int} {j lo : Nat} (h : Spl w g m l j lo) (hb : Below w.heap.size w w1) : Spl w1 g m l j lo := by
  obtain ⟨v, h1, h2⟩ := h
  exact ⟨v, h1.keep hb, h2.keep hb⟩
theorem Spl.grown {w w1 : World} {g : Nat} {m : Int} {l : List Int} {j lo : Nat} {row : Option Nat} (h : Spl w g m l j lo) (hg : w.grownBy w1 row) (h1 : some g ≠ row) (h2 : ∀ b cur, w.heap[b]? = some (.cells cur 5 (0, 0)) → some b ≠ row) : Spl w1 g m l j lo := by
  obtain ⟨v, k1, k2⟩ := h
  exact ⟨v, k1.grown hg h1, k2.grown hg h2⟩
set_option maxHeartbeats 2000000 in
theorem look_any (g : Nat) (m : Int) (l : List Int) (j lo : Nat) (w : World) (HS : Spl w g m l j lo) :
    Calls Try.prog 65 #[.pointer (some ⟨g, 0, none⟩)] w fun e w' => e = .returned (.int .i64 (lookN m l : Nat)) ∧ Below w.heap.size w w' := by
  obtain ⟨v, hbx, ⟨HR, _⟩⟩ := HS
  have q1 := hbx.cell 1 rfl
  have q2 := hbx.cell 2 rfl
  clear hbx
  have hlen := HR.2.len (P := Try.prog) 24 5 3 Try.underlying24
  have hlt := HR.lt63
  obtain ⟨N, hN, hN24⟩ := lenN_range HR.1
  by_cases hF : frontB l = false
  · have hE : lookN m l = 0 := by unfold lookN; rw [if_pos hF]
    rw [hE]
    clear hE
    go_enter Try.func65, Try.ntmps65
    go_wp2_with (go_at_call 48; refine (frame_begins_any _ _ _ HR).mono ?_; rintro e w' ⟨rfl, rfl⟩; rw [hF])
    go_ret
    exact ⟨rfl, Below.refl _ _⟩
  have hFt : frontB l = true := by cases h : frontB l <;> simp_all
  by_cases h10 : l.length < 10
  · have hE : lookN m l = 1 := by unfold lookN; rw [if_neg hF, if_pos h10]
    rw [hE]
    clear hE
    go_enter Try.func65, Try.ntmps65
    go_wp2_with (go_at_call 48; refine (frame_begins_any _ _ _ HR).mono ?_; rintro e w' ⟨rfl, rfl⟩; rw [hFt])
    go_ret
    exact ⟨rfl, Below.refl _ _⟩
  have h10' : 10 ≤ l.length := by omega
  have h10I : ¬ (l.length : Int) < 10 := by omega
  by_cases hH : headB l = false
  · have hE : lookN m l = 0 := by unfold lookN; rw [if_neg hF, if_neg h10, if_pos hH]
    rw [hE]
    clear hE
    go_enter Try.func65, Try.ntmps65
    go_upto_region 6 with (go_at_call 48; refine (frame_begins_any _ _ _ HR).mono ?_; rintro e w' ⟨rfl, rfl⟩; rw [hFt])
    first | (go_region_with (go_at_call 49; with_reducible refine (frame_headed_any _ _ _ (HR.keep (Below.refl _ _).drew) h10').mono ?_; rintro e w1 ⟨rfl, HB1⟩; rw [hH])) | fail
    all_goals
      go_wp2
      go_ret
      exact ⟨rfl, bel_trans (Below.refl _ _).drew HB1⟩
  have hHt : headB l = true := by cases h : headB l <;> simp_all
  by_cases hM : m < lenN l
  · have hE : lookN m l = 0 := by unfold lookN; rw [if_neg hF, if_neg h10, if_neg hH, if_pos hM]
    rw [hE]
    clear hE
    rw [hN] at hM
    go_enter Try.func65, Try.ntmps65
    go_upto_region 6 with (go_at_call 48; refine (frame_begins_any _ _ _ HR).mono ?_; rintro e w' ⟨rfl, rfl⟩; rw [hFt])
    go_region_with (first
      | (go_at_call 49; with_reducible refine (frame_headed_any _ _ _ (HR.keep (Below.refl _ _).drew) h10').mono ?_; rintro e w1 ⟨rfl, HB1⟩; rw [hHt]; have K1 : Below w.heap.size w w1 := bel_trans (Below.refl _ _).drew HB1; have k1 := cell_keep K1 q1)
      | (go_at_call 50; with_reducible refine (frame_length_bel _ _ _ (HR.keep K1) (by omega)).mono ?_; rintro e w2 ⟨rfl, HB2⟩; rw [hN]; have k2 := cell_keep HB2 k1))
    all_goals
      go_wp2
      go_ret
      exact ⟨rfl, bel_trans K1 HB2⟩
  have hMn : ¬ m < (N : Int) := by rw [← hN]; exact hM
  by_cases hS : (l.length : Int) < lenN l + 14
  · have hE : lookN m l = 1 := by unfold lookN; rw [if_neg hF, if_neg h10, if_neg hH, if_neg hM, if_pos hS]
    rw [hE]
    clear hE
    rw [hN] at hS
    go_enter Try.func65, Try.ntmps65
    go_upto_region 6 with (go_at_call 48; refine (frame_begins_any _ _ _ HR).mono ?_; rintro e w' ⟨rfl, rfl⟩; rw [hFt])
    go_region_with (first
      | (go_at_call 49; with_reducible refine (frame_headed_any _ _ _ (HR.keep (Below.refl _ _).drew) h10').mono ?_; rintro e w1 ⟨rfl, HB1⟩; rw [hHt]; have K1 : Below w.heap.size w w1 := bel_trans (Below.refl _ _).drew HB1; have k1 := cell_keep K1 q1)
      | (go_at_call 50; with_reducible refine (frame_length_bel _ _ _ (HR.keep K1) (by omega)).mono ?_; rintro e w2 ⟨rfl, HB2⟩; rw [hN]; have k2 := cell_keep HB2 k1; have K2 := bel_trans K1 HB2))
    all_goals
      go_wp2_with (go_at_call 50; refine (frame_length_bel _ _ _ (HR.keep K2) (by omega)).mono ?_; rintro e w3 ⟨rfl, HB3⟩; rw [hN])
      go_ret
      exact ⟨rfl, bel_trans K2 HB3⟩
  have hSn : N + 14 ≤ l.length := by rw [hN] at hS; omega
  have hSI : ¬ (l.length : Int) < (N : Int) + 14 := by omega
  have eN : (lenN l + 14).toNat = N + 14 := by rw [hN]; omega
  obtain ⟨u1, hs1, hR1⟩ := HR.sl_h Try.underlying24 info8 (N + 14) hSn
  have hs1 : ∀ (W : World), Sem.run Try.prog (Instr.slice 24 v none (some (Value.int IntKind.i64 ((N : Int) + 14))) none) W = Result.ok u1 W := hs1
  have hR14 : Hid (4 ≤ (l.take (N + 14)).length) := hd_ (by rw [List.length_take]; omega)
  have hE : lookN m l = if holdsB (l.take (N + 14)) = false then 2 else 3 := by unfold lookN; rw [if_neg hF, if_neg h10, if_neg hH, if_neg hM, if_neg hS, eN]
  rw [hE]
  clear hE eN hSn
  cases hW : holdsB (l.take (N + 14))
  · rw [if_pos rfl]
    go_enter Try.func65, Try.ntmps65
    go_upto_region 6 with (go_at_call 48; refine (frame_begins_any _ _ _ HR).mono ?_; rintro e w' ⟨rfl, rfl⟩; rw [hFt])
    go_region_with (first
      | (go_at_call 49; with_reducible refine (frame_headed_any _ _ _ (HR.keep (Below.refl _ _).drew) h10').mono ?_; rintro e w1 ⟨rfl, HB1⟩; rw [hHt]; have K1 : Below w.heap.size w w1 := bel_trans (Below.refl _ _).drew HB1; have k1 := cell_keep K1 q1)
      | (go_at_call 50; with_reducible refine (frame_length_bel _ _ _ (HR.keep K1) (by omega)).mono ?_; rintro e w2 ⟨rfl, HB2⟩; rw [hN]; have k2 := cell_keep HB2 k1; have K2 := bel_trans K1 HB2))
    all_goals
      go_upto_region 10 with (go_at_call 50; refine (frame_length_bel _ _ _ (HR.keep K2) (by omega)).mono ?_; rintro e w3 ⟨rfl, HB3⟩; rw [hN]; have K3 := bel_trans K2 HB3)
      go_wp2_with (first
        | (go_at_call 50; refine (frame_length_bel _ _ _ (HR.keep K3) (by omega)).mono ?_; rintro e w4 ⟨rfl, HB4⟩; rw [hN]; have K4 := bel_trans K3 HB4)
        | (go_at_call 51; refine (frame_whole_any _ _ _ (hR1.keep K4) hR14.out).mono ?_; rintro e w5 ⟨rfl, HB5⟩; rw [hW]))
      go_ret
      exact ⟨rfl, bel_trans K4 HB5⟩
  · rw [if_neg (by simp)]
    go_enter Try.func65, Try.ntmps65
    go_upto_region 6 with (go_at_call 48; refine (frame_begins_any _ _ _ HR).mono ?_; rintro e w' ⟨rfl, rfl⟩; rw [hFt])
    go_region_with (first
      | (go_at_call 49; with_reducible refine (frame_headed_any _ _ _ (HR.keep (Below.refl _ _).drew) h10').mono ?_; rintro e w1 ⟨rfl, HB1⟩; rw [hHt]; have K1 : Below w.heap.size w w1 := bel_trans (Below.refl _ _).drew HB1; have k1 := cell_keep K1 q1)
      | (go_at_call 50; with_reducible refine (frame_length_bel _ _ _ (HR.keep K1) (by omega)).mono ?_; rintro e w2 ⟨rfl, HB2⟩; rw [hN]; have k2 := cell_keep HB2 k1; have K2 := bel_trans K1 HB2))
    all_goals
      go_upto_region 10 with (go_at_call 50; refine (frame_length_bel _ _ _ (HR.keep K2) (by omega)).mono ?_; rintro e w3 ⟨rfl, HB3⟩; rw [hN]; have K3 := bel_trans K2 HB3)
      go_wp2_with (first
        | (go_at_call 50; refine (frame_length_bel _ _ _ (HR.keep K3) (by omega)).mono ?_; rintro e w4 ⟨rfl, HB4⟩; rw [hN]; have K4 := bel_trans K3 HB4)
        | (go_at_call 51; refine (frame_whole_any _ _ _ (hR1.keep K4) hR14.out).mono ?_; rintro e w5 ⟨rfl, HB5⟩; rw [hW]))
      go_ret
      exact ⟨rfl, bel_trans K4 HB5⟩
end Go.Proofs.Ytilmmohkdgmhnaa
