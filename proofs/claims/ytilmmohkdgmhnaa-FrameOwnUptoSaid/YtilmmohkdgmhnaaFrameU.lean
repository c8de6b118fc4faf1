import Derived.Test.YtilmmohkdgmhnaaFrameT
import Derived.Test.YtilmmohkdgmhnaaMem8
namespace Go.Proofs.Ytilmmohkdgmhnaa
open Go.RowKit
set_option maxRecDepth 100000
set_option linter.unusedVariables false
set_option maxHeartbeats 2000000 in
theorem Feed_any (g : Nat) (m : Int) (l b : List Int) (j lo : Nat) (v : Value) (w : World) (HS : Spl w g m l j lo) (HV : Rd w v b) (hm : m ≤ 1048576) (hl : l.length + b.length ≤ 35184372088832) (hj : j + (l.length + b.length) < 4611686018427387904) (hlo : lo + (l.length + b.length) < 4611686018427387904) :
    Calls Try.prog 29 #[.pointer (some ⟨g, 0, none⟩), v] w (SplRet w g m (scanA m false (l ++ b).length (l ++ b) [] j lo)) := by
  obtain ⟨R, hR⟩ : ∃ R, scanA m false (l ++ b).length (l ++ b) [] j lo = R := ⟨_, rfl⟩
  rw [hR]
  have HR := hd_ hR
  clear hR
  have hab : (l ++ b).length = l.length + b.length := List.length_append
  obtain ⟨u, hbx, hRB⟩ := HS
  have q0 : w.cell? ⟨g, 0, none⟩ = some (.bool true) := hbx.cell 0 rfl
  have q2 : w.cell? ⟨g, 2, none⟩ = some u := hbx.cell 2 rfl
  have hlen1 := hRB.1.2.len (P := Try.prog) 24 5 3 Try.underlying24
  have hlen2 := HV.2.len (P := Try.prog) 24 5 3 Try.underlying24
  have HAB := hd_ hab
  clear hab
  go_enter Try.func29, Try.ntmps29
  go_upto_region 4 with (at_make; refine make_bytes (w0 := w) w.heap.size rfl _ _ 24 5 rfl Try.underlying24 info8 _ _ _ _ (l.length + b.length) rfl rfl (by omega) (by omega) (by omega) (Below.refl _ _) (Nat.le_refl _) ?_; intro v1 w1 HO1 HB1 hg1 hat1)
  obtain ⟨gb, cap, rfl, hgb⟩ := HO1.block hat1
  rw [List.length_replicate] at HO1 ⊢
  obtain ⟨_, _, hcv, hcap, hx9⟩ := HO1.rd.form
  clear hx9
  rw [List.length_replicate] at hcv hcap
  injection hcv with e1 e2 e3
  subst e1
  subst e3
  clear e2
  have hbx1 := hbx.keep HB1
  have q21 := cell_keep HB1 q2
  have hRB1 := hRB.1.keep HB1
  have HV1 := HV.keep HB1
  obtain ⟨D, c2, hsl, hD⟩ : ∃ D c2, (∀ W, Sem.run Try.prog (Instr.slice 24 (.slice (some ⟨gb, 0, none⟩) (l.length + b.length) cap) (some (Value.int .i64 (l.length : Int))) none none) W = .ok (.slice D b.length c2) W) ∧ (0 < b.length → D = some ⟨gb, l.length, none⟩) := by
    have hel : Try.prog.elem 24 = 5 := by simp [Program.elem, Try.underlying24]
    refine ⟨if cap = l.length then some ⟨gb, 0, none⟩ else (some (⟨gb, 0, none⟩ : Addr)).map (·.add (l.length * 1)), cap - l.length, fun W => ?_, fun h => ?_⟩
    · rw [run_slice_l (P := Try.prog) W 24 (some ⟨gb, 0, none⟩) (l.length + b.length) cap (by rw [hel]; exact Try.underlying24) .i64 l.length (by omega) (by omega), hel, run_size info8]
      simp only [Result.andThen_ok, Int.toNat_natCast, sliced, Nat.add_sub_cancel_left]
    · rw [if_neg (by omega), Option.map_some, Addr.add_lit, Nat.mul_one, Nat.zero_add]
  have hcp1 : Hid ((List.replicate (l.length + b.length) (0 : Int)).take 0 ++ (l ++ (List.replicate (l.length + b.length) (0 : Int)).drop (0 + l.length)) = l ++ List.replicate b.length 0) := hd_ (by
    rw [List.take_zero, List.nil_append, List.drop_replicate]
    congr 2
    omega)
  have hcp2 : Hid ((l ++ List.replicate b.length (0 : Int)).take l.length ++ (b ++ (l ++ List.replicate b.length (0 : Int)).drop (l.length + b.length)) = l ++ b) := hd_ (by
    rw [List.take_left, List.drop_eq_nil_of_le (by rw [List.length_append, List.length_replicate]; exact Nat.le_refl _), List.append_nil])
  have hlr : (l ++ List.replicate b.length (0 : Int)).length = l.length + b.length := by rw [List.length_append, List.length_replicate]
  have HLR := hd_ hlr
  clear hlr
  obtain ⟨V, hV⟩ : ∃ V, V = Value.slice (some ⟨gb, 0, none⟩) (l.length + b.length) cap := ⟨_, rfl⟩
  rw [← hV] at hsl ⊢
  have HVV := hd_ hV
  clear hV hcap hat1
  go_upto_region 5 with (first
    | (refine copy_own (w0 := w) w.heap.size rfl _ _ 24 5 rfl Try.underlying24 info8 gb cap 0 (l.length + b.length) (List.replicate (l.length + b.length) 0) l List.length_replicate _ (l.length + b.length) cap u HVV.out (fun _ => rfl) (Nat.le_add_right _ _) rfl HO1 hRB1 (by rw [Nat.zero_add]; exact Nat.le_add_right _ _) HB1 HB1.size ?_; intro w2 HO2 HB2 hg2; rw [hcp1.out] at HO2; have HV2 := HV.keep HB2)
    | (refine copy_own (w0 := w) w.heap.size rfl _ _ 24 5 rfl Try.underlying24 info8 gb cap l.length (l.length + b.length) (l ++ List.replicate b.length 0) b HLR.out D b.length c2 v rfl hD (Nat.le_refl _) rfl HO2 HV2 (Nat.le_refl _) HB2 HB2.size ?_; intro w3 HO3 HB3 hg3; rw [hcp2.out] at HO3))
  rw [HVV.out]
  have hbx3 := hbx.keep HB3
  have z3 := hbx3.frozen 2
  have q3 := hbx3.cell 2 rfl
  obtain ⟨b4, g4⟩ := hbx3.put 2 (.slice (some ⟨gb, 0, none⟩) (l.length + b.length) cap)
  have HS4 : Spl _ g m (l ++ b) j lo := ⟨_, b4, ((RdB.own HO3).grown g4 (box_kind hbx3 (by decide))).base (Nat.zero_le _)⟩
  have HG4 : w.grownBy _ (some g) := (grown_below HB3 _).trans g4
  have hRun := run_any g m false (l ++ b) j lo _ HS4 hm (by rw [HAB.out]; exact hl) (by rw [HAB.out]; exact hj) (by rw [HAB.out]; exact hlo)
  rw [HR.out] at hRun
  clear HO1 HO3 hbx hbx1 hRB hRB1 b4 HS4 HV HV1 hsl hD g4 hbx3
  go_wp2_with fail
  refine hRun.mono ?_
  rintro e w5 ⟨lv, rfl, HS5, HF5, HG5⟩
  go_wp2
  go_ret
  exact ⟨_, rfl, HS5, HF5.base HG4.size, HG4.trans HG5⟩
set_option maxHeartbeats 1000000 in
theorem End_any (g : Nat) (m : Int) (l : List Int) (j lo : Nat) (w : World) (HS : Spl w g m l j lo) (hm : m ≤ 1048576) (hl : l.length ≤ 35184372088832) (hj : j + l.length < 4611686018427387904) (hlo : lo + l.length < 4611686018427387904) :
    Calls Try.prog 30 #[.pointer (some ⟨g, 0, none⟩)] w (SplRet w g m ((scanA m true l.length l [] j lo).1, [], (scanA m true l.length l [] j lo).2.2)) := by
  have hRun := run_any g m true l j lo w HS hm hl hj hlo
  generalize scanA m true l.length l [] j lo = R at *
  obtain ⟨u, hbx, hRB⟩ := HS
  have q0 : w.cell? ⟨g, 0, none⟩ = some (.bool true) := hbx.cell 0 rfl
  go_enter Try.func30, Try.ntmps30
  go_wp2_with fail
  refine hRun.mono ?_
  rintro e w1 ⟨lv, rfl, HS1, HF1, HG1⟩
  obtain ⟨u1, hb1, hR1⟩ := HS1
  have z1 := hb1.frozen 2
  have q1 := hb1.cell 2 rfl
  obtain ⟨b2, g2⟩ := hb1.put 2 (.slice none 0 0)
  have HS2 : Hid (Spl _ g m [] R.2.2.1 R.2.2.2) := hd_ ⟨_, b2, (RdB.own (own_nil8 _ 0 _))⟩
  have HF2 := hd_ (HF1.boxed hb1 g2 (by decide) (by decide))
  have HG2 := hd_ (HG1.trans g2)
  clear HF1 HG1 b2 g2 hb1 hR1 hbx hRB
  go_wp2
  go_ret
  exact ⟨_, rfl, HS2.out, HF2.out, HG2.out⟩
end Go.Proofs.Ytilmmohkdgmhnaa
