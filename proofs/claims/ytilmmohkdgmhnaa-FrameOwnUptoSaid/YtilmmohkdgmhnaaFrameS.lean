import Derived.Test.YtilmmohkdgmhnaaFrameR
namespace Go.Proofs.Ytilmmohkdgmhnaa
open Go.RowKit
set_option maxRecDepth 100000
set_option linter.unusedVariables false
theorem infoFr : (Try.prog.info? 28).map (fun i => (i.zero, i.size, i.bytes)) = some (some (.agg #[.int .i64 0, .slice none 0 0]), 2, 32) := by kernel_rfl
/-- all other variables are as they were -/
def Kp (W w1 : World) : Prop := ∀ b t cs, Box W b t cs → t ≠ 74 → t ≠ 28 → Box w1 b t cs
theorem Kp.below {W w1 : World} (h : Below W.heap.size W w1) : Kp W w1 := fun b t cs hb _ _ => hb.keep h
theorem Kp.box {W w1 : World} {g : Nat} {cs : Array Value} (hg : W.grownBy w1 (some g)) (hb : Box W g 74 cs) : Kp W w1 := fun b t cs h h1 _ => h.grown hg (box_kind hb h1 b _ h)
theorem Kp.trans {W w1 w2 : World} (h : Kp W w1) (k : Kp w1 w2) : Kp W w2 := fun b t cs hb h1 h2 => k b t cs (h b t cs hb h1 h2) h1 h2
theorem skip_any (g : Nat) (m : Int) (l : List Int) (j lo : Nat) (lv : Value) (fs : List (Int × List Int)) (w0 w : World) (HS : Spl w g m l j lo) (HF : FrL w w0.heap.size 28 5 lv fs) (hl : 1 ≤ l.length) (hj : j < 4611686018427387904) (HB : w0.grownBy w (some g)) :
    Calls Try.prog 70 #[.pointer (some ⟨g, 0, none⟩), lv] w fun e w' => e = .returned lv ∧ Spl w' g m (l.drop 1) (j + 1) lo ∧ FrL w' w0.heap.size 28 5 lv fs ∧ w0.grownBy w' (some g) ∧ Kp w w' := by
  obtain ⟨v, hbx, HR⟩ := HS
  obtain ⟨u, hs, hR2⟩ := HR.sl_l Try.underlying24 info8 1 hl
  have hs : ∀ (W : World), Sem.run Try.prog (Instr.slice 24 v (some (Value.int IntKind.i64 1)) none none) W = Result.ok u W := hs
  have q2 := hbx.cell 2 rfl
  have q3 := hbx.cell 3 rfl
  have z2 := hbx.frozen 2
  have z3 := hbx.frozen 3
  obtain ⟨A, c, rfl⟩ := hR2.len
  generalize l.drop 1 = l1 at *
  obtain ⟨b1, g1⟩ := hbx.put 3 (.int .i64 ((j : Int) + 1))
  obtain ⟨b2, g2⟩ := b1.put 2 (.slice A l1.length c)
  have HF1 := (HF.boxed hbx g1 (by decide) (by decide)).boxed b1 g2 (by decide) (by decide)
  have HR1 := (hR2.grown g1 (box_kind hbx (by decide))).grown g2 (box_kind b1 (by decide))
  have HB1 := (HB.trans g1).trans g2
  have HK := hd_ ((Kp.box g1 hbx).trans (Kp.box g2 b1))
  have hq := b1.cell 2 rfl
  have HX : Hid (Box _ g 74 #[.bool true, .int .i64 m, .slice A l1.length c, .int .i64 ((j + 1 : Nat) : Int), .int .i64 (lo : Int)]) := hd_ b2
  have HHR := hd_ HR1
  have HHF := hd_ HF1
  have HHB := hd_ HB1
  clear HF HF1 HR1 HB1 HR hR2 hbx b1 b2 g1 g2 HB
  go_enter Try.func70, Try.ntmps70
  go_wp2
  go_ret
  exact ⟨rfl, ⟨_, HX.out, HHR.out⟩, HHF.out, HHB.out, HK.out⟩
theorem lose_any (g : Nat) (m : Int) (l : List Int) (j lo : Nat) (lv : Value) (fs : List (Int × List Int)) (w0 w : World) (HS : Spl w g m l j lo) (HF : FrL w w0.heap.size 28 5 lv fs) (hl : 1 ≤ l.length) (hj : j < 4611686018427387904) (hlo : lo < 4611686018427387904) (HB : w0.grownBy w (some g)) :
    Calls Try.prog 71 #[.pointer (some ⟨g, 0, none⟩), lv] w fun e w' => e = .returned lv ∧ Spl w' g m (l.drop 1) (j + 1) (lo + 1) ∧ FrL w' w0.heap.size 28 5 lv fs ∧ w0.grownBy w' (some g) ∧ Kp w w' := by
  obtain ⟨v, hbx, HR⟩ := HS
  have q4 := hbx.cell 4 rfl
  have z4 := hbx.frozen 4
  obtain ⟨b1, g1⟩ := hbx.put 4 (.int .i64 ((lo : Int) + 1))
  have b1 : Box _ g 74 #[.bool true, .int .i64 m, v, .int .i64 (j : Int), .int .i64 ((lo + 1 : Nat) : Int)] := b1
  have HF1 := HF.boxed hbx g1 (by decide) (by decide)
  have HR1 := HR.grown g1 (box_kind hbx (by decide))
  have HB1 := HB.trans g1
  have HK := hd_ (Kp.box g1 hbx)
  have HS1 : Spl _ g m l j (lo + 1) := ⟨v, b1, HR1⟩
  clear HF HR hbx b1 g1 HB HR1
  go_enter Try.func71, Try.ntmps71
  go_wp2_with (go_at_call 70; refine (skip_any g m l j (lo + 1) lv fs w0 _ HS1 HF1 hl hj HB1).mono ?_; rintro e w2 ⟨rfl, HS2, HF2, HB2, HK2⟩)
  go_ret
  exact ⟨rfl, HS2, HF2, HB2, HK.out.trans HK2⟩
theorem box_pair (W : World) (u v : Value) (t : TypeId) : RdC 2 (W.alloc (.cells #[u, v] t)) (.slice (some ⟨W.heap.size, 0, none⟩) 1 1) 1 [u, v] :=
  ⟨rfl, _, _, rfl, Nat.le_refl _, by decide, (fun h => by cases h), fun j hj => ⟨_, 0, rfl, by rw [Nat.zero_add, World.cell?_alloc_new]; simp⟩⟩
set_option maxHeartbeats 1000000 in
theorem find_any (g : Nat) (m : Int) (l : List Int) (j lo N : Nat) (lv : Value) (fs : List (Int × List Int)) (w0 w : World) (HS : Spl w g m l j lo) (HF : FrL w w0.heap.size 28 5 lv fs) (hN : lenN l = (N : Int)) (hN1 : N ≤ 1048576) (hl : N + 14 ≤ l.length) (hfs : (fs.length + 1) * 32 ≤ 140737488355328) (HB : w0.grownBy w (some g)) :
    Calls Try.prog 72 #[.pointer (some ⟨g, 0, none⟩), lv] w fun e w' => ∃ lv1, e = .returned lv1 ∧ Spl w' g m (l.drop (N + 14)) j lo ∧ FrL w' w0.heap.size 28 5 lv1 (fs ++ [(l.getD 2 0, (l.drop 10).take N)]) ∧ w0.grownBy w' (some g) ∧ Kp w w' := by
  obtain ⟨v, hbx, HR⟩ := HS
  have q2 := hbx.cell 2 rfl
  obtain ⟨u1, hs1, hR1⟩ := HR.1.sl_m Try.underlying24 info8 (N + 14) hl
  have hs1 : ∀ (W : World), Sem.run Try.prog (Instr.slice 24 v none (some (Value.int IntKind.i64 ((N : Int) + 14))) (some (Value.int IntKind.i64 ((N : Int) + 14)))) W = Result.ok u1 W := hs1
  have hTl : (l.take (N + 14)).length = N + 14 := by rw [List.length_take]; omega
  have HTL := hd_ hTl
  have hl6 : Hid (6 ≤ l.length) := hd_ (by omega)
  clear hTl
  obtain ⟨T, hT⟩ : ∃ T, (l.drop 10).take N = T := ⟨_, rfl⟩
  obtain ⟨K, hK⟩ : ∃ K, l.getD 2 0 = K := ⟨_, rfl⟩
  obtain ⟨l3, hl3⟩ : ∃ l3, l.drop (N + 14) = l3 := ⟨_, rfl⟩
  rw [hT, hK, hl3]
  have HT := hd_ hT
  have HK := hd_ hK
  have HL3 := hd_ hl3
  clear hT hK hl3
  go_enter Try.func72, Try.ntmps72
  go_upto_region 2 with (go_at_call 50; refine (frame_length_bel _ _ _ HR.1 hl6.out).mono ?_; rintro e w1 ⟨rfl, HB1⟩; rw [hN]; have q21 := cell_keep HB1 q2)
  go_wp2_with fail
  refine (frame_cut_any _ _ N _ (hR1.keep HB1) HTL.out hN1).mono ?_
  rintro e w2 ⟨v2, rfl, HO2, HB2⟩
  rw [take_getD2, HK.out]
  rw [take_drop_body, HT.out] at HO2
  have hb2 := (hbx.keep HB1).keep HB2
  have HR2 := (HR.keep HB1).keep HB2
  have HF2 := (HF.keep HB1).keep HB2
  have hw2 := (bel_trans HB1 HB2)
  have HBB := grown_bel HB hw2
  have HO2 := own_base HO2 (Nat.le_trans HB.size HB1.size)
  obtain ⟨A2, c2, rfl, _⟩ := own_slice HO2
  obtain ⟨u2, hs2, hR3⟩ := HR2.sl_l Try.underlying24 info8 (N + 14) hl
  have hs2 : ∀ (W : World), Sem.run Try.prog (Instr.slice 24 v (some (Value.int IntKind.i64 ((N : Int) + 14))) none none) W = Result.ok u2 W := hs2
  rw [HL3.out] at hR3
  obtain ⟨A3, c3, rfl⟩ := hR3.len
  have hal := al1 (Below.refl w2.heap.size w2) (.cells #[.int .i64 K, .slice A2 T.length c2] 28)
  have hpair := box_pair w2 (.int .i64 K) (.slice A2 T.length c2) 28
  have hb3 := hb2.keep hal
  have hR3' := hR3.keep hal
  have HF3 := HF2.keep hal
  have HO3 := HO2.keep hal
  have HB3 := grown_bel HBB hal
  have HK3 := (Kp.below hw2).trans (Kp.below hal)
  clear HF HR hbx HF2 hR3 hb2 HO2 HBB HR2 hR1 HTL HB hw2
  go_upto_region 3 with (at_builtin; (refine app_frame (w0 := w2.alloc (.cells #[.int .i64 K, .slice A2 T.length c2] 28)) w0.heap.size rfl _ _ 52 28 5 (.agg #[.int .i64 0, .slice none 0 0]) rfl Try.underlying52 infoFr rfl (by decide) lv _ (.slice A2 T.length c2) fs (K, T) rfl rfl HF3 hpair rfl HO3 (Below.refl _ _) HB3.size hfs ?_); intro v4 w4 HF4 HB4 hg4 hk4)
  have hb4 := hb3.grown hg4 (hk4 g _ _ hb3 (by decide))
  have HR4 := hR3'.grown hg4 (fun b cur hc => hk4 b cur _ hc (by decide))
  have hB4 : w0.grownBy w4 (some g) := by
    obtain ⟨us, _, h2, _⟩ := HF3
    exact grown_own HB3 h2 hg4
  have HK4 : Kp _ w4 := HK3.trans fun b t cs hb _ hn => hb.grown hg4 (hk4 b _ _ hb (fun e => hn e.symm))
  have p2 := hb4.cell 2 rfl
  have z2 := hb4.frozen 2
  obtain ⟨b5, g5⟩ := hb4.put 2 (.slice A3 l3.length c3)
  have HX : Hid (Box _ g 74 #[.bool true, .int .i64 m, .slice A3 l3.length c3, .int .i64 (j : Int), .int .i64 (lo : Int)]) := hd_ b5
  have HF5 := hd_ (HF4.boxed hb4 g5 (by decide) (by decide))
  have HR5 := hd_ (HR4.grown g5 (box_kind hb4 (by decide)))
  have HB5 := hd_ (hB4.trans g5)
  have HK5 := hd_ (HK4.trans (Kp.box g5 hb4))
  clear hb4 b5 HF4 HR4 HB4 g5 hk4 hg4 HF3 HO3 HB3 hR3' hb3 hB4 HK3 HK4
  go_wp2
  go_ret
  exact ⟨_, rfl, ⟨_, HX.out, HR5.out⟩, HF5.out, HB5.out, HK5.out⟩
end Go.Proofs.Ytilmmohkdgmhnaa
