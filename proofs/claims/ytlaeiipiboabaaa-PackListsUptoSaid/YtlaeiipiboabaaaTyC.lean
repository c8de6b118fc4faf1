/- The program's Open, walked. -/
import Derived.Test.YtlaeiipiboabaaaTyB
namespace Go.Proofs.Ytlaeiipiboabaaa
open Go.RowKit
set_option maxRecDepth 100000
set_option linter.unusedVariables false
theorem rEnd_ne {B : List Int} {a : Nat} {err : Int} (h : err ≠ 0) : rEnd B a err = err := by unfold rEnd; rw [if_neg (fun h2 => h h2.1)]
theorem rEnd_z {B : List Int} {a : Nat} {err : Int} (h : rEnd B a err = 0) : err = 0 := by
  unfold rEnd at h
  split at h
  · omega
  · exact h
theorem rInt_atT (B : List Int) (hB : IsBytes B) (a : Nat) (ha : a ≤ B.length) (err : Int) : (rInt B a err 65536).2.1 ≤ B.length := by
  unfold rInt
  by_cases h0 : err ≠ 0
  · rw [if_pos h0]; exact ha
  · rw [if_neg h0]
    rcases uptoA_cases B hB a ha 65536 (by decide) with ⟨E, hE, e⟩ | ⟨u, k, e, h2, _, _, h1, _, _⟩
    · rw [e, if_pos (by simp only; omega)]; exact ha
    · rw [e, if_neg (by simp)]; exact h2
theorem wrap_addN (a b : Nat) (h : a + b ≤ 1000000000) : wrap64 ((a : Int) + (b : Int)) = ((a + b : Nat) : Int) := by unfold wrap64; omega
theorem wrap_addK (a b : Nat) (h : a + b ≤ 1000000000) : IntKind.i64.wrap ((a : Int) + (b : Int)) = ((a + b : Nat) : Int) := by rw [IntKind.wrap_i64]; omega
theorem wrap_add1 (k : Nat) (h : k ≤ 1000000000) : wrap64 ((k : Int) + 1) = (k : Int) + 1 := by unfold wrap64; omega
theorem wrap_n (k : Nat) (h : k ≤ 1000000000) : wrap64 (k : Int) = (k : Int) := by unfold wrap64; omega
theorem nat_beq (a b : Nat) : ((a : Int) == (b : Int)) = decide (a = b) := by
  by_cases h : a = b
  · subst h; simp
  · rw [decide_eq_false h, beq_eq_false_iff_ne]; omega
theorem all_big (a b : Nat) (h : Hid (b ≤ 65536)) : (decide ((a : Int) ≤ 268435456)) = (decide (b ≤ 65536) && decide (a ≤ 268435456)) := by
  rw [decide_eq_true h.out, Bool.true_and]
  by_cases h2 : a ≤ 268435456
  · rw [decide_eq_true h2, decide_eq_true (by omega)]
  · rw [decide_eq_false h2, decide_eq_false (by omega)]
theorem one_str (s : ByteArray) : ∀ u ∈ [Value.string s], u.oneCell' = true := by intro u hu; simp only [List.mem_cons, List.not_mem_nil, or_false] at hu; subst hu; rfl
theorem all_sml (a b : Nat) (h : Hid (¬ b ≤ 65536)) : false = (decide (b ≤ 65536) && decide (a ≤ 268435456)) := by
  rw [decide_eq_false h.out, Bool.false_and]
theorem decide_nat (a b : Nat) : decide ((a : Int) ≤ (b : Int)) = decide (a ≤ b) := decide_eq_decide.2 Int.ofNat_le
theorem lq_not (s a : ByteArray) : (!Op.bytesLess s.toList a.toList && !(s.toList == a.toList)) = !lq s a := (Bool.not_or _ _).symm
theorem rds_row {W : World} {base : Nat} {u : Value} {l : List ByteArray} (h : W.ownsRow base 9 1 u l.length (l.map Value.string)) : RdS W u l := RdC.own h
theorem rds_nil (W : World) : RdS W (.slice none 0 0) [] := RdC.own (World.ownsRow_nil W 0 0 1)
set_option maxHeartbeats 8000000 in
theorem P_Open_any (v : Value) (B : List Int) (w : World) (HR : Rd w v B) (hl : B.length ≤ 140737488351241) :
    Calls Try.prog 33 #[v] w (OpRet w (opA B)) := by
  obtain ⟨n, hn, hnm⟩ := rCount_n B HR.1
  have hBy := hd_ HR.1
  obtain ⟨ce, hce⟩ : ∃ e, e = (rCount B 0 0 1048576 2).2.2 := ⟨_, rfl⟩
  obtain ⟨ca, hca⟩ : ∃ e, e = (rCount B 0 0 1048576 2).2.1 := ⟨_, rfl⟩
  have hC := hd_ (fun W g vr (h : Rr W g vr B 0 0) => show Calls Try.prog 29 #[.pointer (some ⟨g, 0, none⟩), .int .i64 1048576, .int .i64 2] W (RRet W g vr B (.int .i64 (n : Int)) ca ce) from by have := R_Count_any g vr B 0 0 1048576 2 W h (by decide); rw [hn, ← hce, ← hca] at this; exact this)
  have hRd : opC0 B = if ce ≠ 0 then (ce, 0, []) else opR B n true ⟨#[]⟩ 0 [] ca := by unfold opC0; rw [hn, ← hce, ← hca, Int.toNat_natCast]
  obtain ⟨Q, hQ⟩ : ∃ Q, Q = opA B := ⟨_, rfl⟩
  rw [← hQ]
  unfold opA at hQ
  generalize opC0 B = R at *
  have hExit := hd_ (show ∀ a err l, rEnd B R.2.1 R.1 = rEnd B a err → (err = 0 → R.2.2 = l) → (rEnd B a err ≠ 0 → Q = (rEnd B a err, [])) ∧ (rEnd B a err = 0 → Q = (0, l)) from fun a err l h1 h2 => by
    rw [hQ, h1]
    refine ⟨fun h => by rw [if_pos h], fun h => ?_⟩
    rw [if_neg (fun h3 => h3 h), h2 (rEnd_z h)])
  have hRH := hd_ hRd
  clear hn hce hca hRd hQ
  have hin := hd_ (And.intro HR hl)
  have hnH := hd_ hnm
  clear HR hl
  go_enter Try.func33, Try.ntmps33
  go_upto_region 6 with (first
    | (go_at_call 14; (with_reducible refine (R_New_any v B _ hin.out.1 (Nat.le_trans hin.out.2 (by decide))).mono ?_); rintro e w1 ⟨g, vr, rfl, HR1, hg, hv, HB1⟩; have hC1 := hC.out w1 g vr HR1)
    | (go_at_call 29; (with_reducible refine hC1.mono ?_); rintro e w2 ⟨rfl, HP2⟩; have hB2 := HP2.2.then HB1 (fun k h => by rw [h]; exact hg) HB1.size)
    | (at_make; refine make0_strs (w0 := w) w.heap.size rfl _ _ 28 9 rfl Try.underlying28 infoS _ _ _ n rfl rfl rfl hnH.out hB2 hB2.size ?_; intro u w3 HO3 HB3 hg3 hat3))
  have hLk0 := hd_ (show Lk w w3 g vr B ca ce u [] from ⟨HP2.1.keep ((Below.refl w2.heap.size w2).grown hg3 (Nat.le_refl _) (fun k hk => by cases hk)), HO3, hg, HB3⟩)
  clear HR1 hC1 HP2 hB2 HO3 hg3 hat3 hv HB1 HB3 hC
  go_loopw [6, 7, 8, 9] (fun vu va vall vi wr => ∃ (k : Nat) (ahead : ByteArray) (all a : Nat) (err : Int) (l : List ByteArray), k ≤ n ∧ va = .string ahead ∧ vall = .int .i64 (all : Int) ∧ vi = .int .i64 (k : Int) ∧ Lk w wr g vr B a err vu l ∧ l.length = k ∧ (err ≠ 0 → R.1 = err) ∧ (err = 0 → opR B (n - k) (decide (k = 0)) ahead all l a = R ∧ all ≤ 268435456 ∧ ahead.size ≤ 65536)) (fun _ _ _ vi _ => n - (intOf vi).toNat)
  case atStart =>
    refine ⟨0, ⟨#[]⟩, 0, ca, ce, [], Nat.zero_le _, rfl, rfl, rfl, hLk0.out, rfl, fun h => by rw [hRH.out, if_pos h], fun h => ⟨by rw [hRH.out, if_neg (fun h2 => h2 h)]; rfl, by decide, by decide⟩⟩
  case round =>
    obtain ⟨k, ahead, all, a, err, l, hk, rfl, rfl, rfl, hX, hlk, hbad, hgood⟩ := hrel
    have hq0 : wr.cell? ⟨g, 0, none⟩ = some (.int .i64 err) := hX.1.1.cell 0 rfl
    have hXH := hd_ hX
    have hlkH := hd_ hlk
    clear hX hLk0 hRH hlk
    by_cases hlt : k < n
    · have hkI : (k : Int) < (n : Int) := by omega
      by_cases h0 : err = 0
      · subst h0
        obtain ⟨hT, hall, hah⟩ := hgood rfl
        clear hgood hbad
        have hnk : n - k = (n - (k + 1)) + 1 := by omega
        rw [hnk, opR_succ] at hT
        obtain ⟨xn, hxn, hxm⟩ := rInt_n B hBy.out a hXH.out.1.2.2 0
        have ha1m := rInt_atT B hBy.out a hXH.out.1.2.2 0
        have hIc := R_Int_any g vr B a 0 65536 wr hXH.out.1 (by decide)
        obtain ⟨a1, ha1⟩ : ∃ z, z = (rInt B a 0 65536).2.1 := ⟨_, rfl⟩
        obtain ⟨e1, he1⟩ : ∃ z, z = (rInt B a 0 65536).2.2 := ⟨_, rfl⟩
        have hi : rInt B a 0 65536 = ((xn : Int), a1, e1) := by rw [ha1, he1, ← hxn]
        rw [hi] at hIc ha1m
        have hIc := hd_ hIc
        clear ha1 he1 hxn hnk
        by_cases hb : mE e1 (decide ((xn : Int) ≤ (ahead.size : Int))) 32 = 0
        · obtain ⟨h1, h2⟩ := (mE_zero (by decide)).1 hb
          subst h1
          have hle : xn ≤ ahead.size := by simpa using h2
          have hleI : (xn : Int) ≤ (ahead.size : Int) := by omega
          have hMc := hd_ (fun W (h : Rr W g vr B a1 0) => show Calls Try.prog 50 #[.pointer (some ⟨g, 0, none⟩), .bool true, .int .i64 32] W (fun en w' => en = .returned (.bool true) ∧ RrPost W g vr B a1 0 w') from R_must_any g vr B a1 0 true 32 W h (by decide))
          clear hb h2
          obtain ⟨hrl, hrb⟩ := rText_n B hBy.out a1 ha1m 0
          obtain ⟨r, hr⟩ : ∃ z, z = (rText B a1 0 65536).1 := ⟨_, rfl⟩
          obtain ⟨a2, ha2⟩ : ∃ z, z = (rText B a1 0 65536).2.1 := ⟨_, rfl⟩
          obtain ⟨e2, he2⟩ : ∃ z, z = (rText B a1 0 65536).2.2 := ⟨_, rfl⟩
          have ht : rText B a1 0 65536 = (r, a2, e2) := by rw [hr, ha2, he2]
          have hTc := hd_ (fun W (h : Rr W g vr B a1 0) => show Calls Try.prog 28 #[.pointer (some ⟨g, 0, none⟩), .int .i64 65536] W (RRet W g vr B (.string (strOfNums r)) a2 e2) from by have := R_Text_any g vr B a1 0 65536 W h (by decide); rw [ht] at this; exact this)
          rw [ht] at hrl hrb
          simp only at hrl hrb
          obtain ⟨s, hs⟩ : ∃ s, s = ahead.extract 0 xn ++ strOfNums r := ⟨_, rfl⟩
          have hgo := opS_go (B := B) (first := decide (k = 0)) (last := ahead) (all := all) (a := a) hi hle ht hs rfl
          have hgo := hd_ hgo
          have hsz : s.size ≤ 131072 := by rw [hs, app_size, take_size _ _ hle, strOfNums_size]; omega
          have hsl : ∀ W, Sem.run Try.prog (Instr.slice 9 (.string ahead) none (some (.int .i64 (xn : Int))) none) W = .ok (.string (ahead.extract 0 xn)) W := fun W => by have := run_slice_string_h (P := Try.prog) W 9 ahead Try.underlying9 .i64 (xn : Int) (by omega) (by omega); rw [Int.toNat_natCast] at this; exact this
          have hadd : ∀ W, Sem.run Try.prog (Op.stringOp .add (ahead.extract 0 xn) (strOfNums r)) W = .ok (.string s) W := fun W => by rw [hs]; exact run_string_add_sum (P := Try.prog) W _ _ (by rw [take_size _ _ hle, strOfNums_size]; omega)
          obtain ⟨al2, hal2⟩ : ∃ al2, al2 = all + s.size := ⟨_, rfl⟩
          have hb9 : all + s.size ≤ 1000000000 := by omega
          have hb8 : al2 ≤ 1000000000 := by rw [hal2]; exact hb9
          have hall1 : wrap64 ((all : Int) + (s.size : Int)) = (al2 : Int) := by rw [hal2]; exact wrap_addN all s.size hb9
          have hall2 : IntKind.i64.wrap ((all : Int) + (s.size : Int)) = (al2 : Int) := by rw [hal2]; exact wrap_addK all s.size hb9
          have hall3 : (all : Int) + (s.size : Int) = (al2 : Int) := by omega
          have hall4 : wrap64 (al2 : Int) = (al2 : Int) := wrap_n al2 hb8
          obtain ⟨nn, hnn⟩ : ∃ nn, nn = shL (byL ahead) (byL s) := ⟨_, rfl⟩
          have hshc := hd_ (fun W => show Calls Try.prog 51 #[.string ahead, .string s] W (fun e w' => e = .returned (.int .i64 (nn : Int)) ∧ ∃ m, w' = W.drewN m) by rw [hnn]; exact P_shared_any ahead s (by omega) W)
          have hgo2 := hgo.out
          rw [← hnn, ← hal2] at hgo2
          have hfacts := hd_ (And.intro hlt (And.intro hgo2 (And.intro hT hsz)))
          clear hgo2
          have hI1 : (Value.int IntKind.i64 (wrap64 ((k : Int) + 1))) = .int .i64 ((k : Int) + 1) := congrArg _ (wrap_add1 k (by omega))
          have hm31 := hd_ (fun (ok : Bool) (err : Int) W (h : Rr W g vr B a2 err) => R_must_any g vr B a2 err ok 31 W h (by decide))
          have hm32 := hd_ (fun (ok : Bool) (err : Int) W (h : Rr W g vr B a2 err) => R_must_any g vr B a2 err ok 32 W h (by decide))
          have hm33 := hd_ (fun (ok : Bool) (err : Int) W (h : Rr W g vr B a2 err) => R_must_any g vr B a2 err ok 33 W h (by decide))
          have hfin := hd_ (show ∀ E, E = mE (mE (mE e2 (decide (s.size ≤ 65536) && decide (al2 ≤ 268435456)) 31) (decide (nn = xn)) 32) (decide (k = 0) || !lq s ahead) 33 → (E ≠ 0 → R.1 = E) ∧ (E = 0 → opR B (n - (k + 1)) (decide (k + 1 = 0)) s al2 (l ++ [s]) a2 = R ∧ al2 ≤ 268435456 ∧ s.size ≤ 65536) from fun E hE => by
            obtain ⟨_, ⟨h1, h2⟩, h3, _⟩ := hfacts.out
            rw [← hE] at h1 h2
            rw [h1] at h3
            refine ⟨fun h => by rw [if_pos h] at h3; rw [← h3], fun h => ?_⟩
            obtain ⟨h4, h5, h6⟩ := h2 h
            rw [if_neg (fun h7 => h7 h), h4] at h3
            exact ⟨by rw [decide_eq_false (by omega), hal2]; exact h3, h6, h5⟩)
          have hlb := hd_ (show (l.length + 1) * 16 ≤ 140737488355328 by have := hlkH.out; omega)
          clear hr ha2 he2 ht hgo hs hnn hT hi hsz hal2 hall hb9 hb8 hrl hrb ha1m hah hxm
          by_cases hA : s.size ≤ 65536
          · have hA' := hd_ hA
            have hAI : (s.size : Int) ≤ 65536 := by omega
            have hAd : decide ((s.size : Int) ≤ 65536) = true := decide_eq_true hAI
            go_upto_region 14 with (first
              | (go_at_call 70; (with_reducible refine hIc.out.mono ?_); rintro e w4 ⟨rfl, HP4⟩; have hX4 := hXH.out.post HP4; have hM4 := hMc.out w4 hX4.1)
              | (go_at_call 50; (with_reducible refine hM4.mono ?_); rintro e w5 ⟨rfl, HP5⟩; have hX5 := hX4.post HP5; have hT5 := hTc.out w5 hX5.1)
              | (go_at_call 28; (with_reducible refine hT5.mono ?_); rintro e w6 ⟨rfl, HP6⟩; have hX6 := hX5.post HP6; have hm31x := hm31.out (decide ((al2 : Int) ≤ 268435456)) _ _ hX6.1)
              | (go_at_call 50; (with_reducible refine hm31x.mono ?_); rintro e w7 ⟨rfl, HP7⟩; have hX7 := hX6.post HP7))
            refine wp_region_mid 8 _ _ rfl (by kernel_rfl) (by kernel_rfl) ?_
            simp only [List.take_succ_cons, List.take_zero]
            repeat (go_big_quiet_step ((go_at_call 51; exact Calls.quiet_of (hshc.out _))))
            refine wpQuiet_nil ?_
            intro W1 hW1
            obtain ⟨nq, rfl⟩ := hW1
            have hX8 := hX7.keep (below_drewN (Below.refl w7.heap.size w7) nq)
            generalize w7.drewN nq = W8 at *
            have hm32x := hm32.out ((nn : Int) == (xn : Int)) _ _ hX8.1
            go_wp2_with (go_at_call 50; (with_reducible refine hm32x.mono ?_); rintro e w9 ⟨rfl, HP9⟩; have hX9 := hX8.post HP9)
            refine MidK.go ?_
            repeat (go_big_quiet_step (fail))
            refine wpQuiet_nil ?_
            intro W2 hW2
            obtain ⟨nq2, rfl⟩ := hW2
            have hX10 := hX9.keep (below_drewN (Below.refl w9.heap.size w9) nq2)
            generalize w9.drewN nq2 = W10 at *
            by_cases hk0 : k = 0
            · have hkz : ((k : Int) == 0) = true := by rw [beq_iff_eq]; omega
              have hkd : decide (k = 0) = true := decide_eq_true hk0
              have hm33x := hm33.out true _ _ hX10.1
              clear hk0
              go_wp2_with (first
                | (go_at_call 50; (with_reducible refine hm33x.mono ?_); rintro e w11 ⟨rfl, HP11⟩; have hX11 := hX10.post HP11; have hX11r := hX11.keep (al1 (Below.refl w11.heap.size w11) (.cells #[.string s] 9)); have hrow := hX11r.2.1; have hbelow := hX11r.2.2.2)
                | (at_builtin; (refine app_rd w.heap.size rfl _ _ 28 9 (.string ⟨#[]⟩) 1 16 rfl Try.underlying28 infoS rfl (by omega) _ _ l.length 1 (l.map Value.string) [.string s] rfl rfl hrow (box_one _ _ _) (one_str s) hbelow.size (by omega) hlb.out ?_); intro v12 w12 HO12 hg12 hat12; have hX12 := hX11r.app HO12 hg12))
              go_roundw
              case rel =>
                have hz := hfin.out _ (show mE (mE (mE e2 (decide ((al2 : Int) ≤ 268435456)) 31) ((nn : Int) == (xn : Int)) 32) true 33 = mE (mE (mE e2 (decide (s.size ≤ 65536) && decide (al2 ≤ 268435456)) 31) (decide (nn = xn)) 32) (decide (k = 0) || !lq s ahead) 33 from by rw [hkd, nat_beq nn xn, all_big al2 s.size hA']; rfl)
                exact ⟨k + 1, s, al2, a2, _, l ++ [s], hfacts.out.1, rfl, rfl, by first | rfl | (rw [hI1]; rfl), hX12, by rw [List.length_append, hlkH.out]; rfl, hz.1, hz.2⟩
              case measure => first | (rw [hI1]; exact meas_k1t _ _ hfacts.out.1) | exact meas_k1t _ _ hfacts.out.1
            · have hkz : ((k : Int) == 0) = false := by rw [beq_eq_false_iff_ne]; omega
              have hkd : decide (k = 0) = false := decide_eq_false hk0
              have hm33x := hm33.out (!Op.bytesLess s.toList ahead.toList && !(s.toList == ahead.toList)) _ _ hX10.1
              clear hk0
              go_wp2_with (first
                | (go_at_call 50; (with_reducible refine hm33x.mono ?_); rintro e w11 ⟨rfl, HP11⟩; have hX11 := hX10.post HP11; have hX11r := hX11.keep (al1 (Below.refl w11.heap.size w11) (.cells #[.string s] 9)); have hrow := hX11r.2.1; have hbelow := hX11r.2.2.2)
                | (at_builtin; (refine app_rd w.heap.size rfl _ _ 28 9 (.string ⟨#[]⟩) 1 16 rfl Try.underlying28 infoS rfl (by omega) _ _ l.length 1 (l.map Value.string) [.string s] rfl rfl hrow (box_one _ _ _) (one_str s) hbelow.size (by omega) hlb.out ?_); intro v12 w12 HO12 hg12 hat12; have hX12 := hX11r.app HO12 hg12))
              go_roundw
              case rel =>
                have hz := hfin.out _ (show mE (mE (mE e2 (decide ((al2 : Int) ≤ 268435456)) 31) ((nn : Int) == (xn : Int)) 32) (!Op.bytesLess s.toList ahead.toList && !(s.toList == ahead.toList)) 33 = mE (mE (mE e2 (decide (s.size ≤ 65536) && decide (al2 ≤ 268435456)) 31) (decide (nn = xn)) 32) (decide (k = 0) || !lq s ahead) 33 from by rw [hkd, nat_beq nn xn, all_big al2 s.size hA', lq_not s ahead]; rfl)
                exact ⟨k + 1, s, al2, a2, _, l ++ [s], hfacts.out.1, rfl, rfl, by first | rfl | (rw [hI1]; rfl), hX12, by rw [List.length_append, hlkH.out]; rfl, hz.1, hz.2⟩
              case measure => first | (rw [hI1]; exact meas_k1t _ _ hfacts.out.1) | exact meas_k1t _ _ hfacts.out.1
          · have hA' := hd_ hA
            have hAI : ¬ (s.size : Int) ≤ 65536 := by omega
            have hAd : decide ((s.size : Int) ≤ 65536) = false := decide_eq_false hAI
            go_upto_region 14 with (first
              | (go_at_call 70; (with_reducible refine hIc.out.mono ?_); rintro e w4 ⟨rfl, HP4⟩; have hX4 := hXH.out.post HP4; have hM4 := hMc.out w4 hX4.1)
              | (go_at_call 50; (with_reducible refine hM4.mono ?_); rintro e w5 ⟨rfl, HP5⟩; have hX5 := hX4.post HP5; have hT5 := hTc.out w5 hX5.1)
              | (go_at_call 28; (with_reducible refine hT5.mono ?_); rintro e w6 ⟨rfl, HP6⟩; have hX6 := hX5.post HP6; have hm31x := hm31.out false _ _ hX6.1)
              | (go_at_call 50; (with_reducible refine hm31x.mono ?_); rintro e w7 ⟨rfl, HP7⟩; have hX7 := hX6.post HP7))
            refine wp_region_mid 8 _ _ rfl (by kernel_rfl) (by kernel_rfl) ?_
            simp only [List.take_succ_cons, List.take_zero]
            repeat (go_big_quiet_step ((go_at_call 51; exact Calls.quiet_of (hshc.out _))))
            refine wpQuiet_nil ?_
            intro W1 hW1
            obtain ⟨nq, rfl⟩ := hW1
            have hX8 := hX7.keep (below_drewN (Below.refl w7.heap.size w7) nq)
            generalize w7.drewN nq = W8 at *
            have hm32x := hm32.out ((nn : Int) == (xn : Int)) _ _ hX8.1
            go_wp2_with (go_at_call 50; (with_reducible refine hm32x.mono ?_); rintro e w9 ⟨rfl, HP9⟩; have hX9 := hX8.post HP9)
            refine MidK.go ?_
            repeat (go_big_quiet_step (fail))
            refine wpQuiet_nil ?_
            intro W2 hW2
            obtain ⟨nq2, rfl⟩ := hW2
            have hX10 := hX9.keep (below_drewN (Below.refl w9.heap.size w9) nq2)
            generalize w9.drewN nq2 = W10 at *
            by_cases hk0 : k = 0
            · have hkz : ((k : Int) == 0) = true := by rw [beq_iff_eq]; omega
              have hkd : decide (k = 0) = true := decide_eq_true hk0
              have hm33x := hm33.out true _ _ hX10.1
              clear hk0
              go_wp2_with (first
                | (go_at_call 50; (with_reducible refine hm33x.mono ?_); rintro e w11 ⟨rfl, HP11⟩; have hX11 := hX10.post HP11; have hX11r := hX11.keep (al1 (Below.refl w11.heap.size w11) (.cells #[.string s] 9)); have hrow := hX11r.2.1; have hbelow := hX11r.2.2.2)
                | (at_builtin; (refine app_rd w.heap.size rfl _ _ 28 9 (.string ⟨#[]⟩) 1 16 rfl Try.underlying28 infoS rfl (by omega) _ _ l.length 1 (l.map Value.string) [.string s] rfl rfl hrow (box_one _ _ _) (one_str s) hbelow.size (by omega) hlb.out ?_); intro v12 w12 HO12 hg12 hat12; have hX12 := hX11r.app HO12 hg12))
              go_roundw
              case rel =>
                have hz := hfin.out _ (show mE (mE (mE e2 false 31) ((nn : Int) == (xn : Int)) 32) true 33 = mE (mE (mE e2 (decide (s.size ≤ 65536) && decide (al2 ≤ 268435456)) 31) (decide (nn = xn)) 32) (decide (k = 0) || !lq s ahead) 33 from by rw [all_sml al2 s.size hA', hkd, nat_beq nn xn]; rfl)
                exact ⟨k + 1, s, al2, a2, _, l ++ [s], hfacts.out.1, rfl, rfl, by first | rfl | (rw [hI1]; rfl), hX12, by rw [List.length_append, hlkH.out]; rfl, hz.1, hz.2⟩
              case measure => first | (rw [hI1]; exact meas_k1t _ _ hfacts.out.1) | exact meas_k1t _ _ hfacts.out.1
            · have hkz : ((k : Int) == 0) = false := by rw [beq_eq_false_iff_ne]; omega
              have hkd : decide (k = 0) = false := decide_eq_false hk0
              have hm33x := hm33.out (!Op.bytesLess s.toList ahead.toList && !(s.toList == ahead.toList)) _ _ hX10.1
              clear hk0
              go_wp2_with (first
                | (go_at_call 50; (with_reducible refine hm33x.mono ?_); rintro e w11 ⟨rfl, HP11⟩; have hX11 := hX10.post HP11; have hX11r := hX11.keep (al1 (Below.refl w11.heap.size w11) (.cells #[.string s] 9)); have hrow := hX11r.2.1; have hbelow := hX11r.2.2.2)
                | (at_builtin; (refine app_rd w.heap.size rfl _ _ 28 9 (.string ⟨#[]⟩) 1 16 rfl Try.underlying28 infoS rfl (by omega) _ _ l.length 1 (l.map Value.string) [.string s] rfl rfl hrow (box_one _ _ _) (one_str s) hbelow.size (by omega) hlb.out ?_); intro v12 w12 HO12 hg12 hat12; have hX12 := hX11r.app HO12 hg12))
              go_roundw
              case rel =>
                have hz := hfin.out _ (show mE (mE (mE e2 false 31) ((nn : Int) == (xn : Int)) 32) (!Op.bytesLess s.toList ahead.toList && !(s.toList == ahead.toList)) 33 = mE (mE (mE e2 (decide (s.size ≤ 65536) && decide (al2 ≤ 268435456)) 31) (decide (nn = xn)) 32) (decide (k = 0) || !lq s ahead) 33 from by rw [all_sml al2 s.size hA', hkd, nat_beq nn xn, lq_not s ahead]; rfl)
                exact ⟨k + 1, s, al2, a2, _, l ++ [s], hfacts.out.1, rfl, rfl, by first | rfl | (rw [hI1]; rfl), hX12, by rw [List.length_append, hlkH.out]; rfl, hz.1, hz.2⟩
              case measure => first | (rw [hI1]; exact meas_k1t _ _ hfacts.out.1) | exact meas_k1t _ _ hfacts.out.1
        · have hopS := opS_brk (first := decide (k = 0)) (all := all) hi hb
          obtain ⟨em, hem⟩ : ∃ em, em = mE e1 (decide ((xn : Int) ≤ (ahead.size : Int))) 32 := ⟨_, rfl⟩
          rw [← hem] at hb hopS
          rw [hopS, if_pos hb] at hT
          have hR1 : R.1 = em := by rw [← hT]
          have hemB : (em == 0) = false := by rw [beq_eq_false_iff_ne]; exact hb
          have hMc := hd_ (fun W (h : Rr W g vr B a1 e1) => show Calls Try.prog 50 #[.pointer (some ⟨g, 0, none⟩), .bool (decide (xn ≤ ahead.size)), .int .i64 32] W (fun en w' => en = .returned (.bool false) ∧ RrPost W g vr B a1 em w') from by have := R_must_any g vr B a1 e1 (decide ((xn : Int) ≤ (ahead.size : Int))) 32 W h (by decide); rw [← hem, hemB, decide_nat] at this; exact this)
          obtain ⟨hx1, _⟩ := hExit.out a1 em l (by rw [hR1, rEnd_ne hb, rEnd_ne hb]) (fun h => absurd h hb)
          rw [rEnd_ne hb] at hx1
          obtain rfl := hx1 hb
          have hEnd := hd_ (fun W (h : Rr W g vr B a1 em) => show Calls Try.prog 46 #[.pointer (some ⟨g, 0, none⟩)] W (fun e w' => e = .returned (.int .i64 em) ∧ Below W.heap.size W w') from by have := R_End_any g vr B a1 em W h; rw [rEnd_ne hb] at this; exact this)
          clear hopS hT hem hi hExit
          go_wp2_with (first
            | (go_at_call 70; (with_reducible refine hIc.out.mono ?_); rintro e w4 ⟨rfl, HP4⟩; have hX4 := hXH.out.post HP4; have hM4 := hMc.out w4 hX4.1)
            | (go_at_call 50; (with_reducible refine hM4.mono ?_); rintro e w5 ⟨rfl, HP5⟩; have hX5 := hX4.post HP5; have hE5 := hEnd.out w5 hX5.1)
            | (go_at_call 46; (with_reducible refine hE5.mono ?_); rintro e w6 ⟨rfl, HB6⟩))
          go_ret2
          exact ⟨_, rfl, rds_nil _, bel_trans hX5.2.2.2 HB6⟩
      · have h0B : (err == 0) = false := by rw [beq_eq_false_iff_ne]; exact h0
        have hEnd := hd_ (R_End_any g vr B a err wr hXH.out.1)
        rw [rEnd_ne h0] at hEnd
        obtain ⟨hx1, _⟩ := hExit.out a err l (by rw [hbad h0, rEnd_ne h0, rEnd_ne h0]) (fun h => absurd h h0)
        rw [rEnd_ne h0] at hx1
        obtain rfl := hx1 h0
        go_wp2_with (go_at_call 46; (with_reducible refine hEnd.out.mono ?_); rintro e w4 ⟨rfl, HB4⟩)
        go_ret2
        exact ⟨_, rfl, rds_nil _, bel_trans hXH.out.2.2.2 HB4⟩
    · obtain rfl : k = n := by omega
      have hEnd := hd_ (R_End_any g vr B a err wr hXH.out.1)
      have hx := hExit.out a err l (by
        by_cases h0 : err = 0
        · obtain ⟨h1, _⟩ := hgood h0
          rw [Nat.sub_self] at h1
          rw [← h1, h0]; rfl
        · rw [hbad h0, rEnd_ne h0, rEnd_ne h0]) (fun h0 => by
          obtain ⟨h1, _⟩ := hgood h0
          rw [Nat.sub_self] at h1
          rw [← h1]; rfl)
      generalize rEnd B a err = E at *
      have hxH := hd_ hx
      clear hx hbad hgood
      by_cases hE : E = 0
      · subst hE
        obtain rfl := hxH.out.2 rfl
        go_wp2_with (go_at_call 46; (with_reducible refine hEnd.out.mono ?_); rintro e w4 ⟨rfl, HB4⟩)
        go_ret2
        exact ⟨_, rfl, (rds_row hXH.out.2.1).keep HB4, bel_trans hXH.out.2.2.2 HB4⟩
      · obtain rfl := hxH.out.1 hE
        have hEB : (E == 0) = false := by rw [beq_eq_false_iff_ne]; exact hE
        go_wp2_with (go_at_call 46; (with_reducible refine hEnd.out.mono ?_); rintro e w4 ⟨rfl, HB4⟩)
        go_ret2
        exact ⟨_, rfl, rds_nil _, bel_trans hXH.out.2.2.2 HB4⟩
end Go.Proofs.Ytlaeiipiboabaaa
