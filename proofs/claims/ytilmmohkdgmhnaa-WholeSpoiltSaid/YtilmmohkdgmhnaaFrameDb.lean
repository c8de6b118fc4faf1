import Derived.Test.YtilmmohkdgmhnaaFrameDa
namespace Go.Proofs.Ytilmmohkdgmhnaa
open Go.RowKit
set_option maxRecDepth 100000
set_option linter.unusedVariables false
def mayB (m : Int) (f : Int × List Int) : Bool := decide (1 ≤ f.1 ∧ f.1 ≤ 255 ∧ f.2.length ≤ 1048576) && decide ((f.2.length : Int) ≤ m)
def laidB (fs : List (Int × List Int)) : List Int := (fs.map fun f => encB f.1 f.2).flatten
theorem laidB_append (a b : List (Int × List Int)) : laidB (a ++ b) = laidB a ++ laidB b := by simp [laidB]
theorem laidB_one (f : Int × List Int) : laidB [f] = encB f.1 f.2 := by simp [laidB]
theorem laidB_length : ∀ fs : List (Int × List Int), (laidB fs).length = cntN fs
  | [] => rfl
  | f :: fs => by
    have ih := laidB_length fs
    have e : laidB (f :: fs) = encB f.1 f.2 ++ laidB fs := by simp [laidB]
    rw [e, List.length_append, encB_length, ih]
    simp only [cntN, List.map_cons, List.sum_cons]
theorem cnt_filter (p : Int × List Int → Bool) : ∀ fs : List (Int × List Int), cntN (fs.filter p) ≤ cntN fs
  | [] => Nat.le_refl _
  | f :: fs => by
    have ih := cnt_filter p fs
    rw [List.filter_cons]
    split
    · simp only [cntN, List.map_cons, List.sum_cons] at ih ⊢; omega
    · simp only [cntN, List.map_cons, List.sum_cons] at ih ⊢; omega
theorem length_cnt : ∀ fs : List (Int × List Int), fs.length * 14 ≤ cntN fs
  | [] => Nat.le_refl _
  | f :: fs => by
    have ih := length_cnt fs
    simp only [cntN, List.map_cons, List.sum_cons, List.length_cons] at ih ⊢
    omega
theorem filter_take {p : Int × List Int → Bool} {fs : List (Int × List Int)} {k : Nat} (h : k < fs.length) : (fs.take (k + 1)).filter p = (fs.take k).filter p ++ (if p (fs.getD k (0, [])) then [fs.getD k (0, [])] else []) := by
  rw [List.take_add_one, List.getElem?_eq_getElem h, List.filter_append, List.getD_eq_getElem?_getD, List.getElem?_eq_getElem h]
  show _ ++ [fs[k]].filter p = _ ++ if p fs[k] = true then [fs[k]] else []
  cases hp : p fs[k] <;> simp [hp]
def LaidRet (w : World) (m : Int) (fs : List (Int × List Int)) (e : Ending) (w' : World) : Prop :=
  ∃ bv sv, e = .returned (.tuple #[bv, sv, .bool true]) ∧ Own w' w.heap.size 5 bv (laidB (fs.filter (mayB m))) ∧ FrI w w' w.heap.size sv (fs.filter (mayB m)) ∧ Below w.heap.size w w'
set_option maxHeartbeats 4000000 in
theorem laid_any (lv : Value) (fs : List (Int × List Int)) (m : Int) (w : World) (HR : RdF w w lv fs) (hm : m ≤ 1048576) (hbd : cntN fs ≤ 35184372088832) :
    Calls Try.prog 42 #[lv, .int .i64 m] w (LaidRet w m fs) := by
  have hsz := HR.size
  have hlen := HR.len
  have HBD := hd_ hbd
  clear hbd
  go_enter Try.func42, Try.ntmps42
  go_wp2
  go_loopw [7, 8, 9] (fun vb vs vi wr => ∃ k : Nat, k ≤ fs.length ∧ vi = .int .i64 k ∧ Own wr w.heap.size 5 vb (laidB ((fs.take k).filter (mayB m))) ∧ FrI w wr w.heap.size vs ((fs.take k).filter (mayB m)) ∧ Below w.heap.size w wr) (fun _ _ i _ => fs.length - (intOf i).toNat)
  case atStart => exact ⟨0, Nat.zero_le _, rfl, own_nil8 _ _ _, FrI.nil _ _ _, Below.refl _ _⟩
  case round =>
    obtain ⟨k, hk, rfl, HO, HF, HB⟩ := hrel
    by_cases hlt : k < fs.length
    · obtain ⟨bl, off, A, c, i1, p1, q1, r1⟩ := HR.at k hlt
      have hft := filter_take (p := mayB m) hlt
      have hcl : cntN ((fs.take k).filter (mayB m)) + ((fs.getD k (0, [])).2.length + 14) ≤ 35184372088832 := by
        have h1 := cnt_filter (mayB m) (fs.take k)
        have h2 := cnt_take hlt
        have h3 := cnt_le fs (k + 1)
        have h4 := HBD.out
        omega
      have hle0 := length_cnt ((fs.take k).filter (mayB m))
      have hLB := laidB_length ((fs.take k).filter (mayB m))
      have hl1 : Hid ((laidB ((fs.take k).filter (mayB m))).length + ((fs.getD k (0, [])).2.length + 14) ≤ 140737488355328) := hd_ (by omega)
      have hl2 : Hid ((((fs.take k).filter (mayB m)).length + 1) * 32 ≤ 140737488355328) := hd_ (by omega)
      have HFT := hd_ hft
      clear hft hcl hle0 hLB HR
      generalize fs.getD k (0, []) = f at *
      obtain ⟨K, body⟩ := f
      simp only at p1 q1 r1
      have hb63 := r1.lt63
      have p2 := cell_keep HB p1
      have q2 := cell_keep HB q1
      generalize (fs.take k).filter (mayB m) = some at *
      by_cases hmay : 1 ≤ K ∧ K ≤ 255 ∧ body.length ≤ 1048576
      · by_cases hle : (body.length : Int) ≤ m
        · have hmb : mayB m (K, body) = true := by unfold mayB; rw [decide_eq_true hmay, decide_eq_true hle]; rfl
          have HFT2 : Hid ((fs.take (k + 1)).filter (mayB m) = some ++ [(K, body)]) := hd_ (by rw [HFT.out, if_pos hmb])
          have e1 : encE K body = 0 := by unfold encE; rw [if_neg (by omega), if_neg (by omega)]
          have e2 : encL K body = encB K body := by unfold encL; rw [if_neg (by omega), if_neg (by omega)]
          go_wp2_with (go_at_call 34; refine (may_any K A body.length c hb63 _).mono ?_; rintro e w2 ⟨rfl, HB2⟩; rw [decide_eq_true hmay]; have p3 := cell_keep HB2 p2; have q3 := cell_keep HB2 q2)
          refine (frame_Encode_any K _ body _ (r1.keep (bel_trans HB HB2))).mono ?_
          rintro e w3 ⟨v3, rfl, HO3, HB3⟩
          rw [e1]
          rw [e2] at HO3
          have hK3 := bel_trans HB2 HB3
          have hB3 := bel_trans HB hK3
          have HOb := HO.keep hK3
          have HFb := HF.keep hK3
          have hl1' : Hid ((laidB some).length + (encB K body).length ≤ 140737488355328) := hd_ (by have := hl1.out; rw [encB_length]; exact this)
          clear HO HF p2 q2 p3 q3 e1 e2 hl1
          go_upto_region 11 with (at_builtin; (refine app_bytes (w0 := w) w.heap.size rfl _ _ 24 5 rfl Try.underlying24 info8 u7 v3 (laidB some) (encB K body) rfl rfl HOb HO3.rd hB3 hB3.size hl1'.out ?_); intro v4 w4 HO4 HB4 hg4 hat4)
          have HF4 := HFb.grown HOb.2 hg4 (by decide)
          have p4 := cell_keep HB4 p1
          have q4 := cell_keep HB4 q1
          have hal := al1 (Below.refl w4.heap.size w4) (.cells #[.int .i64 K, .slice A body.length c] 28)
          have hpair : RdF w (w4.alloc (.cells #[.int .i64 K, .slice A body.length c] 28)) (.slice (Option.some ⟨w4.heap.size, 0, none⟩) 1 1) [(K, body)] :=
            ⟨[.int .i64 K, .slice A body.length c], ⟨rfl, fun i hi => by
              obtain rfl : i = 0 := by simpa using hi
              exact ⟨rfl, _, rfl, r1⟩⟩, box_pair w4 _ _ _⟩
          have HF5 := HF4.keep hal
          have HO5 := HO4.keep hal
          have hB5 := bel_trans HB4 hal
          go_wp2_with (at_builtin; (refine app_fri (w0 := w) w.heap.size rfl _ _ rfl u8 _ some [(K, body)] rfl rfl HF5 hpair hB5 hB5.size hl2.out ?_); intro v6 w6 HF6 HB6 hg6 hk6)
          go_roundw
          case rel =>
            refine ⟨k + 1, by omega, by go_num, ?_, by rw [HFT2.out]; exact HF6, HB6⟩
            rw [HFT2.out, laidB_append, laidB_one]
            obtain ⟨vs, _, h2⟩ := HF5
            exact HO5.kept hg6 (own_types HO5.2 h2 (by decide))
          case measure => (simp [intOf]; try omega)
        · have hmb : mayB m (K, body) = false := by unfold mayB; rw [decide_eq_false hle]; simp
          have HFT2 : Hid ((fs.take (k + 1)).filter (mayB m) = some) := hd_ (by rw [HFT.out, if_neg (by rw [hmb]; simp), List.append_nil])
          have hle' : m < (body.length : Int) := by omega
          go_wp2_with (go_at_call 34; refine (may_any K A body.length c hb63 _).mono ?_; rintro e w2 ⟨rfl, HB2⟩; rw [decide_eq_true hmay]; have p3 := cell_keep HB2 p2; have q3 := cell_keep HB2 q2)
          go_roundw
          case rel => exact ⟨k + 1, by omega, by go_num, by rw [HFT2.out]; exact HO.keep HB2, by rw [HFT2.out]; exact HF.keep HB2, bel_trans HB HB2⟩
          case measure => (simp [intOf]; try omega)
      · have hmb : mayB m (K, body) = false := by unfold mayB; rw [decide_eq_false hmay]; rfl
        have HFT2 : Hid ((fs.take (k + 1)).filter (mayB m) = some) := hd_ (by rw [HFT.out, if_neg (by rw [hmb]; simp), List.append_nil])
        go_wp2_with (go_at_call 34; refine (may_any K A body.length c hb63 _).mono ?_; rintro e w2 ⟨rfl, HB2⟩; rw [decide_eq_false hmay])
        go_roundw
        case rel => exact ⟨k + 1, by omega, by go_num, by rw [HFT2.out]; exact HO.keep HB2, by rw [HFT2.out]; exact HF.keep HB2, bel_trans HB HB2⟩
        case measure => (simp [intOf]; try omega)
    · obtain rfl : k = fs.length := by omega
      rw [List.take_length] at HO HF
      go_wp2
      go_ret3
      exact ⟨_, _, rfl, HO, HF, HB⟩
end Go.Proofs.Ytilmmohkdgmhnaa
