import Derived.Test.YtcaljnlicohkaaaShaC
namespace Go.Proofs.Ytcaljnlicohkaaa
open Go.RowKit
set_option maxRecDepth 100000
set_option linter.unusedVariables false
theorem strOfNums_append (a b : List Int) : strOfNums a ++ strOfNums b = strOfNums (a ++ b) := by
  apply ByteArray.ext
  rw [ByteArray.data_append]
  apply Array.toList_inj.1
  rw [Array.toList_append, strOfNums_data, strOfNums_data, strOfNums_data]
  simp
theorem strOfNums_size (a : List Int) : (strOfNums a).size = a.length := by
  have := congrArg List.length (strOfNums_data a)
  simp at this
  exact this
theorem str_add (a b : List Int) (h : a.length + b.length ≤ 9223372036854775807) (W : World) : Sem.run Try.prog (Op.stringOp .add (strOfNums a) (strOfNums b)) W = .ok (.string (strOfNums (a ++ b))) W := by
  rw [← strOfNums_append]
  exact run_string_add_sum (P := Try.prog) W _ _ (by rw [strOfNums_size, strOfNums_size]; exact h)
theorem hexS_cut (W : World) (q : Int) (h0 : 0 ≤ q) (h1 : q < 16) : Sem.run Try.prog (Instr.slice 9 (.string ⟨#[48, 49, 50, 51, 52, 53, 54, 55, 56, 57, 97, 98, 99, 100, 101, 102]⟩) (some (.int .u8 q)) (some (.int .u8 (q + 1))) none) W = .ok (.string (strOfNums [hexN q])) W := by
  obtain ⟨n, rfl⟩ := Int.eq_ofNat_of_zero_le h0
  have hn : n < 16 := by omega
  have : n = 0 ∨ n = 1 ∨ n = 2 ∨ n = 3 ∨ n = 4 ∨ n = 5 ∨ n = 6 ∨ n = 7 ∨ n = 8 ∨ n = 9 ∨ n = 10 ∨ n = 11 ∨ n = 12 ∨ n = 13 ∨ n = 14 ∨ n = 15 := by omega
  rcases this with rfl | rfl | rfl | rfl | rfl | rfl | rfl | rfl | rfl | rfl | rfl | rfl | rfl | rfl | rfl | rfl <;> (rw [run_slice_string (P := Try.prog) W 9 _ .u8 .u8 _ _ Try.underlying9 (by decide) (by decide) (by decide)]; rfl)
set_option maxHeartbeats 1000000 in
theorem ref_Print_any (ds : List Int) (hd : ds.length = 32) (hb : IsBytes ds) (w : World) : Calls Try.prog 14 #[.agg (u8A ds)] w fun e w' => e = .returned (.string (strOfNums (hexL ds))) ∧ Below w.heap.size w w' := by
  have hbx := Box.new w (u8A ds) 22
  have hB0 := al1 (Below.refl w.heap.size w) (.cells (u8A ds) 22)
  have hcz : (u8A ds).size = 32 := by rw [u8A_size, hd]
  have hcs := u8A_cell ds
  generalize u8A ds = cs at *
  have HCS := hd_ hcs
  clear hcs
  have hz : Hid ((⟨#[]⟩ : ByteArray) = strOfNums (hexL (ds.take 0))) := hd_ rfl
  go_enter Try.func14, Try.ntmps14
  go_upto_region 1 with fail
  generalize w.alloc (.cells cs 22) = W0 at *
  go_wp2
  go_loopw [3, 4] (fun vb vi wr => ∃ k : Nat, k ≤ 32 ∧ vi = .int .i64 k ∧ vb = .string (strOfNums (hexL (ds.take k))) ∧ Below w.heap.size w wr ∧ Box wr w.heap.size 22 cs) (fun _ i _ => 32 - (intOf i).toNat)
  case atStart => exact ⟨0, Nat.zero_le _, rfl, by rw [← hz.out], hB0, hbx⟩
  case round =>
    obtain ⟨k, hk, rfl, rfl, hbel, hbox⟩ := hrel
    by_cases hlt : k < 32
    · have hE := hd_ (hexL_take (ds := ds) (k := k) (by omega))
      obtain ⟨p0, p1⟩ := byte_at hb (show k < ds.length by omega)
      have hcell := hbox.cell k (HCS.out k (by omega))
      generalize ds.getD k 0 = x at *
      have hq1 : ∀ W, Sem.run Try.prog (Instr.slice 9 (.string ⟨#[48, 49, 50, 51, 52, 53, 54, 55, 56, 57, 97, 98, 99, 100, 101, 102]⟩) (some (.int .u8 (x / 16))) (some (.int .u8 (x / 16 + 1))) none) W = .ok (.string (strOfNums [hexN (x / 16)])) W := fun W => hexS_cut W _ (by omega) (by omega)
      have hq2 : ∀ W, Sem.run Try.prog (Instr.slice 9 (.string ⟨#[48, 49, 50, 51, 52, 53, 54, 55, 56, 57, 97, 98, 99, 100, 101, 102]⟩) (some (.int .u8 (x % 16))) (some (.int .u8 (x % 16 + 1))) none) W = .ok (.string (strOfNums [hexN (x % 16)])) W := fun W => hexS_cut W _ (by omega) (by omega)
      have hap1 : ∀ W, Sem.run Try.prog (Op.stringOp .add (strOfNums [hexN (x / 16)]) (strOfNums [hexN (x % 16)])) W = .ok (.string (strOfNums [hexN (x / 16), hexN (x % 16)])) W := str_add _ _ (show 2 ≤ _ by decide)
      have hap2 : ∀ W, Sem.run Try.prog (Op.stringOp .add (strOfNums (hexL (ds.take k))) (strOfNums [hexN (x / 16), hexN (x % 16)])) W = .ok (.string (strOfNums (hexL (ds.take (k + 1))))) W := by
        rw [hE.out]
        exact str_add _ _ (by rw [hexL_length, List.length_take]; show 2 * min k ds.length + 2 ≤ _; omega)
      generalize strOfNums (hexL (ds.take k)) = S at *
      generalize hS1 : strOfNums (hexL (ds.take (k + 1))) = S1 at *
      have HS1 := hd_ hS1
      clear hS1 hE
      generalize strOfNums [hexN (x / 16)] = SA at *
      generalize strOfNums [hexN (x % 16)] = SB at *
      generalize strOfNums [hexN (x / 16), hexN (x % 16)] = SC at *
      have wr1 : IntKind.u8.wrap (x.tdiv 16) = x / 16 := by rw [Int.tdiv_eq_ediv_of_nonneg p0, IntKind.wrap_u8]; omega
      have wr2 : x.tmod 16 = x % 16 := Int.tmod_eq_emod_of_nonneg p0
      have wr3 : IntKind.u8.wrap (x / 16 + 1) = x / 16 + 1 := by rw [IntKind.wrap_u8]; omega
      have wr4 : IntKind.u8.wrap (x % 16 + 1) = x % 16 + 1 := by rw [IntKind.wrap_u8]; omega
      go_upto_region 5 with fail
      go_quiet (fail)
      go_wp2
      have hbn : Below w.heap.size w (wr.drewN nq) := below_drewN hbel nq
      have hxn : Box (wr.drewN nq) w.heap.size 22 cs := hbox.keep (below_drewN (Below.refl _ _) nq)
      go_roundw
      case rel => exact ⟨k + 1, by omega, by go_num, by rw [HS1.out], hbn, hxn⟩
      case measure => (simp [intOf]; try omega)
    · obtain rfl : k = 32 := by omega
      have hT : ds.take 32 = ds := List.take_of_length_le (by omega)
      rw [hT]
      go_wp2
      go_ret
      exact ⟨rfl, hbel⟩
/-- the digit that was found below j -/
def vAt (c : Int) (j : Nat) : Int := if 0 ≤ digN c ∧ digN c < (j : Int) then digN c else -1
theorem vAt_16 {c : Int} : vAt c 16 = if digN c < 0 then -1 else digN c := by
  have := digN_hi c
  unfold vAt
  by_cases h : digN c < 0
  · rw [if_pos h, if_neg (by omega)]
  · rw [if_neg h, if_pos (by omega)]
theorem hexN_digN {c : Int} {j : Nat} (hj : j < 16) (hc : 0 ≤ c) : hexN (j : Int) = c ↔ digN c = (j : Int) := by
  unfold hexN digN
  constructor
  · intro h
    subst h
    split
    · rw [if_pos (by omega)]; omega
    · rw [if_neg (by omega), if_pos (by omega)]; omega
  · intro h
    split at h
    · rw [if_pos (by omega)]; omega
    · split at h
      · rw [if_neg (by omega)]; omega
      · omega
theorem vAt_yes {c : Int} {j : Nat} (hj : j < 16) (hc : 0 ≤ c) (h : hexN (j : Int) = c) : vAt c (j + 1) = (j : Int) := by
  have := (hexN_digN hj hc).1 h
  unfold vAt
  rw [if_pos (by omega), this]
theorem vAt_no {c : Int} {j : Nat} (hj : j < 16) (hc : 0 ≤ c) (h : ¬ hexN (j : Int) = c) : vAt c (j + 1) = vAt c j := by
  have := (not_congr (hexN_digN hj hc)).1 h
  unfold vAt
  by_cases h1 : 0 ≤ digN c ∧ digN c < (j : Int)
  · rw [if_pos h1, if_pos (by omega)]
  · rw [if_neg h1, if_neg (by omega)]
theorem infoD2 : (Try.prog.info? 22).map (·.size) = some 32 := by kernel_rfl
set_option maxHeartbeats 2000000 in
theorem ref_Parse_any (s : ByteArray) (hs : s.size ≤ 140737488351232) (w : World) : Calls Try.prog 15 #[.string s] w (ParRet w (byL s)) := by
  have hTl := byL_length s
  have hTb := byL_bytes s
  have hix : ∀ j, j < s.size → ∀ W, Sem.run Try.prog (Instr.index 9 (.string s) (.int .i64 (j : Int))) W = .ok (.int .u8 ((byL s).getD j 0)) W := fun j hj W => byL_at W s .i64 j (by rw [hTl]; exact hj)
  generalize byL s = T at *
  have HTL := hd_ hTl
  have HIX := hd_ hix
  clear hTl hix
  go_enter Try.func15, Try.ntmps15
  go_upto_region 2 with fail
  have hb1 : Box ((w.alloc (.cells #[.int .u8 0, .int .u8 0, .int .u8 0, .int .u8 0, .int .u8 0, .int .u8 0, .int .u8 0, .int .u8 0, .int .u8 0, .int .u8 0, .int .u8 0, .int .u8 0, .int .u8 0, .int .u8 0, .int .u8 0, .int .u8 0, .int .u8 0, .int .u8 0, .int .u8 0, .int .u8 0, .int .u8 0, .int .u8 0, .int .u8 0, .int .u8 0, .int .u8 0, .int .u8 0, .int .u8 0, .int .u8 0, .int .u8 0, .int .u8 0, .int .u8 0, .int .u8 0] 22)).alloc (.cells #[.int .u8 0, .int .u8 0, .int .u8 0, .int .u8 0, .int .u8 0, .int .u8 0, .int .u8 0, .int .u8 0, .int .u8 0, .int .u8 0, .int .u8 0, .int .u8 0, .int .u8 0, .int .u8 0, .int .u8 0, .int .u8 0, .int .u8 0, .int .u8 0, .int .u8 0, .int .u8 0, .int .u8 0, .int .u8 0, .int .u8 0, .int .u8 0, .int .u8 0, .int .u8 0, .int .u8 0, .int .u8 0, .int .u8 0, .int .u8 0, .int .u8 0, .int .u8 0] 22)) w.heap.size 22 (u8A (List.replicate 32 0)) := (Box.new w #[.int .u8 0, .int .u8 0, .int .u8 0, .int .u8 0, .int .u8 0, .int .u8 0, .int .u8 0, .int .u8 0, .int .u8 0, .int .u8 0, .int .u8 0, .int .u8 0, .int .u8 0, .int .u8 0, .int .u8 0, .int .u8 0, .int .u8 0, .int .u8 0, .int .u8 0, .int .u8 0, .int .u8 0, .int .u8 0, .int .u8 0, .int .u8 0, .int .u8 0, .int .u8 0, .int .u8 0, .int .u8 0, .int .u8 0, .int .u8 0, .int .u8 0, .int .u8 0] 22).keep (al1 (Below.refl _ _) _)
  have hb2 : Box ((w.alloc (.cells #[.int .u8 0, .int .u8 0, .int .u8 0, .int .u8 0, .int .u8 0, .int .u8 0, .int .u8 0, .int .u8 0, .int .u8 0, .int .u8 0, .int .u8 0, .int .u8 0, .int .u8 0, .int .u8 0, .int .u8 0, .int .u8 0, .int .u8 0, .int .u8 0, .int .u8 0, .int .u8 0, .int .u8 0, .int .u8 0, .int .u8 0, .int .u8 0, .int .u8 0, .int .u8 0, .int .u8 0, .int .u8 0, .int .u8 0, .int .u8 0, .int .u8 0, .int .u8 0] 22)).alloc (.cells #[.int .u8 0, .int .u8 0, .int .u8 0, .int .u8 0, .int .u8 0, .int .u8 0, .int .u8 0, .int .u8 0, .int .u8 0, .int .u8 0, .int .u8 0, .int .u8 0, .int .u8 0, .int .u8 0, .int .u8 0, .int .u8 0, .int .u8 0, .int .u8 0, .int .u8 0, .int .u8 0, .int .u8 0, .int .u8 0, .int .u8 0, .int .u8 0, .int .u8 0, .int .u8 0, .int .u8 0, .int .u8 0, .int .u8 0, .int .u8 0, .int .u8 0, .int .u8 0] 22)) (w.alloc (.cells #[.int .u8 0, .int .u8 0, .int .u8 0, .int .u8 0, .int .u8 0, .int .u8 0, .int .u8 0, .int .u8 0, .int .u8 0, .int .u8 0, .int .u8 0, .int .u8 0, .int .u8 0, .int .u8 0, .int .u8 0, .int .u8 0, .int .u8 0, .int .u8 0, .int .u8 0, .int .u8 0, .int .u8 0, .int .u8 0, .int .u8 0, .int .u8 0, .int .u8 0, .int .u8 0, .int .u8 0, .int .u8 0, .int .u8 0, .int .u8 0, .int .u8 0, .int .u8 0] 22)).heap.size 22 (u8A (digD T 0)) := Box.new _ #[.int .u8 0, .int .u8 0, .int .u8 0, .int .u8 0, .int .u8 0, .int .u8 0, .int .u8 0, .int .u8 0, .int .u8 0, .int .u8 0, .int .u8 0, .int .u8 0, .int .u8 0, .int .u8 0, .int .u8 0, .int .u8 0, .int .u8 0, .int .u8 0, .int .u8 0, .int .u8 0, .int .u8 0, .int .u8 0, .int .u8 0, .int .u8 0, .int .u8 0, .int .u8 0, .int .u8 0, .int .u8 0, .int .u8 0, .int .u8 0, .int .u8 0, .int .u8 0] 22
  have hB0 := al1 (al1 (Below.refl w.heap.size w) (.cells #[.int .u8 0, .int .u8 0, .int .u8 0, .int .u8 0, .int .u8 0, .int .u8 0, .int .u8 0, .int .u8 0, .int .u8 0, .int .u8 0, .int .u8 0, .int .u8 0, .int .u8 0, .int .u8 0, .int .u8 0, .int .u8 0, .int .u8 0, .int .u8 0, .int .u8 0, .int .u8 0, .int .u8 0, .int .u8 0, .int .u8 0, .int .u8 0, .int .u8 0, .int .u8 0, .int .u8 0, .int .u8 0, .int .u8 0, .int .u8 0, .int .u8 0, .int .u8 0] 22)) (.cells #[.int .u8 0, .int .u8 0, .int .u8 0, .int .u8 0, .int .u8 0, .int .u8 0, .int .u8 0, .int .u8 0, .int .u8 0, .int .u8 0, .int .u8 0, .int .u8 0, .int .u8 0, .int .u8 0, .int .u8 0, .int .u8 0, .int .u8 0, .int .u8 0, .int .u8 0, .int .u8 0, .int .u8 0, .int .u8 0, .int .u8 0, .int .u8 0, .int .u8 0, .int .u8 0, .int .u8 0, .int .u8 0, .int .u8 0, .int .u8 0, .int .u8 0, .int .u8 0] 22)
  rw [World.size_alloc] at hb2
  generalize (w.alloc (.cells #[.int .u8 0, .int .u8 0, .int .u8 0, .int .u8 0, .int .u8 0, .int .u8 0, .int .u8 0, .int .u8 0, .int .u8 0, .int .u8 0, .int .u8 0, .int .u8 0, .int .u8 0, .int .u8 0, .int .u8 0, .int .u8 0, .int .u8 0, .int .u8 0, .int .u8 0, .int .u8 0, .int .u8 0, .int .u8 0, .int .u8 0, .int .u8 0, .int .u8 0, .int .u8 0, .int .u8 0, .int .u8 0, .int .u8 0, .int .u8 0, .int .u8 0, .int .u8 0] 22)).alloc (.cells #[.int .u8 0, .int .u8 0, .int .u8 0, .int .u8 0, .int .u8 0, .int .u8 0, .int .u8 0, .int .u8 0, .int .u8 0, .int .u8 0, .int .u8 0, .int .u8 0, .int .u8 0, .int .u8 0, .int .u8 0, .int .u8 0, .int .u8 0, .int .u8 0, .int .u8 0, .int .u8 0, .int .u8 0, .int .u8 0, .int .u8 0, .int .u8 0, .int .u8 0, .int .u8 0, .int .u8 0, .int .u8 0, .int .u8 0, .int .u8 0, .int .u8 0, .int .u8 0] 22) = W0 at *
  have hg2 : w.heap.size ≤ w.heap.size + 1 := by omega
  have hgn : some w.heap.size ≠ some (w.heap.size + 1) := fun h => by injection h with h; omega
  have HG2 := hd_ hg2
  have HGN := hd_ hgn
  clear hg2 hgn
  generalize w.heap.size + 1 = g2 at *
  have hH0 : Hid (∀ j, j < 0 → j < T.length ∧ 0 ≤ digN (T.getD j 0)) := hd_ fun j hj => absurd hj (Nat.not_lt_zero j)
  go_wp2
  go_loopw [6] (fun vi wr => ∃ k : Nat, k ≤ 64 ∧ k ≤ s.size ∧ vi = .int .i64 k ∧ Box wr w.heap.size 22 (u8A (List.replicate 32 0)) ∧ Box wr g2 22 (u8A (digD T k)) ∧ Below w.heap.size w wr ∧ Hid (∀ j, j < k → j < T.length ∧ 0 ≤ digN (T.getD j 0))) (fun i _ => 64 - (intOf i).toNat)
  case atStart => exact ⟨0, Nat.zero_le _, Nat.zero_le _, rfl, hb1, hb2, hB0, hH0⟩
  case round =>
    clear hb1 hb2 hB0 hH0
    obtain ⟨k, hk, hks, rfl, hb1, hb2, hbel, HA⟩ := hrel
    by_cases hkl : k < s.size ∧ k < 64
    · obtain ⟨hkl, hlt⟩ := hkl
      have hkI : (k : Int) < (s.size : Int) := by omega
      have hltI : (k : Int) < 64 := by omega
      have hi := HIX.out k hkl
      obtain ⟨p0, p1⟩ := byte_at hTb (show k < T.length by rw [HTL.out]; exact hkl)
      have hdd := vAt_16 (c := T.getD k 0)
      have hy := fun j hj => vAt_yes (c := T.getD k 0) (j := j) hj p0
      have hn := fun j hj => vAt_no (c := T.getD k 0) (j := j) hj p0
      have hv0 : (-1 : Int) = vAt (T.getD k 0) 0 := by unfold vAt; rw [if_neg (by omega)]
      have HDD := hd_ hdd
      have HY := hd_ hy
      have HN := hd_ hn
      have HV0 := hd_ hv0
      clear hdd hy hn hv0
      obtain ⟨c, hc⟩ : ∃ c, T.getD k 0 = c := ⟨_, rfl⟩
      rw [hc] at hi p0 p1 HDD HY HN HV0
      have HC := hd_ hc
      clear hc
      go_wp2
      go_loopw [7, 8] (fun vv vj w2 => ∃ j : Nat, j ≤ 16 ∧ vj = .int .i64 j ∧ vv = .int .i64 (vAt c j) ∧ Box w2 w.heap.size 22 (u8A (List.replicate 32 0)) ∧ Box w2 g2 22 (u8A (digD T k)) ∧ Below w.heap.size w w2) (fun _ j _ => 16 - (intOf j).toNat)
      case atStart => exact ⟨0, Nat.zero_le _, rfl, by rw [← HV0.out], hb1, hb2, hbel⟩
      case round =>
        clear hb1 hb2 hbel
        obtain ⟨j, hj, rfl, rfl, hb1, hb2, hbel⟩ := hrel
        by_cases hj16 : j < 16
        · have hq : ∀ W, Sem.run Try.prog (Instr.index 9 (.string ⟨#[48, 49, 50, 51, 52, 53, 54, 55, 56, 57, 97, 98, 99, 100, 101, 102]⟩) (.int .i64 (j : Int))) W = .ok (.int .u8 (hexN (j : Int))) W := fun W => hexN_at W _ _ (by omega) (by omega)
          by_cases he : hexN (j : Int) = c
          · have hV := hd_ (HY.out j hj16 he)
            have heB : (hexN (j : Int) == c) = true := by rw [beq_iff_eq]; exact he
            rw [he] at hq heB
            clear he
            go_upto_region 9 with fail
            go_quiet (fail)
            go_wp2
            have hbn : Below w.heap.size w (wr.drewN nq) := below_drewN hbel nq
            have hx1 : Box (wr.drewN nq) w.heap.size 22 (u8A (List.replicate 32 0)) := hb1.keep (below_drewN (Below.refl _ _) nq)
            have hx2 : Box (wr.drewN nq) g2 22 (u8A (digD T k)) := hb2.keep (below_drewN (Below.refl _ _) nq)
            go_roundw
            case rel => exact ⟨j + 1, by omega, by go_num, by rw [hV.out], hx1, hx2, hbn⟩
            case measure => (simp [intOf]; try omega)
          · have hV := hd_ (HN.out j hj16 he)
            have heB : (hexN (j : Int) == c) = false := by rw [beq_eq_false_iff_ne]; exact he
            generalize hexN (j : Int) = q at *
            go_upto_region 9 with fail
            go_quiet (fail)
            go_wp2
            have hbn : Below w.heap.size w (wr.drewN nq) := below_drewN hbel nq
            have hx1 : Box (wr.drewN nq) w.heap.size 22 (u8A (List.replicate 32 0)) := hb1.keep (below_drewN (Below.refl _ _) nq)
            have hx2 : Box (wr.drewN nq) g2 22 (u8A (digD T k)) := hb2.keep (below_drewN (Below.refl _ _) nq)
            go_roundw
            case rel => exact ⟨j + 1, by omega, by go_num, by rw [hV.out], hx1, hx2, hbn⟩
            case measure => (simp [intOf]; try omega)
        · obtain rfl : j = 16 := by omega
          rw [HDD.out]
          by_cases hd : digN c < 0
          · rw [if_pos hd]
            have hbad := hd_ (badAt_some (T := T) 64 0 k (fun j _ hj => HA.out j hj) (.inr (by rw [HC.out]; exact hd)) (Nat.zero_le _) (by omega))
            clear hd
            go_wp2_with (refine store_box rfl 22 _ _ rfl w.heap.size 22 _ (u8A (List.replicate 32 0)) rfl rfl hb1 infoD2 rfl (u8A_one _) ?_; intro w9 hb9 hg9)
            exact bodyPost_ret (results_cell3 rfl _ _ _ rfl (run_load_box _ _ _ _ _ hb9 Try.underlying22 rfl infoD2)) rfl (par_bad hbad.out rfl (below_row hbel hg9 (Nat.le_refl _) hbel.size))
          · rw [if_neg hd]
            obtain ⟨x0, x1⟩ := digD_low T hlt (fun i hi => (HA.out i hi).2)
            have HA2 : Hid (∀ j, j < k + 1 → j < T.length ∧ 0 ≤ digN (T.getD j 0)) := hd_ fun j hj => by
              by_cases hjk : j < k
              · exact HA.out j hjk
              · obtain rfl : j = k := by omega
                exact ⟨by rw [HTL.out]; exact hkl, by rw [HC.out]; omega⟩
            have hE : Hid (digD T (k + 1) = (digD T k).set (k / 2) ((digD T k).getD (k / 2) 0 * 16 + digN c)) := hd_ (by rw [digD, HC.out])
            have hcell := hb2.cell (k / 2) (u8A_cell (digD T k) (k / 2) (by rw [digD_length]; omega))
            have hfro := hb2.frozen (k / 2)
            have hwd2 : (k : Int) / 2 = ((k / 2 : Nat) : Int) := by omega
            have hh32 : k / 2 < 32 := by omega
            have hd1 := digN_hi c
            have hd0 : 0 ≤ digN c := by omega
            clear hd HA HC
            clear HDD HY HN HV0
            generalize digN c = d at *
            generalize (digD T k).getD (k / 2) 0 = x at *
            generalize k / 2 = h at *
            have hhI : (h : Int) < 32 := by omega
            go_wp2
            obtain ⟨g3, g4⟩ := hb2.put h (.int .u8 (x * 16 + d))
            rw [u8A_set, ← hE.out] at g3
            have g5 := hb1.grown g4 HGN.out
            go_roundw
            case rel => exact ⟨k + 1, by omega, by omega, by go_num, g5, g3, below_row hbel g4 HG2.out hbel.size, HA2⟩
            case measure => (simp [intOf]; try omega)
    · have hcond : (k : Int) < (s.size : Int) → ¬ (k : Int) < 64 := fun h1 h2 => hkl ⟨by omega, by omega⟩
      by_cases hsh : s.size < 64
      · obtain rfl : k = s.size := by omega
        have hbad := hd_ (badAt_some (T := T) 64 0 s.size (fun j _ hj => HA.out j hj) (.inl (by rw [HTL.out])) (Nat.zero_le _) (by omega))
        have hI : (s.size : Int) < 64 := by omega
        clear hkl hcond
        go_wp2_with (refine store_box rfl 22 _ _ rfl w.heap.size 22 _ (u8A (List.replicate 32 0)) rfl rfl hb1 infoD2 rfl (u8A_one _) ?_; intro w9 hb9 hg9)
        exact bodyPost_ret (results_cell3 rfl _ _ _ rfl (run_load_box _ _ _ _ _ hb9 Try.underlying22 rfl infoD2)) rfl (par_bad hbad.out rfl (below_row hbel hg9 (Nat.le_refl _) hbel.size))
      · obtain rfl : k = 64 := by omega
        have hnone := hd_ (badAt_none (T := T) 64 0 (fun j _ hj => HA.out j (by omega)))
        have hI : ¬ (s.size : Int) < 64 := by omega
        clear hkl hcond
        by_cases hlong : 64 < s.size
        · have hl2 := hd_ (show 64 < T.length by rw [HTL.out]; exact hlong)
          have hlI : (64 : Int) < (s.size : Int) := by omega
          go_wp2_with (refine store_box rfl 22 _ _ rfl w.heap.size 22 _ (u8A (List.replicate 32 0)) rfl rfl hb1 infoD2 rfl (u8A_one _) ?_; intro w9 hb9 hg9)
          exact bodyPost_ret (results_cell3 rfl _ _ _ rfl (run_load_box _ _ _ _ _ hb9 Try.underlying22 rfl infoD2)) rfl (par_long hnone.out hl2.out rfl (below_row hbel hg9 (Nat.le_refl _) hbel.size))
        · have hl2 := hd_ (show ¬ 64 < T.length by rw [HTL.out]; exact hlong)
          have hlI : ¬ (64 : Int) < (s.size : Int) := by omega
          have hinfo : (Try.prog.info? 22).map (·.size) = some (u8A (digD T 64)).size := by rw [u8A_size, digD_length]; exact infoD2
          go_wp2_with (first
            | (refine load_box rfl 22 _ rfl g2 22 (u8A (digD T 64)) _ rfl hb2 Try.underlying22 rfl hinfo ?_)
            | (refine store_box rfl 22 _ _ rfl w.heap.size 22 _ (u8A (digD T 64)) rfl rfl hb1 hinfo (by rw [u8A_size, u8A_size, digD_length]; rfl) (u8A_one _) ?_; intro w9 hb9 hg9))
          exact bodyPost_ret (results_cell3 rfl _ _ _ rfl (run_load_box _ _ _ _ _ hb9 Try.underlying22 rfl hinfo)) rfl (par_good hnone.out hl2.out rfl (below_row hbel hg9 (Nat.le_refl _) hbel.size))
end Go.Proofs.Ytcaljnlicohkaaa
