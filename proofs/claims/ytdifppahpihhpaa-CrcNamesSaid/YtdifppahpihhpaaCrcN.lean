import Derived.Test.YtdifppahpihhpaaCrcM
import Derived.Test.YtdifppahpihhpaaMem3
import Derived.Deep.RegionWith
import Derived.Deep.RegionLaw
namespace Go.Proofs.Ytdifppahpihhpaa
open Go.RowKit
set_option maxRecDepth 100000
set_option linter.unusedVariables false
def zeros32 : List Int := List.replicate 32 0
def ffs (k : Nat) : List Int := List.replicate k 255 ++ List.replicate (32 - k) 0
theorem ffs_set {k : Nat} (h : k < 32) : (ffs k).set k 255 = ffs (k + 1) := by
  unfold ffs
  rw [show 32 - k = (32 - (k + 1)) + 1 by omega, List.replicate_succ, List.set_append_right _ _ (by rw [List.length_replicate]; exact Nat.le_refl _), List.length_replicate, Nat.sub_self, List.set_cons_zero, List.replicate_succ', List.append_assoc]
  rfl
theorem ffs_length {k : Nat} (h : k ≤ 32) : (ffs k).length = 32 := by unfold ffs; rw [List.length_append, List.length_replicate, List.length_replicate]; omega
theorem sum_z32 : sumW zeros32 = 0x8a9136aa#32 := by decide +kernel
theorem sum_ff32 : sumW (ffs 32) = 0x62a8ab43#32 := by decide +kernel
theorem sum_a : sumW [97] = 0xc1d04330#32 := by decide +kernel
set_option maxHeartbeats 1000000 in
theorem law_CrcNames (w : World) :
    Calls Try.prog 5 #[] w fun e w' => e = .returned (.bool true) ∧ Below w.heap.size w w' := by
  obtain ⟨i0, hi, hz0, hz1, hz2⟩ := info_parts info8
  obtain ⟨C0, hC0⟩ : ∃ C0, madeCells #[Value.int .u8 0] 32 = C0 := ⟨_, rfl⟩
  have hCl : C0.toList = nums8 zeros32 := by
    rw [← hC0, toList_madeCells_one]
    unfold nums8 zeros32
    rw [List.map_replicate]
  have hCs : C0.size = 32 * 1 := by rw [← Array.length_toList, hCl]; rfl
  have hmk : ∀ u : World, (Instr.makeSlice 23 (.int .i64 32) (.int .i64 32)).run Try.prog u = .ok (.slice (some ⟨u.heap.size, 0, none⟩) 32 32) (u.alloc (.cells C0 5)) := fun u => by
    have h := run_make (P := Try.prog) u 23 5 i0 (.int .u8 0) Try.underlying23 hi hz0 .i64 .i64 32 32 (by omega) (by omega) (by rw [hz2]; omega) (by omega)
    rw [h, hz1, ← hC0]
    rfl
  have hnew : ∀ (W : World), w.heap.size ≤ W.heap.size → Own (W.alloc (.cells C0 5)) w.heap.size 5 (.slice (some ⟨W.heap.size, 0, none⟩) 32 32) zeros32 := fun W hW =>
    ⟨(by intro b hb; rw [zeros32] at hb; rw [List.eq_of_mem_replicate hb]; omega), by
      have := World.ownsRow_lit (e := 5) (size := 1) W C0 32 hW (by decide) hCs
      rw [hCl] at this
      exact this⟩
  clear hi hz0 hz1 hz2 hC0 hCs hCl
  go_enter Try.func5, Try.ntmps5
  go_upto_region 1 with fail
  go_upto_region 2 with fail
  go_cut [1, 2] (fun s1 s2 wx => ∃ g1 g2, s1 = .slice (some ⟨g1, 0, none⟩) 32 32 ∧ s2 = .slice (some ⟨g2, 0, none⟩) 32 32 ∧ g1 ≠ g2 ∧ Own wx w.heap.size 5 s1 zeros32 ∧ Own wx w.heap.size 5 s2 zeros32 ∧ Below w.heap.size w wx)
  case first =>
    go_region
    all_goals go_wp2_with fail
    all_goals go_meet
    · have h1 := hnew w (Nat.le_refl _)
      have h2 := hnew (w.alloc (.cells C0 5)) (by simp)
      have b1 := al1 (Below.refl w.heap.size w) (.cells C0 5)
      have b2 := al1 (Below.refl (w.alloc (.cells C0 5)).heap.size _) (.cells C0 5)
      have e1 : (w.alloc (.cells C0 5)).heap.size = w.heap.size + 1 := by simp
      rw [e1] at h2
      refine ⟨_, _, rfl, rfl, by omega, (h1.keep b2).keep (Below.refl _ _).drew, h2.keep (Below.refl _ _).drew, (bel_trans b1 b2).drew⟩
    · have h1 := hnew w (Nat.le_refl _)
      have h2 := hnew (w.alloc (.cells C0 5)) (by simp)
      have b1 := al1 (Below.refl w.heap.size w) (.cells C0 5)
      have b2 := al1 (Below.refl (w.alloc (.cells C0 5)).heap.size _) (.cells C0 5)
      have e1 : (w.alloc (.cells C0 5)).heap.size = w.heap.size + 1 := by simp
      rw [e1] at h2
      refine ⟨_, _, rfl, rfl, by omega, h2.keep (Below.refl _ _).drew, (h1.keep b2).keep (Below.refl _ _).drew, (bel_trans b1 b2).drew⟩
  case rest =>
    obtain ⟨g1, g2, rfl, rfl, hne, HO1, HO2, HB⟩ := hcut
    clear hmk hnew
    have hg2 : w.heap.size ≤ g2 := by
      obtain ⟨g', cp', he, h, _⟩ := HO2.slot (by decide)
      injection he with he
      injection he with he
      injection he with he
      omega
    rw [show zeros32 = ffs 0 from rfl] at HO2
    go_wp2
    go_loopw [3] (fun vi wr => ∃ k : Nat, k ≤ 32 ∧ vi = .int .i64 k ∧ Own wr w.heap.size 5 (.slice (some ⟨g1, 0, none⟩) 32 32) zeros32 ∧ Own wr w.heap.size 5 (.slice (some ⟨g2, 0, none⟩) 32 32) (ffs k) ∧ Below w.heap.size w wr) (fun i _ => 32 - (intOf i).toNat)
    case atStart => exact ⟨0, by omega, rfl, HO1, HO2, HB⟩
    case round =>
      clear HO1 HO2 HB
      obtain ⟨k, hk, rfl, HO1, HO2, HB⟩ := hrel
      by_cases hlt : k < 32
      · have hlI : (k : Int) < 32 := by omega
        have hlen := ffs_length hk
        obtain ⟨g', cp', he, _, _, _, h1, h2⟩ := HO2.slot (by intro h; rw [h] at hlen; simp at hlen)
        injection he with he
        injection he with he
        injection he with he
        subst he
        have hcell := h1 k (by omega)
        have hfz := h2 k
        obtain ⟨HP, hgp⟩ := HO2.put k 255 (by omega) (by omega)
        have HB2 := below_put HO2 HB HB.size k (.int .u8 255)
        have HO3 := HO1.kept hgp (.inr (by simp [Value.ownBlock]; omega))
        rw [ffs_set hlt] at HP
        clear h1 h2 hlen
        go_wp2
        go_roundw
        case rel => exact ⟨k + 1, by omega, by go_num, HO3, HP, HB2⟩
        case measure => (simp [intOf]; try omega)
      · obtain rfl : k = 32 := by omega
        have kc := fun (w : World) (C : Array Value) (n c : Nat) => Lib.run_convert_bytes_const (P := Try.prog) w 23 5 C n c Try.underlying23 Try.underlying5
        go_wp2_with (first
          | (go_at_call 26; refine (num_any _ _).mono ?_; rintro e w' ⟨rfl, rfl⟩)
          | (go_at_call 27; refine (awake_any _).mono ?_; rintro e w1 ⟨rfl, HB1⟩))
        have e1 : I (sumW [zeros32].flatten) = 2324772522 := by rw [List.flatten_singleton, sum_z32]; decide
        have e2 : I (sumW [ffs 32].flatten) = 1655221059 := by rw [List.flatten_singleton, sum_ff32]; decide
        have e3 : I (sumW [[97]].flatten) = 3251651376 := by rw [List.flatten_singleton, sum_a]; decide
        refine (crc_Sum_any _ _ _ (crc_Sum_one _ _ w1 (HO1.rd.keep HB1) rfl)).mono ?_
        rintro e w2 ⟨rfl, HB2⟩
        rw [e1]
        have hK2 := bel_trans HB1 (bel_trans (al1 (Below.refl w1.heap.size w1) _) HB2)
        go_wp2_with fail
        refine (crc_Sum_any _ _ _ (crc_Sum_one _ _ w2 (HO2.rd.keep hK2) rfl)).mono ?_
        rintro e w3 ⟨rfl, HB3⟩
        rw [e2]
        have hK3 := bel_trans hK2 (bel_trans (al1 (Below.refl w2.heap.size w2) _) HB3)
        have hR97 : Rd (w3.alloc (.cells #[.int .u8 97] 5 (1, 2))) (.slice (some ⟨w3.heap.size, 0, none⟩) 1 1) [97] := rd_new [97] rfl rfl (by intro y hy; rw [List.mem_singleton] at hy; subst hy; omega) (by decide)
        have hone3 := crc_Sum_one _ _ _ hR97 rfl
        have hal3 := al1 (Below.refl w3.heap.size w3) (.cells #[.int .u8 97] 5 (1, 2))
        generalize hW4 : w3.alloc (.cells #[.int .u8 97] 5 (1, 2)) = W4 at hone3 hal3
        have hal4 := al1 (Below.refl W4.heap.size W4) (.cells #[.slice (some ⟨w3.heap.size, 0, none⟩) 1 1] 23)
        have hK4 := bel_trans hK3 (bel_trans hal3 hal4)
        rw [← hW4] at hone3 hK4
        rw [show (w3.alloc (.cells #[.int .u8 97] 5 (1, 2))).heap.size = w3.heap.size + 1 from by simp] at hone3
        have HK4 := hd_ hK4
        have HN3 := hd_ hone3
        clear hW4 hone3 hK4 hal3 hal4
        go_wp2_with fail
        with_reducible refine (crc_Sum_any _ _ _ HN3.out).mono ?_
        rintro e w5 ⟨rfl, HB5⟩
        rw [e3]
        have hK5 := bel_trans HK4.out HB5
        go_wp2
        go_ret
        exact ⟨rfl, bel_trans HB hK5⟩
end Go.Proofs.Ytdifppahpihhpaa
