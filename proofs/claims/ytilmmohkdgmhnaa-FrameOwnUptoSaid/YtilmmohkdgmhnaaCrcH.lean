import Derived.Test.YtilmmohkdgmhnaaCrcG
import Derived.Lib.SlBytesConst
import Derived.Deep.QuietTactic
import Derived.BigQuiet
namespace Go.Proofs.Ytilmmohkdgmhnaa
open Go.RowKit
set_option maxRecDepth 100000
set_option linter.unusedVariables false
theorem info8 : (Try.prog.info? 5).map (fun i => (i.zero, i.size, i.bytes)) = some (some (.int .u8 0), 1, 1) := by kernel_rfl
theorem infoS : (Try.prog.info? 24).map (fun i => (i.zero, i.size, i.bytes)) = some (some (.slice none 0 0), 1, 24) := by kernel_rfl
theorem eq4 (a0 a1 a2 a3 b0 b1 b2 b3 : Int) (W : World) : (Op.equalIn 10000 97 (.agg #[.int .u8 a0, .int .u8 a1, .int .u8 a2, .int .u8 a3]) (.agg #[.int .u8 b0, .int .u8 b1, .int .u8 b2, .int .u8 b3])).run Try.prog W = .ok (eqL [a0, a1, a2, a3] [b0, b1, b2, b3]) W := by
  obtain ⟨i0, hi, _⟩ := info_parts info8
  exact eqArr Try.underlying5 (by kernel_rfl) 9998 W Try.underlying97 hi [a0, a1, a2, a3] [b0, b1, b2, b3] rfl rfl
attribute [local go_sem] u32_signed not_I xorOnes_I xor_I
/-! ### Holds -/
def holdsB (l : List Int) : Bool := decide (4 ≤ l.length) && decide (B4 (sumW (l.take (l.length - 4))) = l.drop (l.length - 4))
theorem crc_Sum_one (v : Value) (xs : List Int) (w : World) (HR : Rd w v xs) (hv : v.oneCell' = true) : RdL (w.alloc (.cells #[v] 24)) (.slice (some ⟨w.heap.size, 0, none⟩) 1 1) [xs] := by
  have hb : Below w.heap.size w (w.alloc (.cells #[v] 24)) := (Below.refl _ _).alloc (Nat.le_refl _) _
  refine ⟨[v], rfl, ⟨rfl, _, _, rfl, Nat.le_refl _, by decide, (fun h => by cases h), fun j hj => ⟨_, 0, rfl, ?_⟩⟩, ?_, ?_⟩
  · rw [Nat.zero_add, World.cell?_alloc_new]
    simp
  · intro u hu
    simp only [List.mem_cons, List.not_mem_nil, or_false] at hu
    subst hu; exact hv
  · intro j hj
    have : j = 0 := by simp at hj; exact hj
    subst this
    exact HR.keep hb
theorem Rd.one {w : World} {v : Value} {xs : List Int} (h : Rd w v xs) : v.oneCell' = true := by
  obtain ⟨A, c, rfl, _⟩ := h.form; rfl
theorem below_drewN {B : Nat} {w W : World} (h : Below B w W) (n : Nat) : Below B w (W.drewN n) := ⟨h.os, h.tape, h.output, h.size, h.block⟩
theorem rdl_drew {w : World} {v : Value} {xss : List (List Int)} (h : RdL w v xss) : RdL w.drew v xss := h
theorem ref_Holds_short (v : Value) (l : List Int) (w : World) (HR : Rd w v l) (hl : l.length < 4) : Calls Try.prog 55 #[v] w fun e w' => e = .returned (.bool (holdsB l)) ∧ Below w.heap.size w w' := by
  have hlen := HR.2.len (P := Try.prog) 24 5 3 Try.underlying24
  have hb : holdsB l = false := by unfold holdsB; rw [decide_eq_false (by omega)]; rfl
  rw [hb]
  go_enter Try.func55, Try.ntmps55
  go_wp2
  go_ret
  exact ⟨rfl, Below.refl _ _⟩
theorem holds_miss {l : List Int} {n k : Nat} (hl : l.length = n + 4) {t : List Int} (ht : t = B4 (sumW (l.take n))) (hk : k < 4) (h : l.getD (n + k) 0 ≠ t.getD k 0) : holdsB l = false := by
  unfold holdsB
  rw [show l.length - 4 = n by omega, Bool.and_eq_false_iff]
  refine .inr (decide_eq_false fun e => h ?_)
  subst ht
  rw [e, List.getD_eq_getElem?_getD, List.getD_eq_getElem?_getD, List.getElem?_drop]
theorem holds_all {l : List Int} {n : Nat} (hl : l.length = n + 4) {t : List Int} (ht : t = B4 (sumW (l.take n))) (h : ∀ k, k < 4 → l.getD (n + k) 0 = t.getD k 0) : holdsB l = true := by
  unfold holdsB
  rw [show l.length - 4 = n by omega, Bool.and_eq_true]
  refine ⟨decide_eq_true (by omega), decide_eq_true ?_⟩
  rw [← ht]
  have ht4 : t.length = 4 := by rw [ht]; rfl
  refine List.ext_getElem (by rw [List.length_drop]; omega) fun i h1 h2 => ?_
  have := h i (by omega)
  rw [List.getD_eq_getElem?_getD, List.getD_eq_getElem?_getD, List.getElem?_eq_getElem (by omega), List.getElem?_eq_getElem h1] at this
  rw [List.getElem_drop]
  exact this.symm
theorem B4_cell (x : W32) : ∀ n, n < 4 → (#[Value.int .u8 (I x % 256), .int .u8 (I x / 256 % 256), .int .u8 (I x / 65536 % 256), .int .u8 (I x / 16777216 % 256)] : Array Value)[n]? = some (.int .u8 ((B4 x).getD n 0)) := by
  intro n hn
  have : n = 0 ∨ n = 1 ∨ n = 2 ∨ n = 3 := by omega
  rcases this with rfl | rfl | rfl | rfl <;> rfl
set_option maxHeartbeats 1000000 in
theorem ref_Holds_long (v : Value) (l : List Int) (w : World) (HR : Rd w v l) (hl : 4 ≤ l.length) (hm : l.length ≤ 281474976710656) : Calls Try.prog 55 #[v] w fun e w' => e = .returned (.bool (holdsB l)) ∧ Below w.heap.size w w' := by
  obtain ⟨n, hn⟩ : ∃ n, l.length = n + 4 := ⟨l.length - 4, by omega⟩
  obtain ⟨u1, hs1, hR1⟩ := HR.sl_h Try.underlying24 info8 n (by omega)
  have hlen := HR.2.len (P := Try.prog) 24 5 3 Try.underlying24
  rw [hn] at hlen
  have hm1 : n ≤ 281474976710652 := by omega
  have hm2 : (l.take n).length ≤ 281474976710656 := by rw [List.length_take]; omega
  obtain ⟨t, ht⟩ : ∃ t, t = B4 (sumW (l.take n)) := ⟨_, rfl⟩
  have hmiss := hd_ (fun k hk h => holds_miss (k := k) hn ht hk h)
  have hall := hd_ (holds_all hn ht)
  have HT := hd_ ht
  clear ht
  have HN := hd_ hn
  have HRR := hd_ HR
  clear hn hm HR hl
  go_enter Try.func55, Try.ntmps55
  go_upto_region 3 with fail
  go_cut [3] (fun s3 wx => ∃ g : Nat, s3 = .pointer (some ⟨g, 0, none⟩) ∧ Below w.heap.size w wx ∧ Hid (∀ k, k < 4 → wx.cell? ⟨g, k, none⟩ = some (.int .u8 (t.getD k 0))))
  case first =>
    go_wp2_with (first | (go_at_call 63; refine (ref_Sum_any _ _ _ hR1 hm2).mono ?_; rintro e w' ⟨rfl, rfl⟩) | (go_at_call 62; refine (ref_Low_any _ _).mono ?_; rintro e w' ⟨rfl, rfl⟩))
    go_meet
    refine ⟨_, rfl, ((Below.refl _ _).alloc (Nat.le_refl _) _).alloc (by simp) _, fun k hk => ?_⟩
    rw [HT.out]
    exact (World.cell?_alloc_at _ _ _ k (by simp)).trans (B4_cell _ k hk)
  case rest =>
    obtain ⟨g, rfl, hbel, htab⟩ := hcut
    obtain ⟨A, cap, rfl, hc1, hc2, hc3, hc4⟩ := HRR.out.form
    rw [HN.out] at hc1 ⊢
    clear hs1 hlen
    go_wp2
    go_loopw [4] (fun vi wr => ∃ k : Nat, k ≤ 4 ∧ vi = .int .i64 k ∧ Hid (∀ j, j < k → l.getD (n + j) 0 = t.getD j 0) ∧ Below w.heap.size w wr ∧ Hid (∀ k, k < 4 → wr.cell? ⟨g, k, none⟩ = some (.int .u8 (t.getD k 0)))) (fun i _ => 4 - (intOf i).toNat)
    case atStart => exact ⟨0, by omega, rfl, fun j hj => absurd hj (by omega), hbel, htab⟩
    case round =>
      clear hbel htab
      obtain ⟨k, hk, rfl, H, hbel, htab⟩ := hrel
      by_cases hlt : k < 4
      · obtain ⟨b, off, rfl, hcell0⟩ := hc4 (n + k) (by rw [HN.out]; omega)
        have hcell := cell_keep hbel hcell0
        have htc := htab.out k hlt
        clear hc4 hcell0
        by_cases hq : l.getD (n + k) 0 = t.getD k 0
        · have H2 : Hid (∀ j, j < k + 1 → l.getD (n + j) 0 = t.getD j 0) := fun j hj => by
            by_cases e : j = k
            · subst e; exact hq
            · exact H.out j (by omega)
          have hne : (l.getD (n + k) 0 != t.getD k 0) = false := by rw [hq]; exact bne_self_eq_false _
          clear hq H
          generalize l.getD (n + k) 0 = c at *
          generalize hdd : t.getD k 0 = d at htc hne
          clear hdd
          go_wp2
          go_quiet (fail)
          go_wp2
          go_roundw
          case rel => exact ⟨k + 1, by omega, by go_num, H2, below_drewN hbel _, htab⟩
          case measure => (simp [intOf]; try omega)
        · have hfalse := hd_ (hmiss.out k hlt hq)
          have hne : (l.getD (n + k) 0 != t.getD k 0) = true := bne_iff_ne.2 hq
          clear hq H
          generalize l.getD (n + k) 0 = c at *
          generalize hdd : t.getD k 0 = d at htc hne
          clear hdd
          go_wp2
          go_quiet (fail)
          go_wp2
          go_ret
          exact ⟨by rw [hfalse.out]; rfl, below_drewN hbel _⟩
      · obtain rfl : k = 4 := by omega
        have htrue := hd_ (hall.out H.out)
        clear H hc4
        go_wp2
        go_ret
        exact ⟨by rw [htrue.out]; rfl, hbel⟩
theorem ref_Holds_any (v : Value) (l : List Int) (w : World) (HR : Rd w v l) (hm : l.length ≤ 281474976710656) : Calls Try.prog 55 #[v] w fun e w' => e = .returned (.bool (holdsB l)) ∧ Below w.heap.size w w' := by
  by_cases h : l.length < 4
  · exact ref_Holds_short v l w HR h
  · exact ref_Holds_long v l w HR (by omega) hm
end Go.Proofs.Ytilmmohkdgmhnaa
