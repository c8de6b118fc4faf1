import Derived.Test.YtdifppahpihhpaaCrcI
namespace Go.Proofs.Ytdifppahpihhpaa
open Go.RowKit
set_option maxRecDepth 100000
set_option linter.unusedVariables false
attribute [local go_sem] u32_signed not_I xorOnes_I xor_I
/-! ### twin, same -/
theorem flatten_drop_le {xss : List (List Int)} {k : Nat} (h : k < xss.length) : (xss.getD k []).length ≤ xss.flatten.length := by
  have : xss.getD k [] ∈ xss := by rw [List.getD_eq_getElem?_getD, List.getElem?_eq_getElem h]; exact List.getElem_mem h
  exact (List.sublist_flatten_of_mem this).length_le
theorem oneS (v : Value) (A : Option Addr) (n c : Nat) (h : v = .slice A n c) : ∀ u ∈ [v], u.oneCell' = true := by
  intro u hu; simp only [List.mem_cons, List.not_mem_nil, or_false] at hu; subst hu; subst h; rfl
set_option maxHeartbeats 1000000 in
theorem twin_any (v : Value) (xss : List (List Int)) (w : World) (HR : RdL w v xss) (hl : ∀ xs ∈ xss, xs.length ≤ 140737488351232) (hcnt : xss.length * 24 ≤ 140737488351232) :
    Calls Try.prog 29 #[v] w (RetLists w xss) := by
  obtain ⟨A, cap, rfl, hn, hm, _, hc⟩ := HR.form
  clear HR
  unfold maxLen at hm
  go_enter Try.func29, Try.ntmps29
  go_wp2
  go_loopw [3, 4] (fun vo vi wr => ∃ (k : Nat) (vs : List Value), k ≤ xss.length ∧ vi = .int .i64 k ∧ vs.length = k ∧ wr.ownsRow w.heap.size 23 1 vo k vs ∧ (∀ u ∈ vs, u.oneCell' = true) ∧ Hid (∀ j, j < k → Own wr w.heap.size 5 (vs.getD j undef) (xss.getD j [])) ∧ Below w.heap.size w wr) (fun _ i _ => xss.length - (intOf i).toNat)
  case atStart => exact ⟨0, [], Nat.zero_le _, rfl, rfl, World.ownsRow_nil _ _ _ _, (fun u hu => absurd hu (by simp)), fun j hj => absurd hj (by omega), Below.refl _ _⟩
  case round =>
    obtain ⟨k, vs, hk, rfl, hvs, HO, h1, hel, hbel⟩ := hrel
    by_cases hlt : k < xss.length
    · obtain ⟨b, off, u, rfl, hcell0, hu0⟩ := hc k hlt
      have hcell := cell_keep hbel hcell0
      have hu := hu0.keep hbel
      have hp : (xss.getD k []).length ≤ 140737488351232 := hl _ (by rw [List.getD_eq_getElem?_getD, List.getElem?_eq_getElem hlt]; exact List.getElem_mem hlt)
      have HP := hd_ (rfl : xss.getD k [] = xss.getD k [])
      clear hc hcell0 hu0
      generalize hpp : xss.getD k [] = p at hu hp HP
      have HPP := hd_ hpp
      clear hpp
      go_wp2_with (first
        | (at_builtin; refine app_bytes (w0 := w) w.heap.size rfl _ _ 23 5 rfl Try.underlying23 info8 (.slice none 0 0) u [] p rfl rfl (own_nil8 _ _ _) hu hbel hbel.size (by simp; omega) ?_; intro v1 w1 HO1 HB1 hg1 hat1; rw [List.nil_append] at HO1; obtain ⟨A1, c1, hv1, _⟩ := HO1.rd.form; subst hv1)
        | (at_builtin; (refine app_rd w.heap.size rfl _ _ 33 23 (.slice none 0 0) 1 24 rfl Try.underlying33 infoS rfl (by omega) _ _ k 1 vs [.slice A1 p.length c1] rfl rfl ((row_grown0 HO hg1).alloc _) (box_one _ _ _) (one_slice _ _ _) (Nat.le_trans HB1.size (size_al _ _)) (by omega) (by omega) ?_); intro v2 w2 HO2 hg2 hat2))
      go_roundw
      case rel =>
        have hg2' : (w1.alloc (.cells #[.slice A1 p.length c1] 23)).grownBy w2 u3.ownBlock := hg2
        have HW := (row_grown0 HO hg1).alloc (.cells #[.slice A1 p.length c1] 23)
        have hal := al1 (Below.refl w1.heap.size w1) (.cells #[.slice A1 p.length c1] 23)
        refine ⟨k + 1, vs ++ [.slice A1 p.length c1], by omega, by go_num, by rw [List.length_append, hvs]; rfl, HO2, one_snoc h1 _ _ _, fun j hj => ?_, below_grown (al1 HB1 _) HW hg2' (Nat.le_trans HB1.size (size_al _ _))⟩
        by_cases e : j < k
        · rw [getD_left (by omega)]
          exact own_past ((own_grown0 (hel.out j e) hg1).keep hal) HW hg2' (by decide)
        · obtain rfl : j = k := by omega
          rw [getD_mid hvs.symm, HPP.out]
          exact own_past (HO1.keep hal) HW hg2' (by decide)
      case measure => (simp [intOf]; try omega)
    · obtain rfl : k = xss.length := by omega
      clear hc
      go_wp2
      go_ret
      exact ⟨_, rfl, ⟨vs, hvs, RdC.own HO, h1, fun j hj => (hel.out j hj).rd⟩, hbel⟩
theorem sameBytes_same (v u : Value) (l m : List Int) (w : World) (HR : Rd w v l) (HS : Rd w u m) :
    Calls Try.prog 23 #[v, u] w fun e w' => e = .returned (.bool (decide (l = m))) ∧ w' = w :=
  (sameBytes_any v u l m w HR HS).mono fun e w' ⟨h1, h2⟩ => ⟨h1, h2.symm⟩
set_option maxHeartbeats 1000000 in
theorem same_any (v u : Value) (xss yss : List (List Int)) (w : World) (HR : RdL w v xss) (HS : RdL w u yss) (hle : xss.length = yss.length) :
    Calls Try.prog 32 #[v, u] w fun e w' => e = .returned (.bool (decide (xss = yss))) ∧ Below w.heap.size w w' := by
  obtain ⟨A, cap, rfl, hn, hm, _, hc⟩ := HR.form
  obtain ⟨B, cap2, rfl, hn2, hm2, _, hc2⟩ := HS.form
  clear HR HS
  unfold maxLen at hm hm2
  go_enter Try.func32, Try.ntmps32
  go_wp2
  go_loopw [5] (fun vi wr => ∃ k : Nat, k ≤ xss.length ∧ vi = .int .i64 k ∧ Hid (∀ j, j < k → xss.getD j [] = yss.getD j []) ∧ Below w.heap.size w wr) (fun i _ => xss.length - (intOf i).toNat)
  case atStart => exact ⟨0, Nat.zero_le _, rfl, fun j hj => absurd hj (by omega), Below.refl _ _⟩
  case round =>
    obtain ⟨k, hk, rfl, H, hbel⟩ := hrel
    by_cases hlt : k < xss.length
    · obtain ⟨b, off, p, rfl, hcell0, hp0⟩ := hc k hlt
      obtain ⟨b2, off2, q, rfl, hcell20, hq0⟩ := hc2 k (by omega)
      have hcell := cell_keep hbel hcell0
      have hcell2 := cell_keep hbel hcell20
      have hp := hp0.keep hbel
      have hq := hq0.keep hbel
      have HL := hd_ hle
      have hlt2 : k < yss.length := by omega
      have KS : ∀ w' : World, Below w.heap.size w w' → (w'.cell? ⟨b, off + k, none⟩ = some p ∧ w'.cell? ⟨b2, off2 + k, none⟩ = some q) := fun w' hw => ⟨cell_keep hw hcell0, cell_keep hw hcell20⟩
      clear hc hc2 hcell0 hcell20 hp0 hq0 hle
      clear KS
      by_cases he : xss.getD k [] = yss.getD k []
      · have H2 : Hid (∀ j, j < k + 1 → xss.getD j [] = yss.getD j []) := fun j hj => by
          by_cases e : j = k
          · subst e; exact he
          · exact H.out j (by omega)
        have hdec : decide (xss.getD k [] = yss.getD k []) = true := decide_eq_true he
        generalize xss.getD k [] = x at hp hdec
        generalize yss.getD k [] = y at hq hdec
        clear he H
        go_wp2
        go_quiet ((go_at_call 23; exact Calls.quiet_of_same (sameBytes_same p q x y _ hp hq)))
        go_wp2
        go_roundw
        case rel => exact ⟨k + 1, by omega, by go_num, H2, below_drewN hbel _⟩
        case measure => (simp [intOf]; try omega)
      · have hno : Hid (decide (xss = yss) = false) := hd_ (decide_eq_false fun h => he (by rw [h]))
        have hdec : decide (xss.getD k [] = yss.getD k []) = false := decide_eq_false he
        generalize xss.getD k [] = x at hp hdec
        generalize yss.getD k [] = y at hq hdec
        clear he H
        go_wp2
        go_quiet ((go_at_call 23; exact Calls.quiet_of_same (sameBytes_same p q x y _ hp hq)))
        go_wp2
        go_ret
        exact ⟨by rw [hno.out]; rfl, below_drewN hbel _⟩
    · obtain rfl : k = xss.length := by omega
      have hyes : Hid (decide (xss = yss) = true) := hd_ (decide_eq_true (List.ext_getElem hle fun i h1 h2 => by
        have := H.out i h1
        rw [List.getD_eq_getElem?_getD, List.getD_eq_getElem?_getD, List.getElem?_eq_getElem h1, List.getElem?_eq_getElem h2] at this
        exact this))
      have hbe : ((xss.length : Int) == (yss.length : Int)) = true := by rw [hle]; exact beq_self_eq_true _
      clear hc hc2 H hle
      go_wp2
      go_ret
      exact ⟨by rw [hyes.out]; rfl, hbel⟩
theorem rd_const (W : World) (cs : Array Value) (n : Nat) (t : TypeId) (fr : Nat × Nat) (xs : List Int) (h : cs = (nums8 xs).toArray) (hn : xs.length = n) (hb : IsBytes xs) (hl : n ≤ maxLen) : Rd (W.alloc (.cells cs t fr)) (.slice (some ⟨W.heap.size, 0, none⟩) n n) xs := rd_new xs h hn hb hl
def digits9 : List Int := [49, 50, 51, 52, 53, 54, 55, 56, 57]
theorem digits9_bytes : IsBytes digits9 := by intro b hb; simp [digits9] at hb; omega
theorem rdl_nil (w : World) : RdL w (.slice none 0 0) [] := ⟨[], rfl, RdC.own (World.ownsRow_nil w 0 0 1), (by simp), fun j hj => absurd hj (by simp)⟩
theorem sum_digits9 : sumW digits9 = 0xe3069283#32 := by decide +kernel
theorem sum_nil : sumW [] = 0#32 := by decide
set_option maxHeartbeats 1000000 in
theorem awake_any (w : World) : Calls Try.prog 27 #[] w fun e w' => e = .returned (.bool true) ∧ Below w.heap.size w w' := by
  have kc := fun (w : World) (C : Array Value) (n c : Nat) => Lib.run_convert_bytes_const (P := Try.prog) w 23 5 C n c Try.underlying23 Try.underlying5
  go_enter Try.func27, Try.ntmps27
  have h9 : Rd (w.alloc (.cells #[.int .u8 49, .int .u8 50, .int .u8 51, .int .u8 52, .int .u8 53, .int .u8 54, .int .u8 55, .int .u8 56, .int .u8 57] 5 (9, 10))) (.slice (some ⟨w.heap.size, 0, none⟩) 9 9) digits9 := rd_new digits9 rfl rfl digits9_bytes (by decide)
  have hL := crc_Sum_one _ _ _ h9 rfl
  have hB0 := al1 (al1 (Below.refl w.heap.size w) (.cells #[.int .u8 49, .int .u8 50, .int .u8 51, .int .u8 52, .int .u8 53, .int .u8 54, .int .u8 55, .int .u8 56, .int .u8 57] 5 (9, 10))) (.cells #[.slice (some ⟨w.heap.size, 0, none⟩) 9 9] 23)
  rw [show (w.alloc (.cells #[.int .u8 49, .int .u8 50, .int .u8 51, .int .u8 52, .int .u8 53, .int .u8 54, .int .u8 55, .int .u8 56, .int .u8 57] 5 (9, 10))).heap.size = w.heap.size + 1 from by simp] at hL
  have e9 : (I (sumW [digits9].flatten) == 3808858755) = true := by rw [List.flatten_singleton, sum_digits9]; decide
  have e0 : (I (sumW ([] : List (List Int)).flatten) == 0) = true := by rw [List.flatten_nil, sum_nil]; decide
  have HB0 := hd_ hB0
  clear h9 hB0
  go_wp2_with (first
    | (go_at_call 28; (with_reducible refine (crc_Sum_any _ _ _ hL).mono ?_); rintro e w1 ⟨rfl, hb1⟩)
    | (go_at_call 28; (with_reducible refine (crc_Sum_any _ _ _ (rdl_nil _)).mono ?_); rintro e w2 ⟨rfl, hb2⟩))
  go_ret
  exact ⟨rfl, bel_trans (bel_trans HB0.out hb1) hb2⟩
end Go.Proofs.Ytdifppahpihhpaa
