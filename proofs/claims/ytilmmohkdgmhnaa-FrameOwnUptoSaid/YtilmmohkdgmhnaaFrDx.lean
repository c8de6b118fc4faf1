/- Streams of frames, cut and laid: merged out of FrameCa, FrameW, FrameCb, FrameDa to FrameDd. -/
import Derived.Test.YtilmmohkdgmhnaaFrameV
namespace Go.Proofs.Ytilmmohkdgmhnaa
open Go.RowKit
set_option maxRecDepth 100000
set_option linter.unusedVariables false
theorem front_app {l : List Int} (p : List Int) (h : frontB l = false) : frontB (l ++ p) = false := by
  match l with
  | [] => cases h
  | [x] =>
    cases hx : (x == 72)
    · cases p with
      | nil => simp [frontB, hx]
      | cons y r => simp [frontB, hx]
    · simp [frontB, hx] at h
  | x :: y :: r =>
    simp only [frontB, List.cons_append, List.length_cons, List.getD_cons_zero, List.getD_cons_succ] at h ⊢
    rw [decide_eq_false (by omega), decide_eq_false (by omega)] at h ⊢
    exact h
theorem front_app_t {l : List Int} (p : List Int) (h2 : 2 ≤ l.length) : frontB (l ++ p) = frontB l := by
  match l, h2 with
  | x :: y :: r, _ =>
    simp only [frontB, List.cons_append, List.length_cons, List.getD_cons_zero, List.getD_cons_succ]
    rw [decide_eq_false (by omega), decide_eq_false (by omega), decide_eq_false (by omega), decide_eq_false (by omega)]
theorem len_app {l : List Int} (p : List Int) (h : 10 ≤ l.length) : lenN (l ++ p) = lenN l := by
  unfold lenN
  rw [getD_left (by omega), getD_left (by omega), getD_left (by omega)]
theorem look_app {m : Int} {l : List Int} (p : List Int) (hb : IsBytes l) (h : lookN m l ≠ 1) : lookN m (l ++ p) = lookN m l := by
  unfold lookN at h ⊢
  by_cases hF : frontB l = false
  · rw [if_pos hF, if_pos (front_app p hF)]
  rw [if_neg hF] at h ⊢
  by_cases h10 : l.length < 10
  · rw [if_pos h10] at h; exact absurd rfl h
  rw [if_neg h10] at h ⊢
  have h10' : 10 ≤ l.length := by omega
  have hH : headB (l ++ p) = headB l := by
    unfold headB
    rw [getD_left (by omega), List.take_append_of_le_length h10']
  have hla : (l ++ p).length = l.length + p.length := List.length_append
  have hnn := lenN_nonneg hb
  rw [front_app_t p (by omega), if_neg hF, if_neg (by omega : ¬ (l ++ p).length < 10), hH, len_app p h10']
  by_cases hh : headB l = false
  · rw [if_pos hh, if_pos hh]
  rw [if_neg hh] at h ⊢
  rw [if_neg hh]
  by_cases hm : m < lenN l
  · rw [if_pos hm, if_pos hm]
  rw [if_neg hm] at h ⊢
  rw [if_neg hm]
  by_cases hs : (l.length : Int) < lenN l + 14
  · rw [if_pos hs] at h; exact absurd rfl h
  rw [if_neg hs, if_neg (by omega : ¬ ((l ++ p).length : Int) < lenN l + 14), List.take_append_of_le_length (by omega)]
theorem scanA_fs (m : Int) (e : Bool) : ∀ (n : Nat) (l : List Int) (fs : List (Int × List Int)) (j lo : Nat),
    scanA m e n l fs j lo = (fs ++ (scanA m e n l [] j lo).1, (scanA m e n l [] j lo).2)
  | 0, l, fs, j, lo => by simp [scanA]
  | n + 1, l, fs, j, lo => by
    rw [scanA, scanA]
    by_cases h0 : l.length = 0
    · rw [if_pos h0, if_pos h0]; simp
    rw [if_neg h0, if_neg h0]
    by_cases h3 : lookN m l = 3
    · rw [if_pos h3, if_pos h3, scanA_fs m e n _ (fs ++ _), scanA_fs m e n _ ([] ++ _)]
      simp
    rw [if_neg h3, if_neg h3]
    by_cases h2 : lookN m l = 2
    · rw [if_pos h2, if_pos h2, scanA_fs m e n _ fs]
    rw [if_neg h2, if_neg h2]
    by_cases h1 : lookN m l = 1 ∧ e = false
    · rw [if_pos h1, if_pos h1]; simp
    rw [if_neg h1, if_neg h1, scanA_fs m e n _ fs]
theorem scanA_fuel (m : Int) (e : Bool) : ∀ (n k : Nat) (l : List Int) (fs : List (Int × List Int)) (j lo : Nat), l.length ≤ n → l.length ≤ k → scanA m e n l fs j lo = scanA m e k l fs j lo
  | 0, 0, l, fs, j, lo, _, _ => rfl
  | 0, k + 1, l, fs, j, lo, hn, _ => by rw [scanA, scanA, if_pos (by omega)]
  | n + 1, 0, l, fs, j, lo, _, hk => by rw [scanA, scanA, if_pos (by omega)]
  | n + 1, k + 1, l, fs, j, lo, hn, hk => by
    rw [scanA, scanA]
    by_cases h0 : l.length = 0
    · rw [if_pos h0, if_pos h0]
    have hd : ∀ d, 1 ≤ d → (l.drop d).length ≤ n ∧ (l.drop d).length ≤ k := fun d hd => by rw [List.length_drop]; omega
    rw [scanA_fuel m e n k (l.drop _) _ _ _ (hd _ (by omega)).1 (hd _ (by omega)).2, scanA_fuel m e n k (l.drop 1) fs (j + 1) (lo + 1) (hd _ (by omega)).1 (hd _ (by omega)).2, scanA_fuel m e n k (l.drop 1) fs (j + 1) lo (hd _ (by omega)).1 (hd _ (by omega)).2]
/-- what was found in a beginning is found in the whole, and it goes on where the beginning stopped -/
theorem scanA_more (m : Int) (p : List Int) : ∀ (n : Nat) (l : List Int) (fs : List (Int × List Int)) (j lo k k' : Nat), IsBytes l → l.length ≤ n → (l ++ p).length ≤ k → ((scanA m false n l fs j lo).2.1 ++ p).length ≤ k' →
    scanA m false k (l ++ p) fs j lo = scanA m false k' ((scanA m false n l fs j lo).2.1 ++ p) (scanA m false n l fs j lo).1 (scanA m false n l fs j lo).2.2.1 (scanA m false n l fs j lo).2.2.2
  | 0, l, fs, j, lo, k, k', hb, hn, hk, hk' => scanA_fuel m false k k' _ _ _ _ hk hk'
  | n + 1, l, fs, j, lo, k, k', hb, hn, hk, hk' => by
    rw [scanA] at hk' ⊢
    by_cases h0 : l.length = 0
    · rw [if_pos h0] at hk' ⊢
      exact scanA_fuel m false k k' _ _ _ _ hk hk'
    rw [if_neg h0] at hk' ⊢
    have hla : (l ++ p).length = l.length + p.length := List.length_append
    have hlu : ¬ (l ++ p).length = 0 := by omega
    obtain ⟨k, rfl⟩ : ∃ q, k = q + 1 := ⟨k - 1, by omega⟩
    have hd : ∀ d, 1 ≤ d → d ≤ l.length → (l ++ p).drop d = l.drop d ++ p ∧ (l.drop d).length ≤ n ∧ (l.drop d ++ p).length ≤ k := fun d h1 h2 => by
      rw [List.drop_append_of_le_length h2, List.length_append, List.length_drop]
      exact ⟨rfl, by omega, by omega⟩
    by_cases h3 : lookN m l = 3
    · rw [if_pos h3] at hk' ⊢
      obtain ⟨_, e10, _, _, e5, _⟩ := lookN_3 h3
      have hnn := lenN_nonneg hb
      obtain ⟨d1, d2, d3⟩ := hd ((lenN l).toNat + 14) (by omega) (by omega)
      conv => lhs; rw [scanA]
      rw [if_neg hlu, look_app p hb (by rw [h3]; decide), if_pos h3, len_app p e10, d1, getD_left (by omega), List.drop_append_of_le_length e10, List.take_append_of_le_length (by rw [List.length_drop]; omega)]
      exact scanA_more m p n _ _ _ _ _ _ (bytes_drop hb _) d2 d3 hk'
    rw [if_neg h3] at hk' ⊢
    obtain ⟨d1, d2, d3⟩ := hd 1 (by omega) (by omega)
    by_cases h2 : lookN m l = 2
    · rw [if_pos h2] at hk' ⊢
      conv => lhs; rw [scanA]
      rw [if_neg hlu, look_app p hb (by rw [h2]; decide), if_neg h3, if_pos h2, d1]
      exact scanA_more m p n _ _ _ _ _ _ (bytes_drop hb _) d2 d3 hk'
    rw [if_neg h2] at hk' ⊢
    by_cases h1 : lookN m l = 1
    · rw [if_pos ⟨h1, rfl⟩] at hk' ⊢
      exact scanA_fuel m false _ k' _ _ _ _ hk hk'
    rw [if_neg (by simp [h1])] at hk' ⊢
    conv => lhs; rw [scanA]
    rw [if_neg hlu, look_app p hb h1, if_neg h3, if_neg h2, if_neg (by simp [h1]), d1]
    exact scanA_more m p n _ _ _ _ _ _ (bytes_drop hb _) d2 d3 hk'
theorem feedA_flat (m : Int) : ∀ (ps : List (List Int)) (x : List Int), IsBytes x → (∀ p ∈ ps, IsBytes p) → feedA m ps (scanA m false x.length x [] 0 0) = scanA m false (x ++ ps.flatten).length (x ++ ps.flatten) [] 0 0
  | [], x, _, _ => by rw [feedA, List.flatten_nil, List.append_nil]
  | p :: ps, x, hb, hp => by
    rw [feedA]
    have hm := scanA_more m p x.length x [] 0 0 (x ++ p).length _ hb (Nat.le_refl _) (Nat.le_refl _) (Nat.le_refl _)
    rw [← scanA_fs m false _ _ (scanA m false x.length x [] 0 0).1, ← hm, feedA_flat m ps (x ++ p) (bytes_append hb (hp p (by simp))) (fun q hq => hp q (by simp [hq])), List.flatten_cons, List.append_assoc]
theorem feedA_all (m : Int) (ps : List (List Int)) (hp : ∀ p ∈ ps, IsBytes p) : feedA m ps ([], [], 0, 0) = scanA m false ps.flatten.length ps.flatten [] 0 0 :=
  feedA_flat m ps [] (by intro x hx; cases hx) hp
theorem look_wait {m : Int} {l : List Int} (hm : 0 ≤ m) (h : lookN m l = 1) : (l.length : Int) < m + 14 := by
  unfold lookN at h
  by_cases hF : frontB l = false
  · rw [if_pos hF] at h; cases h
  rw [if_neg hF] at h
  by_cases h10 : l.length < 10
  · omega
  rw [if_neg h10] at h
  by_cases hh : headB l = false
  · rw [if_pos hh] at h; cases h
  rw [if_neg hh] at h
  by_cases hx : m < lenN l
  · rw [if_pos hx] at h; cases h
  rw [if_neg hx] at h
  by_cases hs : (l.length : Int) < lenN l + 14
  · omega
  rw [if_neg hs] at h
  split at h <;> cases h
theorem scanA_wait {m : Int} (hm : 0 ≤ m) : ∀ (n : Nat) (l : List Int) (fs : List (Int × List Int)) (j lo : Nat), l.length ≤ n → ((scanA m false n l fs j lo).2.1.length : Int) < m + 14
  | 0, l, fs, j, lo, hn => by rw [scanA]; simp only; omega
  | n + 1, l, fs, j, lo, hn => by
    rw [scanA]
    by_cases h0 : l.length = 0
    · rw [if_pos h0]; simp only; omega
    rw [if_neg h0]
    split
    · exact scanA_wait hm n _ _ _ _ (by rw [List.length_drop]; omega)
    split
    · exact scanA_wait hm n _ _ _ _ (by rw [List.length_drop]; omega)
    by_cases h1 : lookN m l = 1
    · rw [if_pos ⟨h1, rfl⟩]; exact look_wait hm h1
    rw [if_neg (by simp [h1])]
    exact scanA_wait hm n _ _ _ _ (by rw [List.length_drop]; omega)
/-- the frames' bytes -/
def cntN (fs : List (Int × List Int)) : Nat := (fs.map fun f => f.2.length + 14).sum
theorem cnt_append (a b : List (Int × List Int)) : cntN (a ++ b) = cntN a + cntN b := by simp [cntN]
theorem cnt_take {fs : List (Int × List Int)} {k : Nat} (h : k < fs.length) : cntN (fs.take (k + 1)) = cntN (fs.take k) + ((fs.getD k (0, [])).2.length + 14) := by
  rw [List.take_add_one, cnt_append, List.getElem?_eq_getElem h, List.getD_eq_getElem?_getD, List.getElem?_eq_getElem h]
  simp [cntN]
theorem cnt_le (fs : List (Int × List Int)) (k : Nat) : cntN (fs.take k) ≤ cntN fs := by
  conv => rhs; rw [← List.take_append_drop k fs]
  rw [cnt_append]; omega
theorem scanA_count (m : Int) (e : Bool) : ∀ (n : Nat) (l : List Int) (fs : List (Int × List Int)) (j lo : Nat), IsBytes l →
    cntN (scanA m e n l fs j lo).1 + (scanA m e n l fs j lo).2.1.length + (scanA m e n l fs j lo).2.2.1 = cntN fs + l.length + j
  | 0, l, fs, j, lo, _ => rfl
  | n + 1, l, fs, j, lo, hb => by
    rw [scanA]
    by_cases h0 : l.length = 0
    · rw [if_pos h0]
    rw [if_neg h0]
    by_cases h3 : lookN m l = 3
    · rw [if_pos h3, scanA_count m e n _ _ _ _ (bytes_drop hb _), cnt_append]
      obtain ⟨_, e10, _, _, e5, _⟩ := lookN_3 h3
      have := lenN_nonneg hb
      simp only [cntN, List.map_cons, List.map_nil, List.sum_cons, List.sum_nil, List.length_take, List.length_drop]
      omega
    rw [if_neg h3]
    split
    · rw [scanA_count m e n _ _ _ _ (bytes_drop hb _), List.length_drop]; omega
    split
    · rfl
    · rw [scanA_count m e n _ _ _ _ (bytes_drop hb _), List.length_drop]; omega
/-- a frame of a list, by its place -/
theorem FrL.at {W : World} {base : Nat} {lv : Value} {fs : List (Int × List Int)} (h : FrL W base 28 5 lv fs) (i : Nat) (hi : i < fs.length) :
    ∃ bl off A c, (∀ W', Sem.run Try.prog (Instr.indexAt 52 lv (.int .i64 (i : Int))) W' = .ok (.pointer (some ⟨bl, off, none⟩)) W') ∧ W.cell? ⟨bl, off, none⟩ = some (.int .i64 (fs.getD i (0, [])).1) ∧ W.cell? ⟨bl, off + 1, none⟩ = some (.slice A (fs.getD i (0, [])).2.length c) ∧ Rd W (.slice A (fs.getD i (0, [])).2.length c) (fs.getD i (0, [])).2 := by
  obtain ⟨us, h1, h2, h3⟩ := h
  obtain ⟨bl, off, k1, k2⟩ := (RdC.own h2).at (P := Try.prog) Try.underlying52 infoFr .i64 i hi (by omega)
  obtain ⟨g1, g2⟩ := frCells_get fs us i h1 hi
  have hO := h3 i hi
  obtain ⟨A, c, hv, _⟩ := own_slice hO
  have c0 := k2 0 (by omega)
  have c1 := k2 1 (by omega)
  rw [Nat.add_zero, Nat.add_zero, g1] at c0
  rw [g2, hv] at c1
  rw [hv] at hO
  exact ⟨bl, off, A, c, k1, c0, c1, hO.rd⟩
/-- all that a splitter finds in bytes and in their end -/
def foundIn (m : Int) (c : List Int) : List (Int × List Int) :=
  (scanA m false c.length c [] 0 0).1 ++ (scanA m true (scanA m false c.length c [] 0 0).2.1.length (scanA m false c.length c [] 0 0).2.1 [] (scanA m false c.length c [] 0 0).2.2.1 (scanA m false c.length c [] 0 0).2.2.2).1
set_option maxHeartbeats 4000000 in
theorem refused_any (k : Int) (A : Option Addr) (n cf : Nat) (v : Value) (c : List Int) (w : World) (HR : Rd w v c) (hl : c.length ≤ 35184372088832) (hpos : 0 < c.length) (hn : n ≤ 9223372036854775807) (hD : decE c ≠ 0)
    (hNone : ∀ f ∈ foundIn 1048576 c, f.2.length ≠ n) (hBare : (∀ i, 1 ≤ i → i < c.length → c.getD i 0 ≠ 72) → foundIn 1048576 c = []) :
    Calls Try.prog 44 #[.agg #[.int .i64 k, .slice A n cf], v] w fun e w' => e = .returned (.bool true) ∧ Below w.heap.size w w' := by
  have hOE : oneE c ≠ 0 := by unfold oneE; rw [if_pos hD]; exact hD
  obtain ⟨A', cv, rfl, hn0, hmx, hx0, hc1⟩ := HR.form
  obtain ⟨bc, oc, rfl, hx1⟩ := hc1 0 hpos
  have hc : Hid (∀ i, i < c.length → w.cell? ⟨bc, oc + i, none⟩ = some (.int .u8 (c.getD i 0))) := hd_ fun i hi => by
    obtain ⟨b', o', he, h⟩ := hc1 i hi
    injection he with he
    injection he with e1 e2
    subst e1; subst e2
    exact h
  clear hx0 hx1 hc1
  unfold maxLen at hmx
  have hbnd := scanA_bounds 1048576 false c.length c [] 0 0 HR.1
  rw [List.length_nil, Nat.zero_mul, Nat.zero_add] at hbnd
  have hfe : feedA 1048576 [c] ([], [], 0, 0) = scanA 1048576 false c.length c [] 0 0 := rfl
  unfold foundIn at hNone hBare
  generalize scanA 1048576 false c.length c [] 0 0 = S at *
  have hS0 : IsBytes S.2.1 → True := fun _ => trivial
  have HFE := hd_ hfe
  clear hfe hS0
  obtain ⟨E, hE⟩ : ∃ E, scanA 1048576 true S.2.1.length S.2.1 [] S.2.2.1 S.2.2.2 = E := ⟨_, rfl⟩
  rw [hE] at hNone hBare
  have HE := hd_ hE
  have HNO := hd_ hNone
  have HBA := hd_ hBare
  have HBN := hd_ hbnd
  clear hE hNone hBare hbnd
  have q0 : (w.alloc (.cells #[.int .i64 k, .slice A n cf] 28)).cell? ⟨w.heap.size, 0, none⟩ = some (.int .i64 k) := World.cell?_alloc_at _ _ _ 0 rfl
  have q1 : (w.alloc (.cells #[.int .i64 k, .slice A n cf] 28)).cell? ⟨w.heap.size, 1, none⟩ = some (.slice A n cf) := World.cell?_alloc_at _ _ _ 1 rfl
  have hB0 := al1 (Below.refl w.heap.size w) (.cells #[.int .i64 k, .slice A n cf] 28)
  go_enter Try.func44, Try.ntmps44
  go_upto_region 1 with fail
  generalize w.alloc (.cells #[.int .i64 k, .slice A n cf] 28) = W0 at *
  have hR0 := HR.keep hB0
  go_wp2_with fail
  refine (frame_Decode_any _ _ _ hR0).mono ?_
  rintro e w1 ⟨v1, rfl, HO1, HB1⟩
  obtain ⟨A1, c1, rfl, _⟩ := own_slice HO1
  obtain ⟨oE, hoE⟩ : ∃ x, oneE c = x := ⟨_, rfl⟩
  rw [hoE] at hOE
  have HOE := hd_ hoE
  clear hoE
  have hDB : (decE c == 0) = false := by rw [beq_eq_false_iff_ne]; exact hD
  have hOB : (oE == 0) = false := by rw [beq_eq_false_iff_ne]; exact hOE
  clear HO1 hD hOE
  generalize decE c = dE at *
  generalize decK c = dK at *
  generalize decN c = dN at *
  generalize (decBody c).length = dL at *
  have hB1 := HB1
  have hBX := al1 (Below.refl w1.heap.size w1) (.cells #[.int .i64 dK, .slice A1 dL c1] 28)
  have hB2 := bel_trans hB1 hBX
  go_upto_region 2 with fail
  generalize w1.alloc (.cells #[.int .i64 dK, .slice A1 dL c1] 28) = W2 at *
  go_wp2_with fail
  refine (frame_One_any _ _ _ (hR0.keep hB2)).mono ?_
  rintro e w3 ⟨v3, rfl, HO3, HB3⟩
  obtain ⟨A3, c3, rfl, _⟩ := own_slice HO3
  rw [HOE.out]
  clear HO3
  generalize oneK c = dK3 at *
  generalize (oneBody c).length = dL3 at *
  have hB3 := bel_trans hB2 HB3
  have hBY := al1 (Below.refl w3.heap.size w3) (.cells #[.int .i64 dK3, .slice A3 dL3 c3] 28)
  have hB4 := bel_trans hB3 hBY
  go_upto_region 3 with fail
  generalize w3.alloc (.cells #[.int .i64 dK3, .slice A3 dL3 c3] 28) = W4 at *
  have hone := crc_Sum_one _ _ W4 (hR0.keep hB4) rfl
  have hal4 := al1 (Below.refl W4.heap.size W4) (.cells #[.slice (some ⟨bc, oc, none⟩) c.length cv] 24)
  go_wp2_with fail
  refine (all_any 1048576 _ [c] _ hone (by decide) (by decide) (by simpa using hl)).mono ?_
  rintro e w5 ⟨lv, g, rfl, hg5, HS5, HF5, HB5⟩
  rw [HFE.out] at HS5 HF5
  have hB5 := bel_trans hB4 (bel_trans hal4 HB5)
  obtain ⟨b1, b2, b3⟩ := HBN.out
  have hEn := End_any g 1048576 S.2.1 S.2.2.1 S.2.2.2 w5 HS5 (by decide) (by omega) (by omega) (by omega)
  have hEb := scanA_bounds 1048576 true S.2.1.length S.2.1 [] S.2.2.1 S.2.2.2 (by obtain ⟨_, _, hr⟩ := HS5; exact hr.1.1)
  rw [HE.out] at hEn hEb
  rw [List.length_nil, Nat.zero_mul, Nat.zero_add] at hEb
  have hl32 : Hid ((S.1.length + E.1.length) * 32 ≤ 140737488355328) := hd_ (by omega)
  clear hEb b1 b2 b3
  have hgw : W0.heap.size ≤ g := Nat.le_trans (bel_trans hB4 hal4).size hg5
  go_upto_region 6 with fail
  go_wp2_with fail
  refine hEn.mono ?_
  rintro e w6 ⟨lv2, rfl, HS6, HF6, HG6⟩
  have HF5 := HF5.base (Nat.le_trans hB4.size hal4.size)
  have HF56 : FrL w6 W0.heap.size 28 5 lv S.1 := by
    obtain ⟨v', hbx, _⟩ := HS5
    exact HF5.boxed hbx HG6 (by decide) (by decide)
  have HF6 := HF6.base hB5.size
  have hB6 : Below W0.heap.size W0 w6 := below_row hB5 HG6 hgw hB5.size
  clear HS5 HF5 HS6
  go_upto_region 7 with (at_builtin; (refine app_frames (w0 := W0) W0.heap.size rfl _ _ 52 28 5 (.agg #[.int .i64 0, .slice none 0 0]) rfl Try.underlying52 infoFr rfl (by decide) lv lv2 S.1 E.1 rfl rfl HF56 HF6 hB6 hB6.size hl32.out ?_); intro v7 w7 HF7 HB7 hg7 hk7)
  obtain ⟨us, hus, hrow, hx7⟩ := id HF7
  have hlenL := (RdC.own hrow).len (P := Try.prog) 52 28 3 Try.underlying52
  clear hx7 hus hrow us hg7 hk7 HF56 HF6 hB6 HG6 hEn hl32
  have hLL : Hid ((S.1 ++ E.1).length ≤ 9223372036854775807) := hd_ (by
    obtain ⟨us, h1, h2, _⟩ := HF7
    obtain ⟨_, _, cap, _, k1, k2, _⟩ := RdC.own h2
    unfold maxLen at k2
    omega)
  generalize S.1 ++ E.1 = L at *
  have hBw : Below w.heap.size w w7 := bel_trans hB0 HB7
  have q07 := cell_keep HB7 q0
  have q17 := cell_keep HB7 q1
  have hcI : (1 : Int) ≤ (c.length : Int) := by omega
  go_wp2
  go_loop [13, 14] (fun vb vi => ∃ (i : Nat) (bb : Bool), 1 ≤ i ∧ i ≤ c.length ∧ vi = .int .i64 i ∧ vb = .bool bb ∧ Hid (bb = true → ∀ j, 1 ≤ j → j < i → c.getD j 0 ≠ 72)) (fun _ i => c.length - (intOf i).toNat)
  case atStart => exact ⟨1, true, by omega, by omega, rfl, rfl, hd_ fun _ j h1 h2 => by omega⟩
  case round =>
    obtain ⟨i, bb, hi1, hic, rfl, rfl, HI⟩ := hrel
    by_cases hlt : i < c.length
    · have hcell := cell_keep hBw (hc.out i hlt)
      obtain ⟨p0, p1⟩ := bytes_at HR.1 i
      by_cases h72 : c.getD i 0 = 72
      · rw [h72] at hcell
        clear p0 p1 h72
        go_wp2
        go_round
        case rel => exact ⟨i + 1, false, by omega, by omega, by go_num, rfl, hd_ fun h => absurd h (by simp)⟩
        case measure => (simp [intOf]; try omega)
      · have HI2 : Hid (bb = true → ∀ j, 1 ≤ j → j < i + 1 → c.getD j 0 ≠ 72) := hd_ fun h j h1 h2 => by
          by_cases hj : j < i
          · exact HI.out h j h1 hj
          · obtain rfl : j = i := by omega
            exact h72
        have h72B : (c.getD i 0 == 72) = false := by rw [beq_eq_false_iff_ne]; exact h72
        clear HI
        generalize c.getD i 0 = x at *
        go_wp2
        go_round
        case rel => exact ⟨i + 1, bb, by omega, by omega, by go_num, rfl, HI2⟩
        case measure => (simp [intOf]; try omega)
    · obtain rfl : i = c.length := by omega
      have hBL : Hid (bb = true → L = []) := hd_ fun h => HBA.out fun i h1 h2 => HI.out h i h1 h2
      clear HI hi1 hic
      go_wp2
      go_loopw [15] (fun vi wr => ∃ i : Nat, i ≤ L.length ∧ vi = .int .i64 i ∧ Below w7.heap.size w7 wr) (fun i _ => L.length - (intOf i).toNat)
      case atStart => exact ⟨0, Nat.zero_le _, rfl, Below.refl _ _⟩
      case round =>
        obtain ⟨i, hi, rfl, hbel⟩ := hrel
        by_cases hlt2 : i < L.length
        · obtain ⟨bl, off, A9, c9, hat, e1, e2, e3⟩ := HF7.at i hlt2
          have hlI : (i : Int) < (L.length : Int) := by omega
          have hLb := hLL.out
          have hLbI : (i : Int) + 1 ≤ 9223372036854775807 := by omega
          have hne : (L.getD i (0, [])).2.length ≠ n := by
            refine HNO.out _ ?_
            rw [List.getD_eq_getElem?_getD, List.getElem?_eq_getElem hlt2]
            exact List.getElem_mem hlt2
          have hn63 := e3.lt63
          have e1 := cell_keep hbel e1
          have e2 := cell_keep hbel e2
          have q0r := cell_keep hbel q07
          have q1r := cell_keep hbel q17
          clear e3
          generalize (L.getD i (0, [])).2.length = nl at *
          generalize (L.getD i (0, [])).1 = kl at *
          have hneB : ((nl : Int) == (n : Int)) = false := by rw [beq_eq_false_iff_ne]; omega
          by_cases hk : kl = k
          · subst hk
            go_upto_region 16 with fail
            go_quiet (fail)
            go_wp2
            have hbn := below_drewN hbel nq
            go_roundw
            case rel => exact ⟨i + 1, by omega, by go_num, hbn⟩
            case measure => (simp [intOf]; try omega)
          · have hkB : (kl == k) = false := by rw [beq_eq_false_iff_ne]; exact hk
            go_upto_region 16 with fail
            first | (go_quiet (fail)) | fail
            go_wp2
            have hbn := below_drewN hbel nq
            go_roundw
            case rel => exact ⟨i + 1, by omega, by go_num, hbn⟩
            case measure => (simp [intOf]; try omega)
        · obtain rfl : i = L.length := by omega
          have hBe : Below w.heap.size w wr := bel_trans hBw hbel
          cases bb
          · go_wp2
            go_ret
            exact ⟨rfl, hBe⟩
          · have hL0 : L.length = 0 := by rw [hBL.out rfl]; rfl
            have hLI : ((L.length : Int) == 0) = true := by rw [hL0]; rfl
            go_wp2
            go_ret
            exact ⟨rfl, hBe⟩
theorem FrL.size {W : World} {base : Nat} {eF e8 : TypeId} {lv : Value} {fs : List (Int × List Int)} (h : FrL W base eF e8 lv fs) : fs.length ≤ 9223372036854775807 := by
  obtain ⟨us, h1, h2, _⟩ := h
  obtain ⟨_, _, cap, _, k1, k2, _⟩ := RdC.own h2
  unfold maxLen at k2
  omega
set_option maxHeartbeats 2000000 in
theorem alike_any (b1 b2 : Nat) (lv lu : Value) (fs : List (Int × List Int)) (w : World) (H1 : FrL w b1 28 5 lv fs) (H2 : FrL w b2 28 5 lu fs) :
    Calls Try.prog 41 #[lv, lu] w fun e w' => e = .returned (.bool true) ∧ Below w.heap.size w w' := by
  have hsz := H1.size
  obtain ⟨us1, hus1, hrow1, hx1⟩ := id H1
  have hlen1 := (RdC.own hrow1).len (P := Try.prog) 52 28 3 Try.underlying52
  clear hx1 hrow1 hus1 us1
  obtain ⟨us2, hus2, hrow2, hx2⟩ := id H2
  have hlen2 := (RdC.own hrow2).len (P := Try.prog) 52 28 3 Try.underlying52
  clear hx2 hrow2 hus2 us2
  go_enter Try.func41, Try.ntmps41
  go_wp2
  go_loopw [5] (fun vi wr => ∃ k : Nat, k ≤ fs.length ∧ vi = .int .i64 k ∧ Below w.heap.size w wr) (fun i _ => fs.length - (intOf i).toNat)
  case atStart => exact ⟨0, Nat.zero_le _, rfl, Below.refl _ _⟩
  case round =>
    obtain ⟨k, hk, rfl, HB⟩ := hrel
    by_cases hlt : k < fs.length
    · obtain ⟨bl1, o1, A1, c1, i1, p1, q1, r1⟩ := (H1.keep HB).at k hlt
      obtain ⟨bl2, o2, A2, c2, i2, p2, q2, r2⟩ := (H2.keep HB).at k hlt
      generalize fs.getD k (0, []) = f at *
      have hlI : (k : Int) < (fs.length : Int) := by omega
      go_upto_region 4 with fail
      go_region_with (go_at_call 35; with_reducible refine (is_true _ _ _ _ _ _ _ _ _ (r1.keep (Below.refl _ _).drew) (r2.keep (Below.refl _ _).drew)).mono ?_; rintro e w1 ⟨rfl, HB1⟩)
      all_goals go_wp2
      all_goals go_roundw
      case rel => exact ⟨k + 1, by omega, by go_num, bel_trans HB (bel_trans (Below.refl _ _).drew HB1)⟩
      case measure => (simp [intOf]; try omega)
      case rel => exact ⟨k + 1, by omega, by go_num, bel_trans HB (bel_trans (Below.refl _ _).drew HB1)⟩
      case measure => (simp [intOf]; try omega)
    · obtain rfl : k = fs.length := by omega
      go_wp2
      go_ret
      exact ⟨rfl, HB⟩
def FrC (w : World) (vs : List Value) (fs : List (Int × List Int)) : Prop :=
  vs.length = fs.length * 2 ∧ ∀ i, i < fs.length → vs[i * 2]? = some (.int .i64 (fs.getD i (0, [])).1) ∧ ∃ u, vs[i * 2 + 1]? = some u ∧ Rd w u (fs.getD i (0, [])).2
theorem FrC.nil (w : World) : FrC w [] [] := ⟨rfl, fun i hi => absurd hi (by simp)⟩
theorem FrC.append {w : World} {vs us : List Value} {fs gs : List (Int × List Int)} (h : FrC w vs fs) (k : FrC w us gs) : FrC w (vs ++ us) (fs ++ gs) := by
  obtain ⟨h1, h2⟩ := h
  obtain ⟨k1, k2⟩ := k
  refine ⟨by rw [List.length_append, List.length_append]; omega, fun i hi => ?_⟩
  rw [List.length_append] at hi
  by_cases hlt : i < fs.length
  · obtain ⟨a, u, b, c⟩ := h2 i hlt
    rw [getD_left hlt, List.getElem?_append_left (by omega), List.getElem?_append_left (by omega)]
    exact ⟨a, u, b, c⟩
  · obtain ⟨a, u, b, c⟩ := k2 (i - fs.length) (by omega)
    have e2 : (fs ++ gs).getD i (0, []) = gs.getD (i - fs.length) (0, []) := by rw [List.getD_eq_getElem?_getD, List.getD_eq_getElem?_getD, List.getElem?_append_right (by omega)]
    rw [e2, List.getElem?_append_right (by omega), List.getElem?_append_right (by omega), show i * 2 - vs.length = (i - fs.length) * 2 by omega, show i * 2 + 1 - vs.length = (i - fs.length) * 2 + 1 by omega]
    exact ⟨a, u, b, c⟩
theorem FrC.one {w : World} {vs : List Value} {fs : List (Int × List Int)} (h : FrC w vs fs) : ∀ u ∈ vs, u.oneCell' = true := by
  intro u hu
  obtain ⟨j, hj, rfl⟩ := List.mem_iff_getElem.1 hu
  obtain ⟨h1, h2⟩ := h
  obtain ⟨a, x, b, c⟩ := h2 (j / 2) (by omega)
  by_cases hm : j % 2 = 0
  · rw [show j / 2 * 2 = j by omega, List.getElem?_eq_getElem hj] at a
    injection a with a
    rw [a]; rfl
  · rw [show j / 2 * 2 + 1 = j by omega, List.getElem?_eq_getElem hj] at b
    injection b with b
    obtain ⟨A, cp, hv, _⟩ := c.form
    rw [b, hv]; rfl
theorem FrC.mono {w w1 : World} {vs : List Value} {fs : List (Int × List Int)} (h : FrC w vs fs) (hb : Below w.heap.size w w1) : FrC w1 vs fs :=
  ⟨h.1, fun i hi => by obtain ⟨a, u, b, c⟩ := h.2 i hi; exact ⟨a, u, b, c.keep hb⟩⟩
def RdF (w W : World) (lv : Value) (fs : List (Int × List Int)) : Prop := ∃ vs, FrC w vs fs ∧ RdC 2 W lv fs.length vs
def FrI (w W : World) (base : Nat) (lv : Value) (fs : List (Int × List Int)) : Prop := ∃ vs, FrC w vs fs ∧ W.ownsRow base 28 2 lv fs.length vs
theorem FrI.rdf {w W : World} {base : Nat} {lv : Value} {fs : List (Int × List Int)} (h : FrI w W base lv fs) : RdF w W lv fs := by
  obtain ⟨vs, h1, h2⟩ := h
  exact ⟨vs, h1, RdC.own h2⟩
theorem FrI.nil (w W : World) (base : Nat) : FrI w W base (.slice none 0 0) [] := ⟨[], FrC.nil w, World.ownsRow_nil W base _ 2⟩
theorem FrI.keep {w W W1 : World} {base : Nat} {lv : Value} {fs : List (Int × List Int)} (h : FrI w W base lv fs) (hb : Below W.heap.size W W1) : FrI w W1 base lv fs := by
  obtain ⟨vs, h1, h2⟩ := h
  exact ⟨vs, h1, row_keep h2 hb⟩
theorem FrI.grown {w W W1 : World} {base b2 size n : Nat} {e : TypeId} {lv v : Value} {xs : List Value} {fs : List (Int × List Int)} (h : FrI w W base lv fs) (ho : W.ownsRow b2 e size v n xs) (hg : W.grownBy W1 v.ownBlock) (hne : 28 ≠ e) : FrI w W1 base lv fs := by
  obtain ⟨vs, h1, h2⟩ := h
  exact ⟨vs, h1, h2.kept hg (own_types h2 ho hne)⟩
theorem FrI.base {w W : World} {base base' : Nat} {lv : Value} {fs : List (Int × List Int)} (h : FrI w W base lv fs) (hb : base' ≤ base) : FrI w W base' lv fs := by
  obtain ⟨vs, h1, h2⟩ := h
  exact ⟨vs, h1, row_base h2 hb⟩
theorem RdF.keep {w W W1 : World} {lv : Value} {fs : List (Int × List Int)} (h : RdF w W lv fs) (hb : Below W.heap.size W W1) : RdF w W1 lv fs := by
  obtain ⟨vs, h1, h2⟩ := h
  exact ⟨vs, h1, h2.keep hb⟩
theorem RdF.mono {w w1 W : World} {lv : Value} {fs : List (Int × List Int)} (h : RdF w W lv fs) (hb : Below w.heap.size w w1) : RdF w1 W lv fs := by
  obtain ⟨vs, h1, h2⟩ := h
  exact ⟨vs, h1.mono hb, h2⟩
theorem FrL.rdf {W : World} {base : Nat} {lv : Value} {fs : List (Int × List Int)} (h : FrL W base 28 5 lv fs) : RdF W W lv fs := by
  obtain ⟨us, h1, h2, h3⟩ := h
  refine ⟨frCells fs us, ⟨frCells_length fs us h1, fun i hi => ?_⟩, RdC.own h2⟩
  obtain ⟨g1, g2⟩ := frCells_get fs us i h1 hi
  exact ⟨g1, _, g2, (h3 i hi).rd⟩
/-- a frame of a list, by its place -/
theorem RdF.at {w W : World} {lv : Value} {fs : List (Int × List Int)} (h : RdF w W lv fs) (i : Nat) (hi : i < fs.length) :
    ∃ bl off A c, (∀ W', Sem.run Try.prog (Instr.indexAt 52 lv (.int .i64 (i : Int))) W' = .ok (.pointer (some ⟨bl, off, none⟩)) W') ∧ W.cell? ⟨bl, off, none⟩ = some (.int .i64 (fs.getD i (0, [])).1) ∧ W.cell? ⟨bl, off + 1, none⟩ = some (.slice A (fs.getD i (0, [])).2.length c) ∧ Rd w (.slice A (fs.getD i (0, [])).2.length c) (fs.getD i (0, [])).2 := by
  obtain ⟨vs, ⟨h1, h2⟩, h3⟩ := h
  obtain ⟨bl, off, k1, k2⟩ := h3.at (P := Try.prog) Try.underlying52 infoFr .i64 i hi (by omega)
  obtain ⟨g1, u, g2, hu⟩ := h2 i hi
  obtain ⟨A, c, hv, _⟩ := hu.form
  have c0 := k2 0 (by omega)
  have c1 := k2 1 (by omega)
  rw [Nat.add_zero, Nat.add_zero, g1] at c0
  rw [g2, hv] at c1
  rw [hv] at hu
  exact ⟨bl, off, A, c, k1, c0, c1, hu⟩
theorem RdF.size {w W : World} {lv : Value} {fs : List (Int × List Int)} (h : RdF w W lv fs) : fs.length ≤ 9223372036854775807 := by
  obtain ⟨vs, _, h2⟩ := h
  obtain ⟨_, _, cap, _, k1, k2, _⟩ := h2
  unfold maxLen at k2
  omega
theorem RdF.len {w W : World} {lv : Value} {fs : List (Int × List Int)} (h : RdF w W lv fs) : ∀ W', Sem.run Try.prog (Builtin.len_ #[52] 3 #[lv]) W' = Result.ok (.int .i64 fs.length) W' := by
  obtain ⟨vs, _, h2⟩ := h
  exact h2.len (P := Try.prog) 52 28 3 Try.underlying52
theorem rdf_of {w : World} {v : Value} {x : List (Int × List Int × Unit)} (h : RSl 2 32 RFrame w [v] x) : RdF w w v (x.map fun a => (a.1, a.2.1)) := by
  obtain ⟨v', vs, hv, h1, _, h3⟩ := h
  injection hv with hv
  subst hv
  have hl : vs.length = x.length * 2 := h1.1
  refine ⟨vs, ⟨by rw [List.length_map]; exact hl, fun i hi => ?_⟩, by rw [List.length_map]; exact h1⟩
  rw [List.length_map] at hi
  obtain ⟨a, ha, hln, hr⟩ := h3 i hi
  have e1 : (x.map fun a => (a.1, a.2.1)).getD i (0, []) = (a.1, a.2.1) := by rw [List.getD_eq_getElem?_getD, List.getElem?_map, ha]; rfl
  rw [e1]
  obtain ⟨c, hc⟩ : ∃ c, (vs.drop (i * 2)).take 2 = c := ⟨_, rfl⟩
  rw [hc] at hr hln
  have g : ∀ j, j < 2 → vs[i * 2 + j]? = c[j]? := fun j hj => by rw [← hc, List.getElem?_take_of_lt hj, List.getElem?_drop]
  match c, hln, hr, g with
  | [c0, c1], _, hr, g =>
    obtain ⟨⟨r1, _⟩, ⟨u, r2, r3, _⟩, _⟩ := hr
    simp only [List.drop_zero, List.take_succ_cons, List.take_zero, List.drop_succ_cons, List.cons.injEq, and_true] at r1 r2
    refine ⟨?_, u, ?_, r3⟩
    · have := g 0 (by omega); rw [Nat.add_zero] at this; rw [this, r1]; rfl
    · rw [g 1 (by omega), r2]; rfl
section
variable {ops : Array Oper} {rest : List Oper} {o : Oper} {a : Act} {Q : Exit → Act → World → Prop}
/-- a list of frames behind another one -/
theorem app_fri {w0 w W : World} (base : Nat) (hgd : o.guard = none) (s x : Operand)
    (ho : o.op = .call { callee := .builtin .append, args := #[s, x], argTypes := #[52, 52] })
    (v y : Value) (fs gs : List (Int × List Int)) (hs : a.eval s = v) (hx : a.eval x = y)
    (HF : FrI w W base v fs) (HG : RdF w W y gs) (HB : Below base w0 W) (hbase : base ≤ W.heap.size) (hl : (fs.length + gs.length) * 32 ≤ 140737488355328)
    (h : ∀ v1 w1, FrI w w1 base v1 (fs ++ gs) → Below base w0 w1 → W.grownBy w1 v.ownBlock → (∀ b cur ty, W.heap[b]? = some (.cells cur ty (0, 0)) → 28 ≠ ty → some b ≠ v.ownBlock) → wpList Try.prog ops Q rest (a.put o.dst v1) w1) :
    wpList Try.prog ops Q (o :: rest) a W := by
  obtain ⟨us, h1, h2⟩ := HF
  obtain ⟨vs, g1, g2⟩ := HG
  refine app_rd base hgd s x 52 28 (.agg #[.int .i64 0, .slice none 0 0]) 2 32 ho Try.underlying52 infoFr rfl (by omega) v y fs.length gs.length us vs hs hx h2 g2 g1.one hbase (by omega) hl ?_
  intro v1 w1 k1 k2 k3
  refine h v1 w1 ⟨us ++ vs, h1.append g1, by rw [List.length_append]; exact k1⟩ (HB.grown k2 hbase fun k hk => (h2.lt k hk).1) k2 (fun b cur ty hb hn => kind_ne h2 hb hn)
end
set_option maxHeartbeats 2000000 in
theorem alike_rd (lv lu : Value) (fs : List (Int × List Int)) (w : World) (H1 : RdF w w lv fs) (H2 : RdF w w lu fs) :
    Calls Try.prog 41 #[lv, lu] w fun e w' => e = .returned (.bool true) ∧ Below w.heap.size w w' := by
  have hsz := H1.size
  have hlen1 := H1.len
  have hlen2 := H2.len
  go_enter Try.func41, Try.ntmps41
  go_wp2
  go_loopw [5] (fun vi wr => ∃ k : Nat, k ≤ fs.length ∧ vi = .int .i64 k ∧ Below w.heap.size w wr) (fun i _ => fs.length - (intOf i).toNat)
  case atStart => exact ⟨0, Nat.zero_le _, rfl, Below.refl _ _⟩
  case round =>
    obtain ⟨k, hk, rfl, HB⟩ := hrel
    by_cases hlt : k < fs.length
    · obtain ⟨bl1, o1, A1, c1, i1, p1, q1, r1⟩ := ((H1.keep HB).mono HB).at k hlt
      obtain ⟨bl2, o2, A2, c2, i2, p2, q2, r2⟩ := ((H2.keep HB).mono HB).at k hlt
      generalize fs.getD k (0, []) = f at *
      have hlI : (k : Int) < (fs.length : Int) := by omega
      go_upto_region 4 with fail
      go_region_with (go_at_call 35; with_reducible refine (is_true _ _ _ _ _ _ _ _ _ (r1.keep (Below.refl _ _).drew) (r2.keep (Below.refl _ _).drew)).mono ?_; rintro e w1 ⟨rfl, HB1⟩)
      all_goals go_wp2
      all_goals go_roundw
      case rel => exact ⟨k + 1, by omega, by go_num, bel_trans HB (bel_trans (Below.refl _ _).drew HB1)⟩
      case measure => (simp [intOf]; try omega)
      case rel => exact ⟨k + 1, by omega, by go_num, bel_trans HB (bel_trans (Below.refl _ _).drew HB1)⟩
      case measure => (simp [intOf]; try omega)
    · obtain rfl : k = fs.length := by omega
      go_wp2
      go_ret
      exact ⟨rfl, HB⟩
def mayB (m : Int) (f : Int × List Int) : Bool := decide (1 ≤ f.1 ∧ f.1 ≤ 255 ∧ f.2.length ≤ 1048576) && decide ((f.2.length : Int) ≤ m)
def laidB (fs : List (Int × List Int)) : List Int := (fs.map fun f => encB f.1 f.2).flatten
theorem laidB_append (a b : List (Int × List Int)) : laidB (a ++ b) = laidB a ++ laidB b := by simp [laidB]
theorem laidB_one (f : Int × List Int) : laidB [f] = encB f.1 f.2 := by simp [laidB]
theorem laidB_length : ∀ fs : List (Int × List Int), (laidB fs).length = cntN fs
  | [] => rfl
  | f :: fs => by
    have ih := laidB_length fs
    have e : laidB (f :: fs) = encB f.1 f.2 ++ laidB fs := by simp [laidB]
    rw [e, List.length_append, encB_length, ih]
    simp only [cntN, List.map_cons, List.sum_cons]
theorem cnt_filter (p : Int × List Int → Bool) : ∀ fs : List (Int × List Int), cntN (fs.filter p) ≤ cntN fs
  | [] => Nat.le_refl _
  | f :: fs => by
    have ih := cnt_filter p fs
    rw [List.filter_cons]
    split
    · simp only [cntN, List.map_cons, List.sum_cons] at ih ⊢; omega
    · simp only [cntN, List.map_cons, List.sum_cons] at ih ⊢; omega
theorem length_cnt : ∀ fs : List (Int × List Int), fs.length * 14 ≤ cntN fs
  | [] => Nat.le_refl _
  | f :: fs => by
    have ih := length_cnt fs
    simp only [cntN, List.map_cons, List.sum_cons, List.length_cons] at ih ⊢
    omega
theorem filter_take {p : Int × List Int → Bool} {fs : List (Int × List Int)} {k : Nat} (h : k < fs.length) : (fs.take (k + 1)).filter p = (fs.take k).filter p ++ (if p (fs.getD k (0, [])) then [fs.getD k (0, [])] else []) := by
  rw [List.take_add_one, List.getElem?_eq_getElem h, List.filter_append, List.getD_eq_getElem?_getD, List.getElem?_eq_getElem h]
  show _ ++ [fs[k]].filter p = _ ++ if p fs[k] = true then [fs[k]] else []
  cases hp : p fs[k] <;> simp [hp]
def LaidRet (w : World) (m : Int) (fs : List (Int × List Int)) (e : Ending) (w' : World) : Prop :=
  ∃ bv sv, e = .returned (.tuple #[bv, sv, .bool true]) ∧ Own w' w.heap.size 5 bv (laidB (fs.filter (mayB m))) ∧ FrI w w' w.heap.size sv (fs.filter (mayB m)) ∧ Below w.heap.size w w'
set_option maxHeartbeats 4000000 in
theorem laid_any (lv : Value) (fs : List (Int × List Int)) (m : Int) (w : World) (HR : RdF w w lv fs) (hm : m ≤ 1048576) (hbd : cntN fs ≤ 35184372088832) :
    Calls Try.prog 42 #[lv, .int .i64 m] w (LaidRet w m fs) := by
  have hsz := HR.size
  have hlen := HR.len
  have HBD := hd_ hbd
  clear hbd
  go_enter Try.func42, Try.ntmps42
  go_wp2
  go_loopw [7, 8, 9] (fun vb vs vi wr => ∃ k : Nat, k ≤ fs.length ∧ vi = .int .i64 k ∧ Own wr w.heap.size 5 vb (laidB ((fs.take k).filter (mayB m))) ∧ FrI w wr w.heap.size vs ((fs.take k).filter (mayB m)) ∧ Below w.heap.size w wr) (fun _ _ i _ => fs.length - (intOf i).toNat)
  case atStart => exact ⟨0, Nat.zero_le _, rfl, own_nil8 _ _ _, FrI.nil _ _ _, Below.refl _ _⟩
  case round =>
    obtain ⟨k, hk, rfl, HO, HF, HB⟩ := hrel
    by_cases hlt : k < fs.length
    · obtain ⟨bl, off, A, c, i1, p1, q1, r1⟩ := HR.at k hlt
      have hft := filter_take (p := mayB m) hlt
      have hcl : cntN ((fs.take k).filter (mayB m)) + ((fs.getD k (0, [])).2.length + 14) ≤ 35184372088832 := by
        have h1 := cnt_filter (mayB m) (fs.take k)
        have h2 := cnt_take hlt
        have h3 := cnt_le fs (k + 1)
        have h4 := HBD.out
        omega
      have hle0 := length_cnt ((fs.take k).filter (mayB m))
      have hLB := laidB_length ((fs.take k).filter (mayB m))
      have hl1 : Hid ((laidB ((fs.take k).filter (mayB m))).length + ((fs.getD k (0, [])).2.length + 14) ≤ 140737488355328) := hd_ (by omega)
      have hl2 : Hid ((((fs.take k).filter (mayB m)).length + 1) * 32 ≤ 140737488355328) := hd_ (by omega)
      have HFT := hd_ hft
      clear hft hcl hle0 hLB HR
      generalize fs.getD k (0, []) = f at *
      obtain ⟨K, body⟩ := f
      simp only at p1 q1 r1
      have hb63 := r1.lt63
      have p2 := cell_keep HB p1
      have q2 := cell_keep HB q1
      generalize (fs.take k).filter (mayB m) = some at *
      by_cases hmay : 1 ≤ K ∧ K ≤ 255 ∧ body.length ≤ 1048576
      · by_cases hle : (body.length : Int) ≤ m
        · have hmb : mayB m (K, body) = true := by unfold mayB; rw [decide_eq_true hmay, decide_eq_true hle]; rfl
          have HFT2 : Hid ((fs.take (k + 1)).filter (mayB m) = some ++ [(K, body)]) := hd_ (by rw [HFT.out, if_pos hmb])
          have e1 : encE K body = 0 := by unfold encE; rw [if_neg (by omega), if_neg (by omega)]
          have e2 : encL K body = encB K body := by unfold encL; rw [if_neg (by omega), if_neg (by omega)]
          go_wp2_with (go_at_call 34; refine (may_any K A body.length c hb63 _).mono ?_; rintro e w2 ⟨rfl, HB2⟩; rw [decide_eq_true hmay]; have p3 := cell_keep HB2 p2; have q3 := cell_keep HB2 q2)
          refine (frame_Encode_any K _ body _ (r1.keep (bel_trans HB HB2))).mono ?_
          rintro e w3 ⟨v3, rfl, HO3, HB3⟩
          rw [e1]
          rw [e2] at HO3
          have hK3 := bel_trans HB2 HB3
          have hB3 := bel_trans HB hK3
          have HOb := HO.keep hK3
          have HFb := HF.keep hK3
          have hl1' : Hid ((laidB some).length + (encB K body).length ≤ 140737488355328) := hd_ (by have := hl1.out; rw [encB_length]; exact this)
          clear HO HF p2 q2 p3 q3 e1 e2 hl1
          go_upto_region 11 with (at_builtin; (refine app_bytes (w0 := w) w.heap.size rfl _ _ 24 5 rfl Try.underlying24 info8 u7 v3 (laidB some) (encB K body) rfl rfl HOb HO3.rd hB3 hB3.size hl1'.out ?_); intro v4 w4 HO4 HB4 hg4 hat4)
          have HF4 := HFb.grown HOb.2 hg4 (by decide)
          have p4 := cell_keep HB4 p1
          have q4 := cell_keep HB4 q1
          have hal := al1 (Below.refl w4.heap.size w4) (.cells #[.int .i64 K, .slice A body.length c] 28)
          have hpair : RdF w (w4.alloc (.cells #[.int .i64 K, .slice A body.length c] 28)) (.slice (Option.some ⟨w4.heap.size, 0, none⟩) 1 1) [(K, body)] :=
            ⟨[.int .i64 K, .slice A body.length c], ⟨rfl, fun i hi => by
              obtain rfl : i = 0 := by simpa using hi
              exact ⟨rfl, _, rfl, r1⟩⟩, box_pair w4 _ _ _⟩
          have HF5 := HF4.keep hal
          have HO5 := HO4.keep hal
          have hB5 := bel_trans HB4 hal
          go_wp2_with (at_builtin; (refine app_fri (w0 := w) w.heap.size rfl _ _ rfl u8 _ some [(K, body)] rfl rfl HF5 hpair hB5 hB5.size hl2.out ?_); intro v6 w6 HF6 HB6 hg6 hk6)
          go_roundw
          case rel =>
            refine ⟨k + 1, by omega, by go_num, ?_, by rw [HFT2.out]; exact HF6, HB6⟩
            rw [HFT2.out, laidB_append, laidB_one]
            obtain ⟨vs, _, h2⟩ := HF5
            exact HO5.kept hg6 (own_types HO5.2 h2 (by decide))
          case measure => (simp [intOf]; try omega)
        · have hmb : mayB m (K, body) = false := by unfold mayB; rw [decide_eq_false hle]; simp
          have HFT2 : Hid ((fs.take (k + 1)).filter (mayB m) = some) := hd_ (by rw [HFT.out, if_neg (by rw [hmb]; simp), List.append_nil])
          have hle' : m < (body.length : Int) := by omega
          go_wp2_with (go_at_call 34; refine (may_any K A body.length c hb63 _).mono ?_; rintro e w2 ⟨rfl, HB2⟩; rw [decide_eq_true hmay]; have p3 := cell_keep HB2 p2; have q3 := cell_keep HB2 q2)
          go_roundw
          case rel => exact ⟨k + 1, by omega, by go_num, by rw [HFT2.out]; exact HO.keep HB2, by rw [HFT2.out]; exact HF.keep HB2, bel_trans HB HB2⟩
          case measure => (simp [intOf]; try omega)
      · have hmb : mayB m (K, body) = false := by unfold mayB; rw [decide_eq_false hmay]; rfl
        have HFT2 : Hid ((fs.take (k + 1)).filter (mayB m) = some) := hd_ (by rw [HFT.out, if_neg (by rw [hmb]; simp), List.append_nil])
        go_wp2_with (go_at_call 34; refine (may_any K A body.length c hb63 _).mono ?_; rintro e w2 ⟨rfl, HB2⟩; rw [decide_eq_false hmay])
        go_roundw
        case rel => exact ⟨k + 1, by omega, by go_num, by rw [HFT2.out]; exact HO.keep HB2, by rw [HFT2.out]; exact HF.keep HB2, bel_trans HB HB2⟩
        case measure => (simp [intOf]; try omega)
    · obtain rfl : k = fs.length := by omega
      rw [List.take_length] at HO HF
      go_wp2
      go_ret3
      exact ⟨_, _, rfl, HO, HF, HB⟩
theorem look_enc {m k : Int} {body : List Int} (r : List Int) (hb : IsBytes body) (hr : IsBytes r) (hm : mayB m (k, body) = true) : lookN m (encB k body ++ r) = 3 := by
  unfold mayB at hm
  rw [Bool.and_eq_true, decide_eq_true_iff, decide_eq_true_iff] at hm
  obtain ⟨⟨h1, h2, h3⟩, h4⟩ := hm
  simp only at h1 h2 h3 h4
  have hB := enc_bytes hb h1 h2 h3
  obtain ⟨d1, _⟩ := dec_enc k body r h1 h3
  obtain ⟨N, e1, e2, e3, e4, e5, e6⟩ := dec_ok (bytes_append hB hr) d1
  have hN : (N : Int) = (body.length : Int) := by
    rw [← e1, len_app r (by rw [encB_length]; omega), enc_len]
  unfold lookN
  rw [if_neg (by rw [e4]; simp), if_neg (by omega), if_neg (by rw [e5]; simp), e1, if_neg (by omega), if_neg (by omega), if_neg (by rw [show ((N : Int) + 14).toNat = N + 14 by omega, e6]; simp)]
theorem scanA_junk (m : Int) (r : List Int) : ∀ (a : List Int) (fs : List (Int × List Int)) (j lo : Nat), (∀ x ∈ a, x ≠ 72) → scanA m false (a ++ r).length (a ++ r) fs j lo = scanA m false r.length r fs (j + a.length) lo
  | [], fs, j, lo, _ => rfl
  | x :: a, fs, j, lo, h => by
    have hx : x ≠ 72 := h x (by simp)
    have hF : frontB (x :: (a ++ r)) = false := by
      unfold frontB
      rw [decide_eq_false (by simp)]
      have : ((x :: (a ++ r)).getD 0 0 == 72) = false := by simpa using hx
      rw [this]
      rfl
    have hL : lookN m (x :: (a ++ r)) = 0 := by unfold lookN; rw [if_pos hF]
    have ih := scanA_junk m r a fs (j + 1) lo (fun y hy => h y (by simp [hy]))
    rw [List.cons_append, List.length_cons, scanA, if_neg (by simp), hL, if_neg (by decide), if_neg (by decide), if_neg (by simp)]
    rw [show (x :: (a ++ r)).drop 1 = a ++ r from rfl, ih, List.length_cons]
    congr 1
    omega
theorem scanA_frames (m : Int) : ∀ (S acc : List (Int × List Int)) (j lo : Nat), (∀ f ∈ S, mayB m f = true ∧ IsBytes f.2) → IsBytes (laidB S) ∧ scanA m false (laidB S).length (laidB S) acc j lo = (acc ++ S, [], j, lo)
  | [], acc, j, lo, _ => ⟨(by intro x hx; cases hx), (by rw [List.append_nil]; rfl)⟩
  | f :: S, acc, j, lo, h => by
    obtain ⟨k, body⟩ := f
    obtain ⟨hm, hb⟩ := h (k, body) (by simp)
    have e : laidB ((k, body) :: S) = encB k body ++ laidB S := by simp [laidB]
    obtain ⟨ihb, ih⟩ := scanA_frames m S (acc ++ [(k, body)]) j lo (fun y hy => h y (by simp [hy]))
    have hm' := hm
    unfold mayB at hm'
    rw [Bool.and_eq_true, decide_eq_true_iff, decide_eq_true_iff] at hm'
    obtain ⟨⟨h1, h2, h3⟩, h4⟩ := hm'
    have hB := enc_bytes hb h1 h2 h3
    have hL := encB_length k body
    refine ⟨by rw [e]; exact bytes_append hB ihb, ?_⟩
    rw [e]
    have hlen : (encB k body ++ laidB S).length = ((laidB S).length + body.length + 13) + 1 := by rw [List.length_append, hL]; omega
    have g2 : (encB k body ++ laidB S).getD 2 0 = k := by rw [getD_left (by omega), enc_getD _ _ 2 (by omega)]; rfl
    have g10 : ((encB k body ++ laidB S).drop 10).take body.length = body := by
      rw [List.drop_append_of_le_length (by omega), List.take_append_of_le_length (by rw [List.length_drop]; omega)]
      exact enc_body k body
    have gd : (encB k body ++ laidB S).drop (body.length + 14) = laidB S := List.drop_left' (by rw [hL])
    have gl : (lenN (encB k body ++ laidB S)).toNat = body.length := by rw [len_app _ (by omega), enc_len]; rfl
    rw [hlen, scanA, if_neg (by omega), if_pos (look_enc (laidB S) hb ihb hm), gl, g2, g10, gd, scanA_fuel m false _ (laidB S).length _ _ _ _ (by omega) (Nat.le_refl _), ih, List.append_assoc]
    rfl
theorem found_all {m : Int} {a : List Int} {S : List (Int × List Int)} (ha : ∀ x ∈ a, x ≠ 72) (hab : IsBytes a) (hS : ∀ f ∈ S, mayB m f = true ∧ IsBytes f.2) : feedA m [a, laidB S] ([], [], 0, 0) = (S, [], a.length, 0) := by
  obtain ⟨h1, h2⟩ := scanA_frames m S [] (0 + a.length) 0 hS
  rw [feedA_all m [a, laidB S] (by intro p hp; simp only [List.mem_cons, List.not_mem_nil, or_false] at hp; exact hp.elim (fun e => by rw [e]; exact hab) (fun e => by rw [e]; exact h1))]
  rw [show [a, laidB S].flatten = a ++ laidB S by simp, scanA_junk m _ a _ _ _ ha, h2, List.nil_append, Nat.zero_add]
theorem RdF.bytes {w W : World} {lv : Value} {fs : List (Int × List Int)} (h : RdF w W lv fs) : ∀ f ∈ fs, IsBytes f.2 := by
  intro f hf
  obtain ⟨j, hj, rfl⟩ := List.mem_iff_getElem.1 hf
  obtain ⟨vs, ⟨_, h2⟩, _⟩ := h
  obtain ⟨_, u, _, hu⟩ := h2 j hj
  have := hu.1
  rwa [List.getD_eq_getElem?_getD, List.getElem?_eq_getElem hj] at this
theorem rdl_two (va vb : Value) (a b : List Int) (w : World) (HA : Rd w va a) (HB : Rd w vb b) (h1 : va.oneCell' = true) (h2 : vb.oneCell' = true) : RdL (w.alloc (.cells #[va, vb] 24)) (.slice (some ⟨w.heap.size, 0, none⟩) 2 2) [a, b] := by
  have hb : Below w.heap.size w (w.alloc (.cells #[va, vb] 24)) := (Below.refl _ _).alloc (Nat.le_refl _) _
  refine ⟨[va, vb], rfl, ⟨rfl, _, _, rfl, Nat.le_refl _, by decide, (fun h => by cases h), fun j hj => ⟨_, 0, rfl, ?_⟩⟩, ?_, ?_⟩
  · rw [Nat.zero_add, World.cell?_alloc_new]
    simp
  · intro u hu
    simp only [List.mem_cons, List.not_mem_nil, or_false] at hu
    rcases hu with rfl | rfl
    · exact h1
    · exact h2
  · intro j hj
    have hj2 : j = 0 ∨ j = 1 := by simp at hj; omega
    rcases hj2 with rfl | rfl
    · exact HA.keep hb
    · exact HB.keep hb
theorem cnt_bulk : ∀ x : List (Int × List Int × Unit), cntN (x.map fun a => (a.1, a.2.1)) ≤ 5 * (x.map (fun a : Int × List Int × Unit => 1 + (a.2.1.length + 1 + 0) + 1)).sum
  | [] => Nat.le_refl _
  | a :: x => by
    have ih := cnt_bulk x
    simp only [cntN, List.map_cons, List.sum_cons, List.map_map] at ih ⊢
    omega
theorem filter_take72 {l : List Int} {k : Nat} (h : k < l.length) : (l.take (k + 1)).filter (fun x => x != 72) = (l.take k).filter (fun x => x != 72) ++ (if (l.getD k 0 != 72) = true then [l.getD k 0] else []) := by
  rw [List.take_add_one, List.getElem?_eq_getElem h, List.filter_append, List.getD_eq_getElem?_getD, List.getElem?_eq_getElem h]
  show _ ++ [l[k]].filter _ = _ ++ if (l[k] != 72) = true then [l[k]] else []
  cases hp : (l[k] != 72) <;> simp [hp]
set_option maxHeartbeats 8000000 in
theorem law_FrameFound (w : World) (m : Int) (hm : (Lit.int .i64 m).wf = true) (v : Value) (x : List (Int × List Int × Unit)) (r : RSl 2 32 RFrame w [v] x) (t : (x.map (fun a : Int × List Int × Unit => 1 + (a.2.1.length + 1 + 0) + 1)).sum + 1 ≤ 1048576)
    (v2 : Value) (junk : List Int) (HJ : Rd w v2 junk) (hl2 : junk.length ≤ 140737488351232) (t2 : junk.length ≤ 1048576) :
    Calls Try.prog 13 #[.int .i64 m, v, v2] w fun e w' => e = .returned (.bool true) ∧ Below w.heap.size w w' := by
  clear hl2 hm
  by_cases hneg : m < 0
  · go_enter Try.func13, Try.ntmps13
    go_wp2
    go_ret
    exact ⟨rfl, Below.refl _ _⟩
  by_cases hbig : 1048576 < m
  · go_enter Try.func13, Try.ntmps13
    go_wp2
    go_ret
    exact ⟨rfl, Below.refl _ _⟩
  have h0 : 0 ≤ m := by omega
  have h1 : m ≤ 1048576 := by omega
  have hRF := rdf_of r
  have hcb := cnt_bulk x
  generalize (x.map fun a => (a.1, a.2.1)) = L at *
  have hcL : cntN L ≤ 5242880 := by omega
  have hLl := length_cnt L
  have hLL : Hid ((1 + L.length) * 32 ≤ 140737488355328) := hd_ (by omega)
  have hcL2 : Hid (cntN ((3, []) :: L) ≤ 5242894) := hd_ (by simp only [cntN, List.map_cons, List.sum_cons, List.length_nil] at hcL ⊢; omega)
  clear hcb hcL hLl t r
  have HJb := hd_ HJ.1
  obtain ⟨A2, cap2, rfl, hn2, hmx2, _, hc2⟩ := HJ.form
  unfold maxLen at hmx2
  have hc := hd_ hc2
  clear hc2 HJ
  go_enter Try.func13, Try.ntmps13
  go_wp2
  go_loopw [7, 8] (fun vs vi wr => ∃ k : Nat, k ≤ junk.length ∧ vi = .int .i64 k ∧ Own wr w.heap.size 5 vs ((junk.take k).filter (fun x => x != 72)) ∧ Below w.heap.size w wr) (fun _ i _ => junk.length - (intOf i).toNat)
  case atStart => exact ⟨0, Nat.zero_le _, rfl, own_nil8 _ _ _, Below.refl _ _⟩
  case round =>
    obtain ⟨k, hk, rfl, HO, HB⟩ := hrel
    by_cases hlt : k < junk.length
    · obtain ⟨b, off, rfl, hcell0⟩ := hc.out k hlt
      have hcell := cell_keep HB hcell0
      have hft := filter_take72 hlt
      obtain ⟨p0, p1⟩ := bytes_at HJb.out k
      have hfl : ((junk.take k).filter (fun x => x != 72)).length ≤ k := Nat.le_trans (List.length_filter_le _ _) (by rw [List.length_take]; omega)
      have hL1 : Hid (((junk.take k).filter (fun x => x != 72)).length + 1 ≤ 140737488355328) := hd_ (by omega)
      have HFT := hd_ hft
      clear hft hfl hc hcell0
      generalize junk.getD k 0 = c at *
      generalize (junk.take k).filter (fun x => x != 72) = q at *
      by_cases h72 : c = 72
      · have HF2 : Hid ((junk.take (k + 1)).filter (fun x => x != 72) = q) := hd_ (by rw [HFT.out, if_neg (by rw [h72]; decide), List.append_nil])
        rw [h72] at hcell
        clear h72 p0 p1
        go_wp2
        go_roundw
        case rel => exact ⟨k + 1, by omega, by go_num, by rw [HF2.out]; exact HO, HB⟩
        case measure => (simp [intOf]; try omega)
      · have hne : (c != 72) = true := by simpa using h72
        have HF2 : Hid ((junk.take (k + 1)).filter (fun x => x != 72) = q ++ [c]) := hd_ (by rw [HFT.out, if_pos hne])
        have hR : Rd (wr.alloc (.cells #[.int .u8 c] 5)) (.slice (some ⟨wr.heap.size, 0, none⟩) 1 1) [c] := rd_new [c] rfl rfl (by intro y hy; rw [List.mem_singleton] at hy; subst hy; exact ⟨p0, p1⟩) (by decide)
        have hal := al1 (Below.refl wr.heap.size wr) (.cells #[.int .u8 c] 5)
        have HO2 := HO.keep hal
        have HB2 := bel_trans HB hal
        clear HO
        go_wp2_with (at_builtin; (refine app_bytes (w0 := w) w.heap.size rfl _ _ 24 5 rfl Try.underlying24 info8 u7 _ q [c] rfl rfl HO2 hR HB2 HB2.size hL1.out ?_); intro v5 w5 HO5 HB5 hg5 hat5)
        go_roundw
        case rel => exact ⟨k + 1, by omega, by go_num, by rw [HF2.out]; exact HO5, HB5⟩
        case measure => (simp [intOf]; try omega)
    · obtain rfl : k = junk.length := by omega
      rw [List.take_length] at HO
      have hql : (junk.filter (fun x => x != 72)).length ≤ junk.length := List.length_filter_le _ _
      have hqn : ∀ y ∈ junk.filter (fun x => x != 72), y ≠ 72 := fun y hy => by simpa using (List.mem_filter.1 hy).2
      generalize junk.filter (fun x => x != 72) = q at *
      have HQ := hd_ hqn
      clear hqn
      obtain ⟨A7, c7, rfl, _⟩ := own_slice HO
      have hal := al1 (Below.refl wr.heap.size wr) (.cells #[.int .i64 3, .slice none 0 0] 28)
      have hI : FrI w (wr.alloc (.cells #[.int .i64 3, .slice none 0 0] 28)) w.heap.size (.slice (some ⟨wr.heap.size, 0, none⟩) 1 1) [(3, [])] :=
        ⟨[.int .i64 3, .slice none 0 0], ⟨rfl, fun i hi => by
          obtain rfl : i = 0 := by simpa using hi
          exact ⟨rfl, _, rfl, (own_nil8 w 0 0).rd⟩⟩, World.ownsRow_lit wr #[.int .i64 3, .slice none 0 0] 1 HB.size (by decide) rfl⟩
      have hB1 := bel_trans HB hal
      have hRF1 := hRF.keep hB1
      have HO1 := HO.keep hal
      clear HO hc
      go_wp2_with (at_builtin; (refine app_fri (w0 := w) w.heap.size rfl _ _ rfl (.slice (some ⟨wr.heap.size, 0, none⟩) 1 1) v [(3, [])] L rfl rfl hI hRF1 hB1 hB1.size hLL.out ?_); intro v5 w5 HF5 HB5 hg5 hk5)
      have HO5 : Own w5 w.heap.size 5 (.slice A7 q.length c7) q := by
        obtain ⟨vs, _, h2⟩ := hI
        exact HO1.kept hg5 (own_types HO1.2 h2 (by decide))
      have HF5m : RdF w5 w5 v5 ((3, []) :: L) := HF5.rdf.mono HB5
      have hFb := HF5m.bytes
      clear hg5 hk5 hI hRF1 HO1 HF5 hal hB1 hRF
      refine (laid_any v5 ((3, []) :: L) m w5 HF5m h1 (by have := hcL2.out; omega)).mono ?_
      rintro e w6 ⟨bv, sv, rfl, HO6, HF6, HB6⟩
      have hSm : ∀ f ∈ ((3, []) :: L).filter (mayB m), mayB m f = true ∧ IsBytes f.2 := fun f hf => ⟨(List.mem_filter.1 hf).2, hFb f (List.mem_filter.1 hf).1⟩
      have hSl : (laidB (((3, []) :: L).filter (mayB m))).length ≤ 5242894 := by
        rw [laidB_length]
        have h1 := cnt_filter (mayB m) ((3, []) :: L)
        have h2 := hcL2.out
        omega
      generalize ((3, []) :: L).filter (mayB m) = S at *
      have hfe := found_all (m := m) HQ.out HO5.1 hSm
      clear hFb hSm
      generalize laidB S = B at *
      have HFE := hd_ hfe
      clear hfe
      obtain ⟨A8, c8, rfl, _⟩ := own_slice HO6
      have htwo := rdl_two _ _ q B w6 (HO5.keep HB6).rd HO6.rd rfl rfl
      have hal := al1 (Below.refl w6.heap.size w6) (.cells #[.slice A7 q.length c7, .slice A8 B.length c8] 24)
      go_wp2_with fail
      refine (all_any m _ [q, B] _ htwo h0 h1 (by rw [show [q, B].flatten = q ++ B by simp, List.length_append]; omega)).mono ?_
      rintro e w7 ⟨lv, g, rfl, hg7, HS7, HL7, HB7⟩
      rw [HFE.out] at HS7 HL7
      simp only at HS7 HL7
      have hK7 := bel_trans hal HB7
      have hM7 := bel_trans HB6 hK7
      have HF7 := (HF6.rdf.keep hK7).mono hM7
      have hB7 := bel_trans HB5 hM7
      clear HO5 HO6 HF6 htwo hal HB7
      go_wp2_with fail
      refine (alike_rd lv sv S _ HL7.rdf HF7).mono ?_
      rintro e w8 ⟨rfl, HB8⟩
      obtain ⟨y1, by1, ry1⟩ := HS7.keep HB8
      have d12 := by1.cell 2 rfl
      have d13 := by1.cell 3 rfl
      have d14 := by1.cell 4 rfl
      have hy1 := ry1.1
      have hB8 := bel_trans hB7 HB8
      clear by1 ry1 HS7 HL7 HF7
      go_wp2_with (first
        | (go_at_call 37; with_reducible refine (Waits_any g y1 [] _ d12 hy1).mono ?_; rintro e w' ⟨rfl, rfl⟩)
        | (go_at_call 38; with_reducible refine (Junk_any g q.length _ d13).mono ?_; rintro e w' ⟨rfl, rfl⟩)
        | (go_at_call 39; with_reducible refine (Lost_any g 0 _ d14).mono ?_; rintro e w' ⟨rfl, rfl⟩))
      go_ret
      exact ⟨rfl, hB8⟩
end Go.Proofs.Ytilmmohkdgmhnaa
