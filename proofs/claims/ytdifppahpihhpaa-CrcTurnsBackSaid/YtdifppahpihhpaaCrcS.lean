import Derived.Test.YtdifppahpihhpaaCrcR
import Derived.Test.YtdifppahpihhpaaCrcM
namespace Go.Proofs.Ytdifppahpihhpaa
open Go.RowKit
set_option maxRecDepth 100000
set_option linter.unusedVariables false
theorem holds_seal (l : List Int) : holdsB (sealB l) = true := by
  unfold holdsB sealB
  have h4 : (B4 (sumW l)).length = 4 := rfl
  have e : (l ++ B4 (sumW l)).length - 4 = l.length := by rw [List.length_append, h4]; omega
  rw [e, List.take_left, List.drop_left, decide_eq_true (by rw [List.length_append, h4]; omega : 4 ≤ (l ++ B4 (sumW l)).length), decide_eq_true rfl]
  rfl
theorem seal_length (l : List Int) : (sealB l).length = l.length + 4 := by unfold sealB; rw [List.length_append]; rfl
theorem seal_bytes {l : List Int} (h : IsBytes l) : IsBytes (sealB l) := bytes_append h (B4_bytes _)
/-- turned: another sum, and what was sealed does not hold -/
theorem sum_turns {l : List Int} (h : IsBytes l) {s : List Nat} (hs : ∀ a ∈ s, a < 8 * l.length) (hd : diffW l.length s ≠ 0#32) : sumW (turns l s) ≠ sumW l := by
  intro he
  unfold sumW at he
  have e2 := congrArg (· ^^^ ones) he
  simp only [BitVec.xor_assoc, BitVec.xor_self, BitVec.xor_zero] at e2
  rw [run_turns ones h hs] at e2
  have e3 := congrArg (run ones l ^^^ ·) e2
  simp only [← BitVec.xor_assoc, BitVec.xor_self, BitVec.zero_xor] at e3
  exact hd e3
theorem holds_turns {l : List Int} (h : IsBytes l) (hh : holdsB l = true) {s : List Nat} (hs : ∀ a ∈ s, a < 8 * l.length) (hd : diffW l.length s ≠ 0#32) : holdsB (turns l s) = false := by
  cases h2 : holdsB (turns l s)
  · rfl
  · exfalso
    have e1 := holds_run hh
    have e2 := holds_run h2
    rw [run_turns ones h hs, e1] at e2
    have e3 := congrArg (upn 32 ones ^^^ ·) e2
    simp only [← BitVec.xor_assoc, BitVec.xor_self, BitVec.zero_xor] at e3
    exact hd e3
theorem turns_isBytes {l : List Int} {s : List Nat} (h : IsBytes l) (hs : ∀ a ∈ s, a < 8 * l.length) : IsBytes (turns l s) := turns_bytes h hs
theorem law_run_nil (v : Value) (b : Nat) (x : W32) (w : World) (HR : Rd w v []) :
    Calls Try.prog 42 #[v, .int .u64 (b : Int), .int .u32 (I x)] w fun e w' => ∃ vo, e = .returned (.tuple #[vo, .bool false]) ∧ Own w' w.heap.size 5 vo [] ∧ Below w.heap.size w w' := by
  have HR0 := hd_ HR
  obtain ⟨Ap, capp, rfl, hnp, hmp, _, hcp⟩ := HR.form
  clear hcp
  unfold maxLen at hmp
  rw [List.length_nil] at HR0 ⊢
  go_enter Try.func42, Try.ntmps42
  go_upto_region 2 with (at_builtin; refine app_bytes (w0 := w) w.heap.size rfl _ _ 23 5 rfl Try.underlying23 info8 (.slice none 0 0) _ [] [] rfl rfl (own_nil8 _ _ _) HR0.out (Below.refl _ _) (Nat.le_refl _) (by simp) ?_; intro v1 w1 HO1 HB1 hg1 hat1; rw [List.nil_append] at HO1)
  go_wp2
  go_ret2
  exact ⟨v1, rfl, HO1, HB1⟩
theorem flipped_nil (v u : Value) (bs : List Nat) (w : World) (HR : Rd w v []) (HU : RdC 1 w u bs.length (bs.map (fun (b : Nat) => Value.int .u64 (b : Int)))) :
    Calls Try.prog 41 #[v, u] w fun e w' => ∃ vo, e = .returned (.tuple #[vo, .int .i64 0]) ∧ Own w' w.heap.size 5 vo [] ∧ Below w.heap.size w w' := by
  obtain ⟨hul, A, cap, rfl, hn, hm, _, hc⟩ := HU
  clear hc
  unfold maxLen at hm
  have HR0 := hd_ HR
  obtain ⟨Ap, capp, rfl, hnp, hmp, _, hcp⟩ := HR.form
  clear hcp
  unfold maxLen at hmp
  rw [List.length_nil] at HR0 ⊢
  go_enter Try.func41, Try.ntmps41
  go_upto_region 2 with (at_builtin; refine app_bytes (w0 := w) w.heap.size rfl _ _ 23 5 rfl Try.underlying23 info8 (.slice none 0 0) _ [] [] rfl rfl (own_nil8 _ _ _) HR0.out (Below.refl _ _) (Nat.le_refl _) (by simp) ?_; intro v1 w1 HO1 HB1 hg1 hat1; rw [List.nil_append] at HO1)
  go_wp2
  go_loopw [7, 8] (fun vn vi wr => vn = .int .i64 0 ∧ vi = .int .i64 0 ∧ Own wr w.heap.size 5 v1 [] ∧ Below w.heap.size w wr) (fun _ _ _ => 0)
  case atStart => exact ⟨rfl, rfl, HO1, HB1⟩
  case round =>
    obtain ⟨rfl, rfl, HO, HB⟩ := hrel
    go_wp2
    all_goals
      go_ret2
      exact ⟨v1, rfl, HO, HB⟩
/-- bits turned: what is answered is a row of one's own, with places turned that are the text's; if any, the sum differs -/
def Told (l : List Int) (any : Bool) (q : List Int) : Prop := ∃ s, (∀ a ∈ s, a < 8 * l.length) ∧ q = turns l s ∧ (any = true → diffW l.length s ≠ 0#32)
theorem Told.length {l q : List Int} {any : Bool} (h : Told l any q) : q.length = l.length := by obtain ⟨s, _, rfl, _⟩ := h; exact turns_length l s
theorem Told.sum {l q : List Int} (hl : IsBytes l) (h : Told l true q) : sumW q ≠ sumW l := by
  obtain ⟨s, h1, rfl, h2⟩ := h; exact sum_turns hl h1 (h2 rfl)
theorem Told.holds {l q : List Int} (hl : IsBytes l) (hh : holdsB l = true) (h : Told l true q) : holdsB q = false := by
  obtain ⟨s, h1, rfl, h2⟩ := h; exact holds_turns hl hh h1 (h2 rfl)
theorem run_told (v : Value) (l : List Int) (b : Nat) (x : W32) (w : World) (HR : Rd w v l) (hb : b < 2 ^ 64) (hl : l.length ≤ 140737488351232) :
    Calls Try.prog 42 #[v, .int .u64 (b : Int), .int .u32 (I x)] w fun e w' => ∃ vo any q, e = .returned (.tuple #[vo, .bool any]) ∧ Told l any q ∧ Own w' w.heap.size 5 vo q ∧ Below w.heap.size w w' := by
  by_cases hne : l = []
  · subst hne
    exact (law_run_nil v b x w HR).mono fun e w' ⟨vo, h1, h2, h3⟩ => ⟨vo, false, [], h1, ⟨[], (by simp), rfl, fun h => by cases h⟩, h2, h3⟩
  · refine (law_run_any v l b x w HR hb hne hl).mono fun e w' ⟨vo, K, h1, h2, h3, h4, h5⟩ => ⟨vo, anyW x K, _, h3, ⟨_, fun a ha => ?_, rfl, fun h => ?_⟩, h4, h5⟩
    · have := runPlaces_lt _ x K a ha; omega
    · exact diffW_run_ne h1 h2 h
theorem flipped_told (v u : Value) (l : List Int) (bs : List Nat) (w : World) (HR : Rd w v l) (HU : RdC 1 w u bs.length (bs.map (fun (b : Nat) => Value.int .u64 (b : Int)))) (hb64 : ∀ b ∈ bs, b < 2 ^ 64) (hl : l.length ≤ 134217728) (h3 : bs.length ≤ 3) :
    Calls Try.prog 41 #[v, u] w fun e w' => ∃ vo n q, e = .returned (.tuple #[vo, .int .i64 (n : Nat)]) ∧ Told l (decide (0 < n)) q ∧ n ≤ 3 ∧ Own w' w.heap.size 5 vo q ∧ Below w.heap.size w w' := by
  by_cases hne : l = []
  · subst hne
    exact (flipped_nil v u bs w HR HU).mono fun e w' ⟨vo, h1, h2, h3⟩ => ⟨vo, 0, [], h1, ⟨[], (by simp), rfl, fun h => by simp at h⟩, by omega, h2, h3⟩
  · obtain ⟨k1, k2, k3, k4⟩ := places_ok (n := l.length) (List.length_pos_iff.2 hne) bs (s := []) (by simp) List.nodup_nil
    simp only [List.length_nil, Nat.zero_add] at k3
    refine (flipped_any v u l bs w HR HU hb64 hne (by omega)).mono fun e w' ⟨vo, h1, h2, h3⟩ => ⟨vo, _, _, h1, ⟨_, k1, rfl, fun h => ?_⟩, by omega, h2, h3⟩
    have h := of_decide_eq_true h
    exact diffW_ne hl k1 k2 (fun h0 => by rw [h0] at h; simp at h) (by omega)
set_option maxHeartbeats 1000000 in
theorem law_CrcRuns (w : World) (v : Value) (l : List Int) (HR : Rd w v l) (hl : l.length ≤ 140737488351232) (a : Int) (ha : (Lit.int .u64 a).wf = true) (c : Int) (hc : (Lit.int .u32 c).wf = true) :
    Calls Try.prog 12 #[v, .int .u64 a, .int .u32 c] w fun e w' => e = .returned (.bool true) ∧ Below w.heap.size w w' := by
  obtain ⟨m, rfl, hm⟩ := wf_u64 ha
  obtain ⟨c0, c1⟩ := wf_u32 hc
  obtain ⟨x, rfl⟩ := word_of c0 c1
  clear ha hc c0 c1
  have hlb := HR.1
  have hlen := fun W => HR.2.len (P := Try.prog) 23 5 3 Try.underlying23 W
  have HH := hd_ (holds_seal l)
  have HSL := hd_ (seal_length l)
  have HM := hd_ hm
  clear hm
  by_cases hbig : 134217724 < l.length
  · go_enter Try.func12, Try.ntmps12
    go_wp2_with (go_at_call 27; refine (awake_any _).mono ?_; rintro e w1 ⟨rfl, hb1⟩)
    go_ret
    exact ⟨rfl, hb1⟩
  · go_enter Try.func12, Try.ntmps12
    go_wp2_with fail
    refine (awake_any _).mono ?_
    rintro e w1 ⟨rfl, hb1⟩
    go_wp2_with fail
    refine (crc_Seal_any _ l _ (HR.keep hb1) (by omega)).mono ?_
    rintro e w2 ⟨vs, rfl, HS, hb2⟩
    have hb2' := bel_trans hb1 hb2
    have hlen2 := fun W => HS.rd.2.len (P := Try.prog) 23 5 3 Try.underlying23 W
    rw [HSL.out] at hlen2
    go_wp2_with fail
    refine (crc_Holds_any _ _ _ HS.rd (by rw [HSL.out]; omega)).mono ?_
    rintro e w3 ⟨rfl, hb3⟩
    rw [HH.out]
    have hb3' := bel_trans hb2' hb3
    go_wp2_with fail
    refine (run_told _ l m x _ (HR.keep hb3') HM.out (by omega)).mono ?_
    rintro e w4 ⟨vq, any, q, rfl, hTq, HQ, hb4⟩
    have hb4' := bel_trans hb3' hb4
    go_wp2_with fail
    refine (run_told _ _ m x _ (HS.rd.keep (bel_trans hb3 hb4)) HM.out (by rw [HSL.out]; omega)).mono ?_
    rintro e w5 ⟨vt, some, t, rfl, hTt, HT, hb5⟩
    have hb5' := bel_trans hb4' hb5
    have HQ5 := HQ.rd.keep hb5
    obtain ⟨Aq, cq, rfl, _⟩ := HQ5.form
    obtain ⟨Av, cv, rfl, _⟩ := HR.form
    have B6 := hd_ (al1 hb5' (.cells #[.slice Aq q.length cq] 23))
    have hq1 : any = true → (I (sumW q) == I (sumW l)) = false := fun h => by
      subst h
      exact beq_eq_false_iff_ne.2 fun h => hTq.sum hlb (I_inj h)
    have ht1 : some = true → holdsB t = false := fun h => by subst h; exact hTt.holds (seal_bytes hlb) HH.out
    have htl := hd_ (hTt.length.trans HSL.out)
    clear hTq hTt
    cases any
    · clear hq1
      cases some
      · go_wp2_with fail
        go_ret
        exact ⟨rfl, hb5'⟩
      · replace ht1 := ht1 rfl
        go_wp2_with fail
        refine (crc_Holds_any _ _ _ HT.rd (by rw [htl.out]; omega)).mono ?_
        rintro e w6 ⟨rfl, hb6⟩
        rw [ht1]
        clear ht1
        go_wp2
        go_ret
        exact ⟨rfl, bel_trans hb5' hb6⟩
    · replace hq1 := hq1 rfl
      go_wp2_with fail
      refine (crc_Sum_any _ _ _ (crc_Sum_one _ _ _ HQ5 HQ5.one)).mono ?_
      rintro e w6 ⟨rfl, hb6⟩
      rw [List.flatten_singleton]
      generalize I (sumW q) = z1 at *
      have hb6' := bel_trans B6.out hb6
      have HR6 := HR.keep hb6'
      go_wp2_with fail
      refine (crc_Sum_any _ _ _ (crc_Sum_one _ _ _ HR6 HR6.one)).mono ?_
      rintro e w7 ⟨rfl, hb7⟩
      rw [List.flatten_singleton]
      have hb7' := bel_trans (al1 hb6' (.cells #[.slice Av l.length cv] 23)) hb7
      have HT7 := HT.rd.keep (bel_trans (bel_trans (al1 (Below.refl _ _) (.cells #[.slice Aq q.length cq] 23)) hb6) (bel_trans (al1 (Below.refl _ _) (.cells #[.slice Av l.length cv] 23)) hb7))
      generalize I (sumW l) = z2 at *
      have hq3 : ¬ z1 = z2 := beq_eq_false_iff_ne.1 hq1
      have hq4 : (z1 != z2) = true := bne_iff_ne.2 hq3
      cases some
      · go_wp2_with fail
        go_ret
        exact ⟨rfl, hb7'⟩
      · replace ht1 := ht1 rfl
        go_wp2_with fail
        refine (crc_Holds_any _ _ _ HT7 (by rw [htl.out]; omega)).mono ?_
        rintro e w8 ⟨rfl, hb8⟩
        rw [ht1]
        clear ht1
        go_wp2
        go_ret
        exact ⟨rfl, bel_trans hb7' hb8⟩
end Go.Proofs.Ytdifppahpihhpaa
