/- The writer of the document and its calls. -/
import Derived.Test.YtdmogbkfmeihfaaPwA
namespace Go.Proofs.Ytdmogbkfmeihfaa
open Go.RowKit
set_option maxRecDepth 100000
set_option linter.unusedVariables false
theorem W_Row_any (g : Nat) (v : Value) (st : WS) (k u : ByteArray) (n : Int) (w : World) (h : Wr w g v st) (hk : k.size ≤ 140737488355328) (hu : u.size ≤ 140737488355328) (hl : st.2.length ≤ 140737488280000) :
    Calls Try.prog 76 #[.pointer (some ⟨g, 0, none⟩), .agg (rowC k u n)] w (WrRet w g v (wRow st (byL k) (byL u) n)) := by
  obtain ⟨err, L⟩ := st
  by_cases h0 : err = 0
  · subst h0
    by_cases h1 : k.size = 0 ∨ n < 1
    · have e : wRow (0, L) (byL k) (byL u) n = (32, L) := by
        unfold wRow; rw [if_neg (by simp), if_pos (h1.imp_left byL_nil.2)]
      rw [e]
      exact W_Row_form g v L k u n w h h1
    · have h1' : ¬ (byL k = [] ∨ n < 1) := fun h => h1 (h.imp_left byL_nil.1)
      by_cases h2 : 1024 < (k.size : Int) ∨ 65536 < (u.size : Int) ∨ 1152921504606846976 < n
      · have e : wRow (0, L) (byL k) (byL u) n = (31, L) := by
          unfold wRow; rw [if_neg (by simp), if_neg h1', if_pos (by rw [byL_length, byL_length]; exact h2)]
        rw [e]
        exact W_Row_long g v L k u n w h (fun h => h1 (.inl h)) (by omega) hk hu h2
      · obtain ⟨m, rfl⟩ := Int.eq_ofNat_of_zero_le (show 0 ≤ n by omega)
        have e : wRow (0, L) (byL k) (byL u) (m : Int) = (0, L ++ (lebB k.size ++ byL k) ++ (lebB u.size ++ byL u) ++ lebB m) := by
          unfold wRow; rw [if_neg (by simp), if_neg h1', if_neg (by rw [byL_length, byL_length]; exact h2), byL_length, byL_length, Int.toNat_natCast]
        rw [e]
        exact W_Row_ok g v L k u m w h (fun h => h1 (.inl h)) (by omega) (by omega) (by omega) (by omega) hl
  · have e : wRow (err, L) (byL k) (byL u) n = (err, L) := by unfold wRow; rw [if_pos h0]
    rw [e]
    exact W_Row_bad g v (err, L) k u n w h h0
/-- the document's writer: its error and its bytes -/
def Xr (W : World) (g : Nat) (v : Value) (s : WS) : Prop := Box W g 94 #[v, .int .i64 s.1] ∧ Own W 0 5 v s.2
def XrPost (w : World) (g : Nat) (v : Value) (s : WS) (w' : World) : Prop :=
  ∃ v', Xr w' g v' s ∧ Chg (fun k => k = g ∨ some k = v.ownBlock) w w' ∧ (v'.ownBlock = v.ownBlock ∨ ∃ k, v'.ownBlock = some k ∧ w.heap.size ≤ k)
def XrRet (w : World) (g : Nat) (v : Value) (s : WS) (e : Ending) (w' : World) : Prop := e = .returned (.tuple #[]) ∧ XrPost w g v s w'
theorem Xr.same {w : World} {g : Nat} {v : Value} {s : WS} (h : Xr w g v s) : XrPost w g v s w := ⟨v, h, Chg.refl _ _, .inl rfl⟩
theorem Xr.keep {w w1 : World} {g : Nat} {v : Value} {s : WS} (h : Xr w g v s) (hb : Below w.heap.size w w1) : Xr w1 g v s := ⟨h.1.keep hb, h.2.keep hb⟩
theorem XrPost.trans {w w1 w2 : World} {g : Nat} {v v1 : Value} {s2 : WS} (hv : v1.ownBlock = v.ownBlock ∨ ∃ k, v1.ownBlock = some k ∧ w.heap.size ≤ k) (hc : Chg (fun k => k = g ∨ some k = v.ownBlock) w w1) (h2 : XrPost w1 g v1 s2 w2) : XrPost w g v s2 w2 := by
  obtain ⟨v2, k1, k2, k3⟩ := h2
  refine ⟨v2, k1, hc.trans k2 ?_, ?_⟩
  · rintro b hb (h | h)
    · exact .inl h
    · rcases hv with e | ⟨k, e, hk⟩
      · exact .inr (h.trans e)
      · rw [e] at h; injection h with h; omega
  · rcases k3 with e | ⟨k, e, hk⟩
    · rcases hv with e1 | ⟨k, e1, hk⟩
      · exact .inl (e.trans e1)
      · exact .inr ⟨k, e.trans e1, hk⟩
    · exact .inr ⟨k, e, Nat.le_trans hc.size hk⟩
theorem XrPost.after {w w1 w2 : World} {g : Nat} {v : Value} {s2 : WS} (hb : Below w.heap.size w w1) (h2 : XrPost w1 g v s2 w2) : XrPost w g v s2 w2 :=
  XrPost.trans (.inl rfl) (Chg.below hb) h2
theorem Xr.ne {w : World} {g : Nat} {v : Value} {s : WS} (h : Xr w g v s) : v.ownBlock ≠ some g := own_box h.2 h.1 (by decide)
theorem X_Fail_any (g : Nat) (v : Value) (s : WS) (e : Int) (w : World) (h : Xr w g v s) :
    Calls Try.prog 68 #[.pointer (some ⟨g, 0, none⟩), .int .i64 e] w (XrRet w g v (wFail s e)) := by
  obtain ⟨err, L⟩ := s
  have hS := hd_ h
  have q1 : w.cell? ⟨g, 1, none⟩ = some (.int .i64 err) := h.1.cell 1 rfl
  have z1 := h.1.frozen 1
  by_cases h0 : err = 0
  · subst h0
    clear h
    go_enter Try.func68, Try.ntmps68
    go_wp2
    go_end0
    obtain ⟨hb3, hg3⟩ := hS.out.1.put 1 (.int .i64 e)
    exact ⟨rfl, v, ⟨hb3, hS.out.2.kept hg3 (.inr hS.out.ne)⟩, Chg.grown hg3 (fun b _ hb => .inl (by injection hb)), .inl rfl⟩
  · have hB : (err == 0) = false := by rw [beq_eq_false_iff_ne]; exact h0
    have H0 := hd_ h0
    clear h h0
    go_enter Try.func68, Try.ntmps68
    go_wp2
    go_end0
    exact ⟨rfl, by rw [wFail, if_neg H0.out]; exact hS.out.same⟩
theorem X_lay_any (g : Nat) (v y : Value) (s : WS) (b : List Int) (w : World) (h : Xr w g v s) (HR : Rd w y b) (hl : s.2.length + b.length ≤ 140737488355328) :
    Calls Try.prog 91 #[.pointer (some ⟨g, 0, none⟩), y] w (XrRet w g v (wLay s b)) := by
  obtain ⟨err, L⟩ := s
  have q1 : w.cell? ⟨g, 1, none⟩ = some (.int .i64 err) := h.1.cell 1 rfl
  by_cases h0 : err = 0
  · subst h0
    have q0 : w.cell? ⟨g, 0, none⟩ = some v := h.1.cell 0 rfl
    have hS := hd_ h
    have hlB := hd_ hl
    obtain ⟨M, hM⟩ : ∃ M, L ++ b = M := ⟨_, rfl⟩
    have HM := hd_ hM
    clear hl hM h
    rw [wLay, if_pos rfl, HM.out]
    go_enter Try.func91, Try.ntmps91
    go_wp2_with (at_builtin; (refine app_bytes (w0 := w) 0 rfl _ _ 22 5 rfl Try.underlying22 infoB v y L b rfl rfl hS.out.2 HR (Below.refl _ _) (Nat.zero_le _) hlB.out ?_); intro v2 w2 HO2 HB2 hg2 hat2; rw [HM.out] at HO2; obtain ⟨A2, c2, rfl, _⟩ := HO2.rd.form; have hbx := hS.out.1.grown hg2 (fun e => hS.out.ne e.symm); have z1 := hbx.frozen 0; have y1 := hbx.cell 0 rfl)
    go_end0
    obtain ⟨hb3, hg3⟩ := hbx.put 0 (.slice A2 M.length c2)
    refine ⟨rfl, .slice A2 M.length c2, ⟨hb3, HO2.kept hg3 (.inr (own_box HO2 hbx (by decide)))⟩, (Chg.grown hg2 fun b _ hb => .inr hb).trans (Chg.of hg3) fun b _ hb => .inl (by injection hb), ?_⟩
    rcases hat2 with h | h
    · exact .inl h
    · exact .inr ⟨_, h, Nat.le_refl _⟩
  · have hB : (err == 0) = false := by rw [beq_eq_false_iff_ne]; exact h0
    have hS := hd_ h
    have H0 := hd_ h0
    clear h h0
    go_enter Try.func91, Try.ntmps91
    go_wp2
    go_end0
    exact ⟨rfl, by rw [wLay, if_neg H0.out]; exact hS.out.same⟩
theorem X_Uint_any (g : Nat) (v : Value) (s : WS) (u : Nat) (w : World) (h : Xr w g v s) (hu : u < 18446744073709551616) (hl : s.2.length ≤ 140737488355300) :
    Calls Try.prog 70 #[.pointer (some ⟨g, 0, none⟩), .int .u64 (u : Int)] w (XrRet w g v (wUint s (u : Int))) := by
  have hlB := hd_ (show s.2.length + (lebB u).length ≤ 140737488355328 by have := lebB_10 hu; omega)
  have hE : wUint s (u : Int) = wLay s (lebB u) := by unfold wUint; rw [Int.toNat_natCast]
  rw [hE]
  clear hl hE
  have hS := hd_ h
  clear h
  go_enter Try.func70, Try.ntmps70
  go_wp2_with (first
    | (go_at_call 67; refine (ref_Bytes_any u hu _).mono ?_; rintro e w1 ⟨v1, rfl, HO1, HB1⟩)
    | (go_at_call 91; refine (X_lay_any g v _ s _ _ (hS.out.keep HB1) HO1.rd hlB.out).mono ?_; rintro e w2 ⟨rfl, HP⟩))
  go_end0
  exact ⟨rfl, HP.after HB1⟩
theorem X_Text_any (g : Nat) (v : Value) (st : WS) (s : ByteArray) (most : Int) (w : World) (h : Xr w g v st) (hl : st.2.length + s.size ≤ 140737488355300) :
    Calls Try.prog 69 #[.pointer (some ⟨g, 0, none⟩), .string s, .int .i64 most] w (XrRet w g v (wText st (byL s) most)) := by
  obtain ⟨err, L⟩ := st
  have hS := hd_ h
  have hsz : s.size ≤ 9223372036854775807 := by omega
  have hu := hd_ (show s.size < 18446744073709551616 by omega)
  have hsB := hd_ (show s.size ≤ 140737488355328 by omega)
  have hlA := hd_ (show (lebB s.size).length + (byL s).length ≤ 140737488355328 by have := lebB_10 hu.out; rw [byL_length]; omega)
  have hlM := hd_ (show L.length + (lebB s.size ++ byL s).length ≤ 140737488355328 by have := lebB_10 hu.out; rw [List.length_append, byL_length]; simp only at hl; omega)
  have hE : ∃ f : WS, (most < 0 → f = wFail (err, L) 1) ∧ (¬ most < 0 → most < (s.size : Int) → f = wFail (err, L) 31) ∧ (¬ most < 0 → ¬ most < (s.size : Int) → f = (err, L)) ∧ wLay f (lebB s.size ++ byL s) = wText (err, L) (byL s) most ∧ f.2 = L := by
    unfold wFail wText wLay
    rw [byL_length]
    by_cases h0 : err = 0
    · subst h0
      by_cases h1 : most < 0
      · exact ⟨(1, L), fun _ => rfl, fun h => absurd h1 h, fun h => absurd h1 h, by rw [if_neg (by simp), if_neg (by simp), if_pos h1], rfl⟩
      · by_cases h2 : most < (s.size : Int)
        · exact ⟨(31, L), fun h => absurd h h1, fun _ _ => rfl, fun _ h => absurd h2 h, by rw [if_neg (by simp), if_neg (by simp), if_neg h1, if_pos h2], rfl⟩
        · exact ⟨(0, L), fun h => absurd h h1, fun _ h => absurd h h2, fun _ _ => rfl, by rw [if_pos rfl, if_neg (by simp), if_neg h1, if_neg h2], rfl⟩
    · exact ⟨(err, L), fun _ => by rw [if_neg h0], fun _ _ => by rw [if_neg h0], fun _ _ => rfl, by rw [if_neg h0, if_pos h0], rfl⟩
  obtain ⟨f, hf1, hf2, hf3, hf4, hf5⟩ := hE
  have HF4 := hd_ hf4
  have hfl := hd_ (show f.2.length + (lebB s.size ++ byL s).length ≤ 140737488355328 by rw [hf5]; exact hlM.out)
  clear h hl hf4 hf5
  generalize wText (err, L) (byL s) most = F at *
  by_cases h1 : most < 0
  · have HF := hd_ (hf1 h1)
    clear hf1 hf2 hf3
    go_enter Try.func69, Try.ntmps69
    go_wp2_with (first
      | (go_at_call 68; refine (X_Fail_any g v (err, L) 1 _ hS.out).mono ?_; rintro e w1 ⟨rfl, v1, HX1, HC1, HO1'⟩; have HO1 := hd_ HO1'; clear HO1'; rw [← HF.out] at HX1)
      | (go_at_call 67; refine (ref_Bytes_any s.size hu.out _).mono ?_; rintro e w5 ⟨v5, rfl, HO5, HB5⟩; obtain ⟨u6, w6, hcv, HR6, HB6⟩ := str_bytes w5 s hsB.out)
      | (at_builtin; (refine app_bytes (w0 := w1) w1.heap.size rfl _ _ 22 5 rfl Try.underlying22 infoB v5 u6 (lebB s.size) (byL s) rfl rfl (HO5.keep HB6) HR6 (bel_trans HB5 HB6) (Nat.le_trans HB5.size HB6.size) hlA.out ?_); intro v7 w7 HO7 HB7 hg7 hat7)
      | (go_at_call 91; refine (X_lay_any g v1 v7 f _ w7 (HX1.keep HB7) HO7.rd hfl.out).mono ?_; rintro e w8 ⟨rfl, HP8⟩; rw [HF4.out] at HP8))
    go_end0
    exact ⟨rfl, XrPost.trans HO1.out HC1 (HP8.after HB7)⟩
  · by_cases h2 : most < (s.size : Int)
    · have HF := hd_ (hf2 h1 h2)
      clear hf1 hf2 hf3
      go_enter Try.func69, Try.ntmps69
      go_wp2_with (first
        | (go_at_call 68; refine (X_Fail_any g v (err, L) 31 _ hS.out).mono ?_; rintro e w1 ⟨rfl, v1, HX1, HC1, HO1'⟩; have HO1 := hd_ HO1'; clear HO1'; rw [← HF.out] at HX1)
        | (go_at_call 67; refine (ref_Bytes_any s.size hu.out _).mono ?_; rintro e w5 ⟨v5, rfl, HO5, HB5⟩; obtain ⟨u6, w6, hcv, HR6, HB6⟩ := str_bytes w5 s hsB.out)
        | (at_builtin; (refine app_bytes (w0 := w1) w1.heap.size rfl _ _ 22 5 rfl Try.underlying22 infoB v5 u6 (lebB s.size) (byL s) rfl rfl (HO5.keep HB6) HR6 (bel_trans HB5 HB6) (Nat.le_trans HB5.size HB6.size) hlA.out ?_); intro v7 w7 HO7 HB7 hg7 hat7)
        | (go_at_call 91; refine (X_lay_any g v1 v7 f _ w7 (HX1.keep HB7) HO7.rd hfl.out).mono ?_; rintro e w8 ⟨rfl, HP8⟩; rw [HF4.out] at HP8))
      go_end0
      exact ⟨rfl, XrPost.trans HO1.out HC1 (HP8.after HB7)⟩
    · have HF := hd_ (hf3 h1 h2)
      have hS2 := hd_ (show Xr w g v f by rw [HF.out]; exact hS.out)
      clear hf1 hf2 hf3
      go_enter Try.func69, Try.ntmps69
      go_wp2_with (first
        | (go_at_call 67; refine (ref_Bytes_any s.size hu.out _).mono ?_; rintro e w5 ⟨v5, rfl, HO5, HB5⟩; obtain ⟨u6, w6, hcv, HR6, HB6⟩ := str_bytes w5 s hsB.out)
        | (at_builtin; (refine app_bytes (w0 := w) w.heap.size rfl _ _ 22 5 rfl Try.underlying22 infoB v5 u6 (lebB s.size) (byL s) rfl rfl (HO5.keep HB6) HR6 (bel_trans HB5 HB6) (Nat.le_trans HB5.size HB6.size) hlA.out ?_); intro v7 w7 HO7 HB7 hg7 hat7)
        | (go_at_call 91; refine (X_lay_any g v v7 f _ w7 (hS2.out.keep HB7) HO7.rd hfl.out).mono ?_; rintro e w8 ⟨rfl, HP8⟩; rw [HF4.out] at HP8))
      go_end0
      exact ⟨rfl, HP8.after HB7⟩
theorem wLay_two (s : WS) (a b : List Int) : wLay (wLay s a) b = wLay s (a ++ b) := by
  unfold wLay
  by_cases h : s.1 = 0
  · rw [if_pos h, if_pos rfl, if_pos h, List.append_assoc]
  · rw [if_neg h, if_neg h, if_neg h]
theorem wLay_len (s : WS) (a : List Int) : (wLay s a).2.length ≤ s.2.length + a.length := by
  unfold wLay
  split
  · rw [List.length_append]; exact Nat.le_refl _
  · omega
theorem take_snoc {l : List Int} {k : Nat} (h : k < l.length) : l.take (k + 1) = l.take k ++ [l.getD k 0] := by
  rw [List.take_succ_eq_append_getElem h, List.getD_eq_getElem?_getD, List.getElem?_eq_getElem h]; rfl
theorem XrPost.start {w : World} {g : Nat} {v : Value} {s : WS} (h : Xr w g v s) : XrPost w g v (wLay s ([] : List Int)) w := by
  have e : wLay s ([] : List Int) = s := by
    obtain ⟨err, L⟩ := s
    unfold wLay
    by_cases h0 : err = 0
    · subst h0; rw [if_pos rfl, List.append_nil]
    · rw [if_neg h0]
  rw [e]
  exact h.same
/-- what it tells: its very bytes, or the error -/
def XBytesRet (w : World) (v : Value) (s : WS) (e : Ending) (w' : World) : Prop := e = .returned (.tuple #[if s.1 = 0 then v else .slice none 0 0, .int .i64 s.1]) ∧ Below w.heap.size w w'
/-- what a row's steps come to -/
theorem wRow_steps (st : WS) (k u : List Int) (n : Int) (m : Nat) (hm : 0 ≤ n → n.toNat = m) :
    ∃ f f1 f2 : WS, ((k = [] ∨ n < 1) → f = wFail st 32) ∧ (¬ (k = [] ∨ n < 1) → (1024 < (k.length : Int) ∨ 65536 < (u.length : Int) ∨ 1152921504606846976 < n) → f = wFail st 31) ∧
      (¬ (k = [] ∨ n < 1) → ¬ (1024 < (k.length : Int) ∨ 65536 < (u.length : Int) ∨ 1152921504606846976 < n) → f = st) ∧
      wText f k 1024 = f1 ∧ wText f1 u 65536 = f2 ∧ wUint f2 (m : Int) = wRow st k u n ∧ f.2 = st.2 ∧ f1.2.length ≤ st.2.length + (10 + k.length) ∧ f2.2.length ≤ st.2.length + (10 + k.length) + (10 + u.length) := by
  obtain ⟨err, L⟩ := st
  by_cases h0 : err = 0
  · subst h0
    by_cases h1 : k = [] ∨ n < 1
    · refine ⟨(32, L), (32, L), (32, L), fun _ => rfl, fun h => absurd h1 h, fun h => absurd h1 h, rfl, rfl, ?_, rfl, by simp only; omega, by simp only; omega⟩
      unfold wUint wLay wRow
      rw [if_neg (by simp), if_neg (by simp), if_pos h1]
    · by_cases h2 : 1024 < (k.length : Int) ∨ 65536 < (u.length : Int) ∨ 1152921504606846976 < n
      · refine ⟨(31, L), (31, L), (31, L), fun h => absurd h h1, fun _ _ => rfl, fun _ h => absurd h2 h, rfl, rfl, ?_, rfl, by simp only; omega, by simp only; omega⟩
        unfold wUint wLay wRow
        rw [if_neg (by simp), if_neg (by simp), if_neg h1, if_pos h2]
      · have hk := lebB_10 (v := k.length) (by omega)
        have hu := lebB_10 (v := u.length) (by omega)
        refine ⟨(0, L), (0, L ++ (lebB k.length ++ k)), (0, L ++ (lebB k.length ++ k) ++ (lebB u.length ++ u)), fun h => absurd h h1, fun _ h => absurd h h2, fun _ _ => rfl, ?_, ?_, ?_, rfl, ?_, ?_⟩
        · unfold wText; rw [if_neg (by simp), if_neg (by omega), if_neg (by omega)]
        · unfold wText; rw [if_neg (by simp), if_neg (by omega), if_neg (by omega)]
        · unfold wUint wLay wRow
          rw [if_pos rfl, if_neg (by simp), if_neg h1, if_neg h2, Int.toNat_natCast, hm (by omega)]
        · simp only [List.length_append]; omega
        · simp only [List.length_append]; omega
  · have e1 : ∀ x, wFail (err, L) x = (err, L) := fun x => by unfold wFail; rw [if_neg h0]
    refine ⟨(err, L), (err, L), (err, L), fun _ => (e1 _).symm, fun _ _ => (e1 _).symm, fun _ _ => rfl, ?_, ?_, ?_, rfl, by simp only; omega, by simp only; omega⟩
    · unfold wText; rw [if_pos h0]
    · unfold wText; rw [if_pos h0]
    · unfold wUint wLay wRow; rw [if_neg h0, if_pos h0]
set_option maxHeartbeats 2000000 in
theorem X_Row_any (g : Nat) (v : Value) (st : WS) (k u : ByteArray) (n : Int) (w : World) (h : Xr w g v st) (hn0 : -9223372036854775808 ≤ n) (hn : n ≤ 9223372036854775807) (hl : st.2.length + k.size + u.size ≤ 140737488280000) :
    Calls Try.prog 44 #[.pointer (some ⟨g, 0, none⟩), .agg (rowC k u n)] w (XrRet w g v (wRow st (byL k) (byL u) n)) := by
  have hB0 := al1 (Below.refl w.heap.size w) (.cells (rowC k u n) 61)
  have hbR := Box.new w (rowC k u n) 61
  have hS0 := h.keep hB0
  obtain ⟨m, hm⟩ : ∃ m : Nat, IntKind.u64.wrap n = (m : Int) := ⟨(IntKind.u64.wrap n).toNat, by rw [IntKind.wrap_u64]; omega⟩
  have hmb := hd_ (show m < 18446744073709551616 by rw [IntKind.wrap_u64] at hm; omega)
  obtain ⟨f, f1, f2, k1, k2, k3, k4, k5, k6, k7, k8, k9⟩ := wRow_steps st (byL k) (byL u) n m (fun h => by rw [IntKind.wrap_u64] at hm; omega)
  rw [byL_length] at k2 k3 k8 k9
  rw [byL_length] at k2 k3 k9
  have H1 := hd_ k4
  have H2 := hd_ k5
  have H3 := hd_ k6
  have hl1 := hd_ (show f.2.length + k.size ≤ 140737488355300 by rw [k7]; omega)
  have hl2 := hd_ (show f1.2.length + u.size ≤ 140737488355300 by omega)
  have hl3 := hd_ (show f2.2.length ≤ 140737488355300 by omega)
  have NR := hd_ (box_box hbR hS0.1 (by decide))
  have HV := hd_ (own_box hS0.2 hbR (by decide))
  have HB0 := hd_ hB0
  have K1 := hd_ k1
  have K2 := hd_ k2
  have K3 := hd_ k3
  have hks : k.size ≤ 9223372036854775807 := by omega
  have hus : u.size ≤ 9223372036854775807 := by omega
  unfold rowC at *
  clear h k1 k2 k3 k4 k5 k6 k7 k8 k9 hl hB0
  by_cases c0 : k.size = 0
  · have hkL := toList_nil c0
    have hkE : k.toList.isEmpty = true := by rw [hkL]; rfl
    have HF := hd_ (K1.out (.inl (byL_nil.2 c0)))
    clear K1 K2 K3
    go_enter Try.func44, Try.ntmps44
    go_upto_region 1 with fail
    generalize w.alloc (.cells #[.string k, .string u, .int .i64 n] 61) = W0 at *
    have q0 : W0.cell? ⟨w.heap.size, 0, none⟩ = some (.string k) := hbR.cell 0 rfl
    go_wp2_with (first
      | (go_at_call 68; refine (X_Fail_any g v st 32 _ hS0).mono ?_; rintro e w2 ⟨rfl, v2, HX2, HC2, HO2'⟩; have HO2 := hd_ HO2'; clear HO2'; have hR2 := hbR.chg HC2 (fun h => h.elim NR.out (fun h => HV.out h.symm)); have y0 : w2.cell? ⟨w.heap.size, 0, none⟩ = some (.string k) := hR2.cell 0 rfl; have y1 : w2.cell? ⟨w.heap.size, 1, none⟩ = some (.string u) := hR2.cell 1 rfl; have y2 : w2.cell? ⟨w.heap.size, 2, none⟩ = some (.int .i64 n) := hR2.cell 2 rfl; rw [← HF.out] at HX2)
      | (go_at_call 69; (with_reducible refine (X_Text_any g v2 f k 1024 w2 HX2 hl1.out).mono ?_); rintro e w3 ⟨rfl, v3, HX3, HC3, HO3'⟩; have HO3 := hd_ HO3'; clear HO3'; have hR3 := hR2.chg HC3 (fun h => h.elim NR.out (fun h => own_box HX2.2 hR2 (by decide) h.symm)); have z1 : w3.cell? ⟨w.heap.size, 1, none⟩ = some (.string u) := hR3.cell 1 rfl; rw [H1.out] at HX3)
      | (go_at_call 69; (with_reducible refine (X_Text_any g v3 f1 u 65536 w3 HX3 hl2.out).mono ?_); rintro e w4 ⟨rfl, v4, HX4, HC4, HO4'⟩; have HO4 := hd_ HO4'; clear HO4'; have hR4 := hR3.chg HC4 (fun h => h.elim NR.out (fun h => own_box HX3.2 hR3 (by decide) h.symm)); have x2 : w4.cell? ⟨w.heap.size, 2, none⟩ = some (.int .i64 n) := hR4.cell 2 rfl; rw [H2.out] at HX4)
      | (go_at_call 70; refine (X_Uint_any g v4 f2 m w4 HX4 hmb.out hl3.out).mono ?_; rintro e w5 ⟨rfl, HP5⟩; rw [H3.out] at HP5))
    go_end0
    exact ⟨rfl, XrPost.after HB0.out (XrPost.trans HO2.out HC2 (XrPost.trans HO3.out HC3 (XrPost.trans HO4.out HC4 HP5)))⟩
  · have hkL := toList_ne c0
    have hkE : k.toList.isEmpty = false := by rw [List.isEmpty_eq_false_iff]; exact hkL
    by_cases c1 : n < 1
    · have HF := hd_ (K1.out (.inr c1))
      clear K1 K2 K3
      go_enter Try.func44, Try.ntmps44
      go_upto_region 1 with fail
      generalize w.alloc (.cells #[.string k, .string u, .int .i64 n] 61) = W0 at *
      have q0 : W0.cell? ⟨w.heap.size, 0, none⟩ = some (.string k) := hbR.cell 0 rfl
      have q1 : W0.cell? ⟨w.heap.size, 1, none⟩ = some (.string u) := hbR.cell 1 rfl
      have q2 : W0.cell? ⟨w.heap.size, 2, none⟩ = some (.int .i64 n) := hbR.cell 2 rfl
      go_wp2_with (first
        | (go_at_call 68; refine (X_Fail_any g v st 32 _ hS0).mono ?_; rintro e w2 ⟨rfl, v2, HX2, HC2, HO2'⟩; have HO2 := hd_ HO2'; clear HO2'; have hR2 := hbR.chg HC2 (fun h => h.elim NR.out (fun h => HV.out h.symm)); have y0 : w2.cell? ⟨w.heap.size, 0, none⟩ = some (.string k) := hR2.cell 0 rfl; have y1 : w2.cell? ⟨w.heap.size, 1, none⟩ = some (.string u) := hR2.cell 1 rfl; have y2 : w2.cell? ⟨w.heap.size, 2, none⟩ = some (.int .i64 n) := hR2.cell 2 rfl; rw [← HF.out] at HX2)
        | (go_at_call 69; (with_reducible refine (X_Text_any g v2 f k 1024 w2 HX2 hl1.out).mono ?_); rintro e w3 ⟨rfl, v3, HX3, HC3, HO3'⟩; have HO3 := hd_ HO3'; clear HO3'; have hR3 := hR2.chg HC3 (fun h => h.elim NR.out (fun h => own_box HX2.2 hR2 (by decide) h.symm)); have z1 : w3.cell? ⟨w.heap.size, 1, none⟩ = some (.string u) := hR3.cell 1 rfl; rw [H1.out] at HX3)
        | (go_at_call 69; (with_reducible refine (X_Text_any g v3 f1 u 65536 w3 HX3 hl2.out).mono ?_); rintro e w4 ⟨rfl, v4, HX4, HC4, HO4'⟩; have HO4 := hd_ HO4'; clear HO4'; have hR4 := hR3.chg HC4 (fun h => h.elim NR.out (fun h => own_box HX3.2 hR3 (by decide) h.symm)); have x2 : w4.cell? ⟨w.heap.size, 2, none⟩ = some (.int .i64 n) := hR4.cell 2 rfl; rw [H2.out] at HX4)
        | (go_at_call 70; refine (X_Uint_any g v4 f2 m w4 HX4 hmb.out hl3.out).mono ?_; rintro e w5 ⟨rfl, HP5⟩; rw [H3.out] at HP5))
      go_end0
      exact ⟨rfl, XrPost.after HB0.out (XrPost.trans HO2.out HC2 (XrPost.trans HO3.out HC3 (XrPost.trans HO4.out HC4 HP5)))⟩
    · have hno := hd_ (show ¬ (byL k = [] ∨ n < 1) from fun h => h.elim (fun h => c0 (byL_nil.1 h)) c1)
      have c1' : 1 ≤ n := by omega
      obtain rfl : n = (m : Int) := by rw [IntKind.wrap_u64] at hm; omega
      clear hm hn0 c1
      by_cases d1 : 1024 < (k.size : Int)
      · have HF := hd_ (K2.out hno.out (.inl d1))
        clear K1 K2 K3
        go_enter Try.func44, Try.ntmps44
        go_upto_region 1 with fail
        generalize w.alloc (.cells #[.string k, .string u, .int .i64 (m : Int)] 61) = W0 at *
        have q0 : W0.cell? ⟨w.heap.size, 0, none⟩ = some (.string k) := hbR.cell 0 rfl
        have q1 : W0.cell? ⟨w.heap.size, 1, none⟩ = some (.string u) := hbR.cell 1 rfl
        have q2 : W0.cell? ⟨w.heap.size, 2, none⟩ = some (.int .i64 (m : Int)) := hbR.cell 2 rfl
        go_wp2_with (first
          | (go_at_call 68; refine (X_Fail_any g v st 31 _ hS0).mono ?_; rintro e w2 ⟨rfl, v2, HX2, HC2, HO2'⟩; have HO2 := hd_ HO2'; clear HO2'; have hR2 := hbR.chg HC2 (fun h => h.elim NR.out (fun h => HV.out h.symm)); have y0 : w2.cell? ⟨w.heap.size, 0, none⟩ = some (.string k) := hR2.cell 0 rfl; have y1 : w2.cell? ⟨w.heap.size, 1, none⟩ = some (.string u) := hR2.cell 1 rfl; have y2 : w2.cell? ⟨w.heap.size, 2, none⟩ = some (.int .i64 (m : Int)) := hR2.cell 2 rfl; rw [← HF.out] at HX2)
          | (go_at_call 69; (with_reducible refine (X_Text_any g v2 f k 1024 w2 HX2 hl1.out).mono ?_); rintro e w3 ⟨rfl, v3, HX3, HC3, HO3'⟩; have HO3 := hd_ HO3'; clear HO3'; have hR3 := hR2.chg HC3 (fun h => h.elim NR.out (fun h => own_box HX2.2 hR2 (by decide) h.symm)); have z1 : w3.cell? ⟨w.heap.size, 1, none⟩ = some (.string u) := hR3.cell 1 rfl; rw [H1.out] at HX3)
          | (go_at_call 69; (with_reducible refine (X_Text_any g v3 f1 u 65536 w3 HX3 hl2.out).mono ?_); rintro e w4 ⟨rfl, v4, HX4, HC4, HO4'⟩; have HO4 := hd_ HO4'; clear HO4'; have hR4 := hR3.chg HC4 (fun h => h.elim NR.out (fun h => own_box HX3.2 hR3 (by decide) h.symm)); have x2 : w4.cell? ⟨w.heap.size, 2, none⟩ = some (.int .i64 (m : Int)) := hR4.cell 2 rfl; rw [H2.out] at HX4)
          | (go_at_call 70; refine (X_Uint_any g v4 f2 m w4 HX4 hmb.out hl3.out).mono ?_; rintro e w5 ⟨rfl, HP5⟩; rw [H3.out] at HP5))
        go_end0
        exact ⟨rfl, XrPost.after HB0.out (XrPost.trans HO2.out HC2 (XrPost.trans HO3.out HC3 (XrPost.trans HO4.out HC4 HP5)))⟩
      · by_cases d2 : 65536 < (u.size : Int)
        · have HF := hd_ (K2.out hno.out (.inr (.inl d2)))
          clear K1 K2 K3
          go_enter Try.func44, Try.ntmps44
          go_upto_region 1 with fail
          generalize w.alloc (.cells #[.string k, .string u, .int .i64 (m : Int)] 61) = W0 at *
          have q0 : W0.cell? ⟨w.heap.size, 0, none⟩ = some (.string k) := hbR.cell 0 rfl
          have q1 : W0.cell? ⟨w.heap.size, 1, none⟩ = some (.string u) := hbR.cell 1 rfl
          have q2 : W0.cell? ⟨w.heap.size, 2, none⟩ = some (.int .i64 (m : Int)) := hbR.cell 2 rfl
          go_wp2_with (first
            | (go_at_call 68; refine (X_Fail_any g v st 31 _ hS0).mono ?_; rintro e w2 ⟨rfl, v2, HX2, HC2, HO2'⟩; have HO2 := hd_ HO2'; clear HO2'; have hR2 := hbR.chg HC2 (fun h => h.elim NR.out (fun h => HV.out h.symm)); have y0 : w2.cell? ⟨w.heap.size, 0, none⟩ = some (.string k) := hR2.cell 0 rfl; have y1 : w2.cell? ⟨w.heap.size, 1, none⟩ = some (.string u) := hR2.cell 1 rfl; have y2 : w2.cell? ⟨w.heap.size, 2, none⟩ = some (.int .i64 (m : Int)) := hR2.cell 2 rfl; rw [← HF.out] at HX2)
            | (go_at_call 69; (with_reducible refine (X_Text_any g v2 f k 1024 w2 HX2 hl1.out).mono ?_); rintro e w3 ⟨rfl, v3, HX3, HC3, HO3'⟩; have HO3 := hd_ HO3'; clear HO3'; have hR3 := hR2.chg HC3 (fun h => h.elim NR.out (fun h => own_box HX2.2 hR2 (by decide) h.symm)); have z1 : w3.cell? ⟨w.heap.size, 1, none⟩ = some (.string u) := hR3.cell 1 rfl; rw [H1.out] at HX3)
            | (go_at_call 69; (with_reducible refine (X_Text_any g v3 f1 u 65536 w3 HX3 hl2.out).mono ?_); rintro e w4 ⟨rfl, v4, HX4, HC4, HO4'⟩; have HO4 := hd_ HO4'; clear HO4'; have hR4 := hR3.chg HC4 (fun h => h.elim NR.out (fun h => own_box HX3.2 hR3 (by decide) h.symm)); have x2 : w4.cell? ⟨w.heap.size, 2, none⟩ = some (.int .i64 (m : Int)) := hR4.cell 2 rfl; rw [H2.out] at HX4)
            | (go_at_call 70; refine (X_Uint_any g v4 f2 m w4 HX4 hmb.out hl3.out).mono ?_; rintro e w5 ⟨rfl, HP5⟩; rw [H3.out] at HP5))
          go_end0
          exact ⟨rfl, XrPost.after HB0.out (XrPost.trans HO2.out HC2 (XrPost.trans HO3.out HC3 (XrPost.trans HO4.out HC4 HP5)))⟩
        · by_cases d3 : 1152921504606846976 < (m : Int)
          · have HF := hd_ (K2.out hno.out (.inr (.inr d3)))
            clear K1 K2 K3
            go_enter Try.func44, Try.ntmps44
            go_upto_region 1 with fail
            generalize w.alloc (.cells #[.string k, .string u, .int .i64 (m : Int)] 61) = W0 at *
            have q0 : W0.cell? ⟨w.heap.size, 0, none⟩ = some (.string k) := hbR.cell 0 rfl
            have q1 : W0.cell? ⟨w.heap.size, 1, none⟩ = some (.string u) := hbR.cell 1 rfl
            have q2 : W0.cell? ⟨w.heap.size, 2, none⟩ = some (.int .i64 (m : Int)) := hbR.cell 2 rfl
            go_wp2_with (first
              | (go_at_call 68; refine (X_Fail_any g v st 31 _ hS0).mono ?_; rintro e w2 ⟨rfl, v2, HX2, HC2, HO2'⟩; have HO2 := hd_ HO2'; clear HO2'; have hR2 := hbR.chg HC2 (fun h => h.elim NR.out (fun h => HV.out h.symm)); have y0 : w2.cell? ⟨w.heap.size, 0, none⟩ = some (.string k) := hR2.cell 0 rfl; have y1 : w2.cell? ⟨w.heap.size, 1, none⟩ = some (.string u) := hR2.cell 1 rfl; have y2 : w2.cell? ⟨w.heap.size, 2, none⟩ = some (.int .i64 (m : Int)) := hR2.cell 2 rfl; rw [← HF.out] at HX2)
              | (go_at_call 69; (with_reducible refine (X_Text_any g v2 f k 1024 w2 HX2 hl1.out).mono ?_); rintro e w3 ⟨rfl, v3, HX3, HC3, HO3'⟩; have HO3 := hd_ HO3'; clear HO3'; have hR3 := hR2.chg HC3 (fun h => h.elim NR.out (fun h => own_box HX2.2 hR2 (by decide) h.symm)); have z1 : w3.cell? ⟨w.heap.size, 1, none⟩ = some (.string u) := hR3.cell 1 rfl; rw [H1.out] at HX3)
              | (go_at_call 69; (with_reducible refine (X_Text_any g v3 f1 u 65536 w3 HX3 hl2.out).mono ?_); rintro e w4 ⟨rfl, v4, HX4, HC4, HO4'⟩; have HO4 := hd_ HO4'; clear HO4'; have hR4 := hR3.chg HC4 (fun h => h.elim NR.out (fun h => own_box HX3.2 hR3 (by decide) h.symm)); have x2 : w4.cell? ⟨w.heap.size, 2, none⟩ = some (.int .i64 (m : Int)) := hR4.cell 2 rfl; rw [H2.out] at HX4)
              | (go_at_call 70; refine (X_Uint_any g v4 f2 m w4 HX4 hmb.out hl3.out).mono ?_; rintro e w5 ⟨rfl, HP5⟩; rw [H3.out] at HP5))
            go_end0
            exact ⟨rfl, XrPost.after HB0.out (XrPost.trans HO2.out HC2 (XrPost.trans HO3.out HC3 (XrPost.trans HO4.out HC4 HP5)))⟩
          · have HF := hd_ (K3.out hno.out (fun h => h.elim d1 (fun h => h.elim d2 d3)))
            have hS2 := hd_ (show Xr _ g v f by rw [HF.out]; exact hS0)
            clear K1 K2 K3
            go_enter Try.func44, Try.ntmps44
            go_upto_region 1 with fail
            generalize w.alloc (.cells #[.string k, .string u, .int .i64 (m : Int)] 61) = W0 at *
            have q0 : W0.cell? ⟨w.heap.size, 0, none⟩ = some (.string k) := hbR.cell 0 rfl
            have q1 : W0.cell? ⟨w.heap.size, 1, none⟩ = some (.string u) := hbR.cell 1 rfl
            have q2 : W0.cell? ⟨w.heap.size, 2, none⟩ = some (.int .i64 (m : Int)) := hbR.cell 2 rfl
            go_wp2_with (first
              | (go_at_call 69; (with_reducible refine (X_Text_any g v f k 1024 W0 hS2.out hl1.out).mono ?_); rintro e w3 ⟨rfl, v3, HX3, HC3, HO3'⟩; have HO3 := hd_ HO3'; clear HO3'; have hR3 := hbR.chg HC3 (fun h => h.elim NR.out (fun h => own_box hS2.out.2 hbR (by decide) h.symm)); have z1 : w3.cell? ⟨w.heap.size, 1, none⟩ = some (.string u) := hR3.cell 1 rfl; rw [H1.out] at HX3)
              | (go_at_call 69; (with_reducible refine (X_Text_any g v3 f1 u 65536 w3 HX3 hl2.out).mono ?_); rintro e w4 ⟨rfl, v4, HX4, HC4, HO4'⟩; have HO4 := hd_ HO4'; clear HO4'; have hR4 := hR3.chg HC4 (fun h => h.elim NR.out (fun h => own_box HX3.2 hR3 (by decide) h.symm)); have x2 : w4.cell? ⟨w.heap.size, 2, none⟩ = some (.int .i64 (m : Int)) := hR4.cell 2 rfl; rw [H2.out] at HX4)
              | (go_at_call 70; refine (X_Uint_any g v4 f2 m w4 HX4 hmb.out hl3.out).mono ?_; rintro e w5 ⟨rfl, HP5⟩; rw [H3.out] at HP5))
            go_end0
            exact ⟨rfl, XrPost.after HB0.out (XrPost.trans HO3.out HC3 (XrPost.trans HO4.out HC4 HP5))⟩
end Go.Proofs.Ytdmogbkfmeihfaa
