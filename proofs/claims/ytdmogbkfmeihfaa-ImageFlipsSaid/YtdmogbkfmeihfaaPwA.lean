/- A writer and its calls. -/
import Derived.Test.YtdmogbkfmeihfaaLeb
import Derived.Test.YtdmogbkfmeihfaaShaB
import Derived.Lib.SlBytesConst
import Derived.Deep.QuietTactic
import Derived.BigQuiet
import Derived.Deep.RegionWith
import Derived.Outline
namespace Go.Proofs.Ytdmogbkfmeihfaa
open Go.RowKit
set_option maxRecDepth 100000
set_option linter.unusedVariables false
/-- a number at a place: it, the place behind it, the error -/
def numA (B : List Int) (at_ : Nat) : Int × Nat × Int :=
  if (lebD (B.drop at_) 10 0).2.2 = 0 then ((lebD (B.drop at_) 10 0).1, at_ + (lebD (B.drop at_) 10 0).2.1.toNat, 0) else (0, 0, (lebD (B.drop at_) 10 0).2.2 + 20)
theorem numA_cases (B : List Int) (hB : IsBytes B) (at_ : Nat) (h : at_ ≤ B.length) :
    (∃ E : Int, (E = 10 ∨ E = 11 ∨ E = 12) ∧ lebD (B.drop at_) 10 0 = (0, 0, E) ∧ numA B at_ = (0, 0, E + 20)) ∨
    ∃ u k : Nat, lebD (B.drop at_) 10 0 = ((u : Int), (k : Int), 0) ∧ numA B at_ = ((u : Int), at_ + k, 0) ∧ at_ + k ≤ B.length ∧ 1 ≤ k ∧ k ≤ 10 ∧ (B.drop at_).take k = lebB u ∧ u < 18446744073709551616 := by
  rcases lebD_cases (B.drop at_) (bytes_drop hB _) with e | e | e | ⟨u, k, e, h1, h2, h2', h3, h4⟩
  · exact .inl ⟨10, .inl rfl, e, by unfold numA; rw [e]; rfl⟩
  · exact .inl ⟨11, .inr (.inl rfl), e, by unfold numA; rw [e]; rfl⟩
  · exact .inl ⟨12, .inr (.inr rfl), e, by unfold numA; rw [e]; rfl⟩
  · rw [List.length_drop] at h1
    exact .inr ⟨u, k, e, by unfold numA; rw [e]; simp, by omega, h2, h2', h3, h4⟩
/-- a number of at most so much -/
def uptoA (B : List Int) (at_ : Nat) (most : Int) : Int × Nat × Int :=
  if most < 0 then (0, 0, 1) else if (numA B at_).2.2 ≠ 0 then (0, 0, (numA B at_).2.2) else if most < (numA B at_).1 then (0, 0, 31) else numA B at_
/-- a text of at most so much -/
def textA (B : List Int) (at_ : Nat) (most : Int) : List Int × Nat × Int :=
  if (uptoA B at_ most).2.2 ≠ 0 then ([], 0, (uptoA B at_ most).2.2) else if (B.length : Int) - (uptoA B at_ most).2.1 < (uptoA B at_ most).1 then ([], 0, 30)
  else ((B.drop (uptoA B at_ most).2.1).take (uptoA B at_ most).1.toNat, (uptoA B at_ most).2.1 + (uptoA B at_ most).1.toNat, 0)
theorem uptoA_cases (B : List Int) (hB : IsBytes B) (at_ : Nat) (h : at_ ≤ B.length) (most : Int) (hm : most < 9223372036854775808) :
    (∃ E : Int, (E = 1 ∨ E = 30 ∨ E = 31 ∨ E = 32) ∧ uptoA B at_ most = (0, 0, E)) ∨
    ∃ u k : Nat, uptoA B at_ most = ((u : Int), at_ + k, 0) ∧ at_ + k ≤ B.length ∧ 1 ≤ k ∧ (B.drop at_).take k = lebB u ∧ (u : Int) ≤ most ∧ 0 ≤ most ∧ (u : Int) < 9223372036854775808 := by
  unfold uptoA
  by_cases h0 : most < 0
  · rw [if_pos h0]; exact .inl ⟨1, .inl rfl, rfl⟩
  rw [if_neg h0]
  rcases numA_cases B hB at_ h with ⟨E, hE, _, e⟩ | ⟨u, k, _, e, h1, h2, _, h3, h4⟩
  · rw [e, if_pos (by simp only; omega)]
    exact .inl ⟨E + 20, by omega, rfl⟩
  · rw [e, if_neg (by simp)]
    by_cases hu : most < (u : Int)
    · rw [if_pos hu]; exact .inl ⟨31, by omega, rfl⟩
    · rw [if_neg hu]
      exact .inr ⟨u, k, rfl, h1, h2, h3, by omega, by omega, by omega⟩
theorem textA_cases (B : List Int) (hB : IsBytes B) (at_ : Nat) (h : at_ ≤ B.length) (most : Int) (hm : most < 9223372036854775808) :
    (∃ E : Int, (E = 1 ∨ E = 30 ∨ E = 31 ∨ E = 32) ∧ textA B at_ most = ([], 0, E)) ∨
    ∃ n k : Nat, uptoA B at_ most = ((n : Int), at_ + k, 0) ∧ textA B at_ most = ((B.drop (at_ + k)).take n, at_ + k + n, 0) ∧ at_ + k + n ≤ B.length ∧ 1 ≤ k ∧ (B.drop at_).take k = lebB n ∧ (n : Int) ≤ most ∧ 0 ≤ most ∧ (n : Int) < 9223372036854775808 := by
  unfold textA
  rcases uptoA_cases B hB at_ h most hm with ⟨E, hE, e⟩ | ⟨u, k, e, h1, h2, h3, h4, h5, h6⟩
  · rw [e, if_pos (by simp only; omega)]
    exact .inl ⟨E, hE, rfl⟩
  · rw [e, if_neg (by simp)]
    by_cases hu : (B.length : Int) - ((at_ + k : Nat) : Int) < (u : Int)
    · rw [if_pos hu]; exact .inl ⟨30, by omega, rfl⟩
    · rw [if_neg hu]
      exact .inr ⟨u, k, rfl, rfl, by omega, h2, h3, h4, h5, h6⟩
/-- calls of a reader: the answer, the place, the error behind it -/
def rUint (B : List Int) (at_ : Nat) (err : Int) : Int × Nat × Int :=
  if err ≠ 0 then (0, at_, err) else if (numA B at_).2.2 ≠ 0 then (0, at_, (numA B at_).2.2) else numA B at_
def rInt (B : List Int) (at_ : Nat) (err most : Int) : Int × Nat × Int :=
  if err ≠ 0 then (0, at_, err) else if (uptoA B at_ most).2.2 ≠ 0 then (0, at_, (uptoA B at_ most).2.2) else uptoA B at_ most
def rText (B : List Int) (at_ : Nat) (err most : Int) : List Int × Nat × Int :=
  if err ≠ 0 then ([], at_, err) else if (textA B at_ most).2.2 ≠ 0 then ([], at_, (textA B at_ most).2.2) else textA B at_ most
def rFlag (B : List Int) (at_ : Nat) (err : Int) : Bool × Nat × Int :=
  if err ≠ 0 then (false, at_, err) else if B.length ≤ at_ then (false, at_, 30) else if 1 < B.getD at_ 0 then (false, at_, 32) else (decide (B.getD at_ 0 = 1), at_ + 1, 0)
def rDigest (B : List Int) (at_ : Nat) (err : Int) : List Int × Nat × Int :=
  if err ≠ 0 then (List.replicate 32 0, at_, err) else if (B.length : Int) - at_ < 32 then (List.replicate 32 0, at_, 30) else ((B.drop at_).take 32, at_ + 32, 0)
def rowA (B : List Int) (at_ : Nat) : (List Int × List Int × Int) × Nat × Int :=
  if (textA B at_ 1024).2.2 ≠ 0 then (([], [], 0), at_, (textA B at_ 1024).2.2)
  else if (textA B (textA B at_ 1024).2.1 65536).2.2 ≠ 0 then (([], [], 0), at_, (textA B (textA B at_ 1024).2.1 65536).2.2)
  else if (uptoA B (textA B (textA B at_ 1024).2.1 65536).2.1 1152921504606846976).2.2 ≠ 0 then (([], [], 0), at_, (uptoA B (textA B (textA B at_ 1024).2.1 65536).2.1 1152921504606846976).2.2)
  else if (textA B at_ 1024).1 = [] ∨ (uptoA B (textA B (textA B at_ 1024).2.1 65536).2.1 1152921504606846976).1 = 0 then (([], [], 0), at_, 32)
  else (((textA B at_ 1024).1, (textA B (textA B at_ 1024).2.1 65536).1, (uptoA B (textA B (textA B at_ 1024).2.1 65536).2.1 1152921504606846976).1), (uptoA B (textA B (textA B at_ 1024).2.1 65536).2.1 1152921504606846976).2.1, 0)
def rRow (B : List Int) (at_ : Nat) (err : Int) : (List Int × List Int × Int) × Nat × Int := if err ≠ 0 then (([], [], 0), at_, err) else rowA B at_
def rCount (B : List Int) (at_ : Nat) (err most least : Int) : Int × Nat × Int :=
  if err ≠ 0 then (0, at_, err) else if most < 0 ∨ least < 0 then (0, at_, 1) else if (uptoA B at_ most).2.2 ≠ 0 then (0, at_, (uptoA B at_ most).2.2)
  else if 0 < least ∧ ((B.length : Int) - (uptoA B at_ most).2.1) / least < (uptoA B at_ most).1 then (0, at_, 30) else uptoA B at_ most
def rFail (err e : Int) : Int := if err = 0 then e else err
def rEnd (B : List Int) (at_ : Nat) (err : Int) : Int := if err = 0 ∧ at_ < B.length then 34 else err
/-- calls of a writer: the error and the bytes behind it -/
abbrev WS := Int × List Int
def wLay (s : WS) (b : List Int) : WS := if s.1 = 0 then (0, s.2 ++ b) else s
def wFail (s : WS) (e : Int) : WS := if s.1 = 0 then (e, s.2) else s
def wUint (s : WS) (v : Int) : WS := wLay s (lebB v.toNat)
def wInt (s : WS) (v most : Int) : WS := if s.1 ≠ 0 then s else if v < 0 ∨ most < 0 then (1, s.2) else if most < v then (31, s.2) else (0, s.2 ++ lebB v.toNat)
def wText (s : WS) (b : List Int) (most : Int) : WS := if s.1 ≠ 0 then s else if most < 0 then (1, s.2) else if most < (b.length : Int) then (31, s.2) else (0, s.2 ++ (lebB b.length ++ b))
def wFlag (s : WS) (f : Bool) : WS := wLay s [if f then 1 else 0]
def wRow (s : WS) (k v : List Int) (n : Int) : WS :=
  if s.1 ≠ 0 then s else if k = [] ∨ n < 1 then (32, s.2) else if 1024 < (k.length : Int) ∨ 65536 < (v.length : Int) ∨ 1152921504606846976 < n then (31, s.2)
  else (0, s.2 ++ (lebB k.length ++ k) ++ (lebB v.length ++ v) ++ lebB n.toNat)
theorem fate_Fail_zero (g : Nat) (T : TypeId) (cs : Array Value) (e : Int) (w : World) (hb : Box w g T cs) (h0 : cs[0]? = some (.int .i64 0)) :
    Calls Try.prog 113 #[.pointer (some ⟨g, 0, none⟩), .int .i64 e] w fun en w' => en = .returned (.tuple #[]) ∧ Box w' g T (cs.setIfInBounds 0 (.int .i64 e)) ∧ w.grownBy w' (some g) := by
  have q0 := hb.cell 0 h0
  have z0 := hb.frozen 0
  have HP := hd_ (hb.put 0 (.int .i64 e))
  clear hb
  go_enter Try.func113, Try.ntmps113
  go_wp2
  go_end0
  exact ⟨rfl, HP.out⟩
theorem fate_Fail_not (g : Nat) (T : TypeId) (cs : Array Value) (err e : Int) (w : World) (hb : Box w g T cs) (h0 : cs[0]? = some (.int .i64 err)) (hne : err ≠ 0) :
    Calls Try.prog 113 #[.pointer (some ⟨g, 0, none⟩), .int .i64 e] w fun en w' => en = .returned (.tuple #[]) ∧ w = w' := by
  have q0 := hb.cell 0 h0
  have hB : (err == 0) = false := by rw [beq_eq_false_iff_ne]; exact hne
  clear hb
  go_enter Try.func113, Try.ntmps113
  go_wp2
  go_end0
  exact ⟨rfl, rfl⟩
theorem must_go (g : Nat) (T : TypeId) (cs : Array Value) (e : Int) (w : World) (hb : Box w g T cs) (h0 : cs[0]? = some (.int .i64 0)) :
    Calls Try.prog 96 #[.pointer (some ⟨g, 0, none⟩), .bool true, .int .i64 e] w fun en w' => en = .returned (.bool true) ∧ w = w' := by
  have q0 := hb.cell 0 h0
  clear hb
  go_enter Try.func96, Try.ntmps96
  go_wp2
  go_ret
  exact ⟨rfl, rfl⟩
theorem must_no (g : Nat) (T : TypeId) (cs : Array Value) (e : Int) (w : World) (hb : Box w g T cs) (h0 : cs[0]? = some (.int .i64 0)) (hne : e ≠ 0) (hs : 0 < cs.size) :
    Calls Try.prog 96 #[.pointer (some ⟨g, 0, none⟩), .bool false, .int .i64 e] w fun en w' => en = .returned (.bool false) ∧ Box w' g T (cs.setIfInBounds 0 (.int .i64 e)) ∧ w.grownBy w' (some g) := by
  have hB : (e == 0) = false := by rw [beq_eq_false_iff_ne]; exact hne
  have hq := hd_ (show (cs.setIfInBounds 0 (.int .i64 e))[0]? = some (.int .i64 e) by simp [hs])
  have HB0 := hd_ hb
  have H0 := hd_ h0
  clear hb h0 hs hne
  go_enter Try.func96, Try.ntmps96
  go_wp2_with (go_at_call 113; go_loud (refine (fate_Fail_zero g T cs e _ HB0.out H0.out).mono ?_); rintro en w1 ⟨rfl, hb1, hg1⟩; have q1 := hb1.cell 0 hq.out)
  go_ret
  exact ⟨rfl, hb1, hg1⟩
theorem must_bad (g : Nat) (T : TypeId) (cs : Array Value) (err e : Int) (ok : Bool) (w : World) (hb : Box w g T cs) (h0 : cs[0]? = some (.int .i64 err)) (hne : err ≠ 0) :
    Calls Try.prog 96 #[.pointer (some ⟨g, 0, none⟩), .bool ok, .int .i64 e] w fun en w' => en = .returned (.bool false) ∧ w = w' := by
  have q0 := hb.cell 0 h0
  have hB : (err == 0) = false := by rw [beq_eq_false_iff_ne]; exact hne
  cases ok
  · go_enter Try.func96, Try.ntmps96
    go_wp2_with (go_at_call 113; refine (fate_Fail_not g T cs err e _ hb h0 hne).mono ?_; rintro en w1 ⟨rfl, rfl⟩)
    go_ret
    exact ⟨rfl, rfl⟩
  · go_enter Try.func96, Try.ntmps96
    go_wp2
    go_ret
    exact ⟨rfl, rfl⟩
/-- a writer: its error and its bytes -/
def Wr (W : World) (g : Nat) (v : Value) (s : WS) : Prop := Box W g 126 #[.int .i64 s.1, v] ∧ Own W 0 5 v s.2
/-- behind a call of a writer -/
def WrPost (w : World) (g : Nat) (v : Value) (s : WS) (w' : World) : Prop :=
  ∃ v', Wr w' g v' s ∧ Chg (fun k => k = g ∨ some k = v.ownBlock) w w' ∧ (v'.ownBlock = v.ownBlock ∨ ∃ k, v'.ownBlock = some k ∧ w.heap.size ≤ k)
def WrRet (w : World) (g : Nat) (v : Value) (s : WS) (e : Ending) (w' : World) : Prop := e = .returned (.tuple #[]) ∧ WrPost w g v s w'
theorem Wr.same {w : World} {g : Nat} {v : Value} {s : WS} (h : Wr w g v s) : WrPost w g v s w := ⟨v, h, Chg.refl _ _, .inl rfl⟩
theorem Wr.keep {w w1 : World} {g : Nat} {v : Value} {s : WS} (h : Wr w g v s) (hb : Below w.heap.size w w1) : Wr w1 g v s := ⟨h.1.keep hb, h.2.keep hb⟩
theorem WrPost.trans {w w1 w2 : World} {g : Nat} {v v1 : Value} {s1 s2 : WS} (hv : v1.ownBlock = v.ownBlock ∨ ∃ k, v1.ownBlock = some k ∧ w.heap.size ≤ k) (hc : Chg (fun k => k = g ∨ some k = v.ownBlock) w w1) (h2 : WrPost w1 g v1 s2 w2) : WrPost w g v s2 w2 := by
  obtain ⟨v2, k1, k2, k3⟩ := h2
  refine ⟨v2, k1, hc.trans k2 ?_, ?_⟩
  · rintro b hb (h | h)
    · exact .inl h
    · rcases hv with e | ⟨k, e, hk⟩
      · exact .inr (h.trans e)
      · rw [e] at h; injection h with h; omega
  · rcases k3 with e | ⟨k, e, hk⟩
    · rcases hv with e1 | ⟨k, e1, hk⟩
      · exact .inl (e.trans e1)
      · exact .inr ⟨k, e.trans e1, hk⟩
    · exact .inr ⟨k, e, Nat.le_trans hc.size hk⟩
/-- new memory ahead of it -/
theorem WrPost.after {w w1 w2 : World} {g : Nat} {v : Value} {s2 : WS} (hb : Below w.heap.size w w1) (h2 : WrPost w1 g v s2 w2) : WrPost w g v s2 w2 :=
  WrPost.trans (s1 := s2) (.inl rfl) (Chg.below hb) h2
/-- new memory behind it -/
theorem WrPost.before {w w1 w2 : World} {g : Nat} {v : Value} {s : WS} (h : WrPost w g v s w1) (hb : Below w1.heap.size w1 w2) : WrPost w g v s w2 := by
  obtain ⟨v1, k1, k2, k3⟩ := h
  exact ⟨v1, k1.keep hb, k2.trans (Chg.below hb) (fun _ _ h => h), k3⟩
theorem Wr.ne {w : World} {g : Nat} {v : Value} {s : WS} (h : Wr w g v s) : v.ownBlock ≠ some g := own_box h.2 h.1 (by decide)
theorem Wr.failed {w w1 : World} {g : Nat} {v : Value} {s : WS} (h : Wr w g v s) (e : Int) (hb : Box w1 g 126 (#[.int .i64 s.1, v].setIfInBounds 0 (.int .i64 e))) (hg : w.grownBy w1 (some g)) : WrPost w g v (e, s.2) w1 :=
  ⟨v, ⟨hb, h.2.kept hg (.inr h.ne)⟩, Chg.grown hg (fun b _ hb => .inl (by injection hb)), .inl rfl⟩
theorem W_lay_any (g : Nat) (v y : Value) (s : WS) (b : List Int) (w : World) (h : Wr w g v s) (HR : Rd w y b) (hl : s.2.length + b.length ≤ 140737488355328) :
    Calls Try.prog 93 #[.pointer (some ⟨g, 0, none⟩), y] w (WrRet w g v (wLay s b)) := by
  obtain ⟨err, L⟩ := s
  have q0 := h.1.cell 0 rfl
  by_cases h0 : err = 0
  · subst h0
    have q1 := h.1.cell 1 rfl
    have hS := hd_ h
    have hlB := hd_ hl
    obtain ⟨M, hM⟩ : ∃ M, L ++ b = M := ⟨_, rfl⟩
    have HM := hd_ hM
    clear hl hM h
    rw [wLay, if_pos rfl, HM.out]
    go_enter Try.func93, Try.ntmps93
    go_wp2_with (at_builtin; (refine app_bytes (w0 := w) 0 rfl _ _ 22 5 rfl Try.underlying22 infoB v y L b rfl rfl hS.out.2 HR (Below.refl _ _) (Nat.zero_le _) hlB.out ?_); intro v2 w2 HO2 HB2 hg2 hat2; rw [HM.out] at HO2; obtain ⟨A2, c2, rfl, _⟩ := HO2.rd.form; have hbx := hS.out.1.grown hg2 (fun e => hS.out.ne e.symm); have z1 := hbx.frozen 1; have y1 := hbx.cell 1 rfl)
    go_end0
    obtain ⟨hb3, hg3⟩ := hbx.put 1 (.slice A2 M.length c2)
    refine ⟨rfl, .slice A2 M.length c2, ⟨hb3, HO2.kept hg3 (.inr (own_box HO2 hbx (by decide)))⟩, (Chg.grown hg2 fun b _ hb => .inr hb).trans (Chg.of hg3) fun b _ hb => .inl (by injection hb), ?_⟩
    rcases hat2 with h | h
    · exact .inl h
    · exact .inr ⟨_, h, Nat.le_refl _⟩
  · have hB : (err == 0) = false := by rw [beq_eq_false_iff_ne]; exact h0
    have hS := hd_ h
    have H0 := hd_ h0
    clear h h0
    go_enter Try.func93, Try.ntmps93
    go_wp2
    go_end0
    exact ⟨rfl, by rw [wLay, if_neg H0.out]; exact hS.out.same⟩
theorem W_Uint_any (g : Nat) (v : Value) (s : WS) (u : Nat) (w : World) (h : Wr w g v s) (hu : u < 18446744073709551616) (hl : s.2.length ≤ 140737488355300) :
    Calls Try.prog 74 #[.pointer (some ⟨g, 0, none⟩), .int .u64 (u : Int)] w (WrRet w g v (wUint s (u : Int))) := by
  have hbx := box_one w (.int .u64 (u : Int)) 116
  have hB0 := al1 (Below.refl w.heap.size w) (.cells #[.int .u64 (u : Int)] 116)
  have hlB := hd_ (show s.2.length + (lebB u).length ≤ 140737488355328 by have := lebB_10 hu; omega)
  have hE : wUint s (u : Int) = wLay s (lebB u) := by unfold wUint; rw [Int.toNat_natCast]
  rw [hE]
  clear hl hE
  have hS := hd_ (h.keep hB0)
  clear h
  go_enter Try.func74, Try.ntmps74
  go_wp2_with (first
    | (go_at_call 94; refine (leb_Encode_any _ u _ hbx hu).mono ?_; rintro e w1 ⟨v1, rfl, HO1, HB1⟩)
    | (go_at_call 93; refine (W_lay_any g v _ s _ _ (hS.out.keep HB1) HO1.rd hlB.out).mono ?_; rintro e w2 ⟨rfl, HP⟩))
  go_end0
  exact ⟨rfl, HP.after (bel_trans hB0 HB1)⟩
theorem W_Int_any (g : Nat) (v : Value) (s : WS) (x most : Int) (w : World) (h : Wr w g v s) (hx : x < 9223372036854775808) (hl : s.2.length ≤ 140737488355300) :
    Calls Try.prog 98 #[.pointer (some ⟨g, 0, none⟩), .int .i64 x, .int .i64 most] w (WrRet w g v (wInt s x most)) := by
  obtain ⟨err, L⟩ := s
  have hb := hd_ h.1
  have hS := hd_ h
  by_cases h0 : err = 0
  · subst h0
    by_cases hneg : x < 0 ∨ most < 0
    · have hE : wInt (0, L) x most = (1, L) := by unfold wInt; rw [if_neg (by simp), if_pos hneg]
      rw [hE]
      clear hE h
      rcases hneg with h1 | h1
      · have h1' : ¬ 0 ≤ x := by omega
        go_enter Try.func98, Try.ntmps98
        go_wp2_with (go_at_call 96; refine (must_no g _ _ 1 _ hb.out rfl (by decide) (by simp)).mono ?_; rintro e w1 ⟨rfl, hb1, hg1⟩)
        go_end0
        exact ⟨rfl, hS.out.failed 1 hb1 hg1⟩
      · have h1' : ¬ 0 ≤ most := by omega
        by_cases h2 : 0 ≤ x
        · go_enter Try.func98, Try.ntmps98
          go_wp2_with (go_at_call 96; refine (must_no g _ _ 1 _ hb.out rfl (by decide) (by simp)).mono ?_; rintro e w1 ⟨rfl, hb1, hg1⟩)
          go_end0
          exact ⟨rfl, hS.out.failed 1 hb1 hg1⟩
        · go_enter Try.func98, Try.ntmps98
          go_wp2_with (go_at_call 96; refine (must_no g _ _ 1 _ hb.out rfl (by decide) (by simp)).mono ?_; rintro e w1 ⟨rfl, hb1, hg1⟩)
          go_end0
          exact ⟨rfl, hS.out.failed 1 hb1 hg1⟩
    · obtain ⟨n, rfl⟩ := Int.eq_ofNat_of_zero_le (show 0 ≤ x by omega)
      have hm0 : 0 ≤ most := by omega
      by_cases hm : most < (n : Int)
      · have hE : wInt (0, L) (n : Int) most = (31, L) := by unfold wInt; rw [if_neg (by simp), if_neg hneg, if_pos hm]
        rw [hE]
        have hm' : decide ((n : Int) ≤ most) = false := decide_eq_false (by omega)
        clear hE h hneg
        go_enter Try.func98, Try.ntmps98
        go_wp2_with (first
          | (go_at_call 96; ((with_reducible refine (must_go g _ _ 1 _ hb.out rfl).mono ?_); rintro e w1 ⟨rfl, rfl⟩))
          | (go_at_call 96; ((with_reducible refine (must_no g _ _ 31 _ hb.out rfl (by decide) (by simp)).mono ?_); rintro e w1 ⟨rfl, hb1, hg1⟩)))
        go_end0
        exact ⟨rfl, hS.out.failed 31 hb1 hg1⟩
      · have hE : wInt (0, L) (n : Int) most = wUint (0, L) (n : Int) := by unfold wInt wUint wLay; rw [if_neg (by simp), if_neg hneg, if_neg hm, if_pos rfl]
        rw [hE]
        have hm' : (n : Int) ≤ most := by omega
        have hu := hd_ (show n < 18446744073709551616 by omega)
        clear hE h hneg hm
        go_enter Try.func98, Try.ntmps98
        go_wp2_with (first
          | (go_at_call 96; ((with_reducible refine (must_go g _ _ _ _ hb.out rfl).mono ?_); rintro e w1 ⟨rfl, rfl⟩))
          | (go_at_call 74; refine (W_Uint_any g v (0, L) n _ hS.out hu.out hl).mono ?_; rintro e w1 ⟨rfl, HP⟩))
        go_end0
        exact ⟨rfl, HP⟩
  · have hE : wInt (err, L) x most = (err, L) := by unfold wInt; rw [if_pos h0]
    rw [hE]
    have H0 := hd_ h0
    clear hE h h0
    by_cases h1 : 0 ≤ x
    · go_enter Try.func98, Try.ntmps98
      go_wp2_with (go_at_call 96; refine (must_bad g _ _ err 1 _ _ hb.out rfl H0.out).mono ?_; rintro e w1 ⟨rfl, rfl⟩)
      go_end0
      exact ⟨rfl, hS.out.same⟩
    · go_enter Try.func98, Try.ntmps98
      go_wp2_with (go_at_call 96; refine (must_bad g _ _ err 1 _ _ hb.out rfl H0.out).mono ?_; rintro e w1 ⟨rfl, rfl⟩)
      go_end0
      exact ⟨rfl, hS.out.same⟩
/-- the bytes of a text, in a new row -/
theorem str_bytes (W : World) (s : ByteArray) (hs : s.size ≤ 140737488355328) : ∃ u W1, (convert 9 22 (.string s)).run Try.prog W = .ok u W1 ∧ Rd W1 u (byL s) ∧ Below W.heap.size W W1 := by
  have h2 := run_bytes_of_string (P := Try.prog) W 9 22 5 s Try.underlying9 Try.underlying22 Try.underlying5
  have hge := grownCap_ge W s.size 0 5
  have hle := grownCap_le_maxLen W s.size 0 5 (by unfold maxLen; omega)
  generalize grownCap W s.size 0 5 = cap at *
  refine ⟨_, _, h2, ⟨byL_bytes s, by rw [nums8_length, Nat.mul_one], _, _, by rw [byL_length], by rw [byL_length]; exact hge, hle, (fun h => by cases h), fun j hj => ⟨_, 0, rfl, ?_⟩⟩, al1 (Below.refl W.heap.size W).drew _⟩
  rw [nums8_length, byL_length] at hj
  rw [nums8_get _ j (by rw [byL_length]; exact hj), Nat.zero_add]
  show (W.drew.alloc (.cells (bytesRow s cap) 5 _)).cell? ⟨W.heap.size, j, none⟩ = _
  rw [cell_of_row _ W.heap.size j _ _ _ (heap_alloc_new W.drew _)]
  unfold bytesRow
  rw [Array.getElem?_append_left (by rw [Array.size_map]; exact hj), Array.getElem?_map]
  unfold byL
  rw [List.getD_eq_getElem?_getD, List.getElem?_map, Array.getElem?_toList]
  have hj2 : j < s.data.size := hj
  rw [Array.getElem?_eq_getElem hj2]
  rfl
theorem W_Text_any (g : Nat) (v : Value) (st : WS) (s : ByteArray) (most : Int) (w : World) (h : Wr w g v st) (hl : st.2.length + s.size ≤ 140737488355300) :
    Calls Try.prog 97 #[.pointer (some ⟨g, 0, none⟩), .string s, .int .i64 most] w (WrRet w g v (wText st (byL s) most)) := by
  obtain ⟨err, L⟩ := st
  have hb := hd_ h.1
  have hS := hd_ h
  have hsz : s.size ≤ 9223372036854775807 := by omega
  by_cases h0 : err = 0
  · subst h0
    by_cases h1 : most < 0
    · have hE : wText (0, L) (byL s) most = (1, L) := by unfold wText; rw [if_neg (by simp), if_pos h1]
      rw [hE]
      have h1' : decide (0 ≤ most) = false := decide_eq_false (by omega)
      clear hE h hl
      go_enter Try.func97, Try.ntmps97
      go_wp2_with (go_at_call 96; (with_reducible refine (must_no g _ _ 1 _ hb.out rfl (by decide) (by simp)).mono ?_); rintro e w1 ⟨rfl, hb1, hg1⟩)
      go_end0
      exact ⟨rfl, hS.out.failed 1 hb1 hg1⟩
    · have hm0 : 0 ≤ most := by omega
      by_cases hm : most < (s.size : Int)
      · have hE : wText (0, L) (byL s) most = (31, L) := by unfold wText; rw [if_neg (by simp), if_neg h1, if_pos (by rw [byL_length]; exact hm)]
        rw [hE]
        have hm' : decide ((s.size : Int) ≤ most) = false := decide_eq_false (by omega)
        clear hE h hl h1
        go_enter Try.func97, Try.ntmps97
        go_wp2_with (first
          | (go_at_call 96; ((with_reducible refine (must_go g _ _ 1 _ hb.out rfl).mono ?_); rintro e w1 ⟨rfl, rfl⟩))
          | (go_at_call 96; ((with_reducible refine (must_no g _ _ 31 _ hb.out rfl (by decide) (by simp)).mono ?_); rintro e w1 ⟨rfl, hb1, hg1⟩)))
        go_end0
        exact ⟨rfl, hS.out.failed 31 hb1 hg1⟩
      · have hE : wText (0, L) (byL s) most = (0, (L ++ lebB s.size) ++ byL s) := by unfold wText; rw [if_neg (by simp), if_neg h1, if_neg (by rw [byL_length]; exact hm), byL_length, List.append_assoc]
        rw [hE]
        have hm' : (s.size : Int) ≤ most := by omega
        have hu := hd_ (show s.size < 18446744073709551616 by omega)
        have hU : Hid (wUint (0, L) (s.size : Int) = (0, L ++ lebB s.size)) := hd_ (by unfold wUint wLay; rw [if_pos rfl, Int.toNat_natCast])
        have hl1 := hd_ (show L.length ≤ 140737488355300 by simp only at hl; omega)
        have hl2 := hd_ (show (L ++ lebB s.size).length + (byL s).length ≤ 140737488355328 by have := lebB_10 hu.out; rw [List.length_append, byL_length]; simp only at hl; omega)
        have hsB := hd_ (show s.size ≤ 140737488355328 by omega)
        clear hE h h1 hm hl
        generalize lebB s.size = lb at *
        go_enter Try.func97, Try.ntmps97
        go_wp2_with (first
          | (go_at_call 96; ((with_reducible refine (must_go g _ _ _ _ hb.out rfl).mono ?_); rintro e w1 ⟨rfl, rfl⟩))
          | (go_at_call 74; refine (W_Uint_any g v (0, L) s.size _ hS.out hu.out hl1.out).mono ?_; rintro e w1 ⟨rfl, HP⟩; rw [hU.out] at HP; obtain ⟨v1, HW1, HC1, HV1⟩ := HP; have HV1 := hd_ HV1; obtain ⟨u2, w2, hcv, HR2, HB2⟩ := str_bytes w1 s hsB.out)
          | (go_at_call 93; refine (W_lay_any g v1 u2 (0, L ++ lb) _ w2 (HW1.keep HB2) HR2 hl2.out).mono ?_; rintro e w3 ⟨rfl, HP3⟩))
        go_end0
        refine ⟨rfl, ?_⟩
        have HP4 := WrPost.trans (s1 := (0, L)) HV1.out HC1 (HP3.after HB2)
        unfold wLay at HP4
        rw [if_pos rfl] at HP4
        exact HP4
  · have hE : wText (err, L) (byL s) most = (err, L) := by unfold wText; rw [if_pos h0]
    rw [hE]
    have H0 := hd_ h0
    clear hE h h0 hl
    go_enter Try.func97, Try.ntmps97
    go_wp2_with (go_at_call 96; refine (must_bad g _ _ err 1 _ _ hb.out rfl H0.out).mono ?_; rintro e w1 ⟨rfl, rfl⟩)
    go_end0
    exact ⟨rfl, hS.out.same⟩
theorem box_rd8 (W : World) (T : TypeId) (ds : List Int) (hb : IsBytes ds) (n : Nat) (hn : ds.length = n) (hm : n ≤ maxLen) : Rd (W.alloc (.cells (u8A ds) T)) (.slice (some ⟨W.heap.size, 0, none⟩) n n) ds := by
  subst hn
  refine ⟨hb, by rw [nums8_length, Nat.mul_one], _, _, rfl, Nat.le_refl _, hm, (fun h => by cases h), fun j hj => ⟨_, 0, rfl, ?_⟩⟩
  rw [nums8_length] at hj
  rw [Nat.zero_add, World.cell?_alloc_new, u8A_cell ds j hj, nums8_get ds j hj]
/-- what a writer hands out: its bytes, in memory of their own, or the error -/
def BytesRet (w : World) (s : WS) (e : Ending) (w' : World) : Prop := ∃ u, e = .returned (.tuple #[u, .int .i64 s.1]) ∧ Own w' w.heap.size 5 u (if s.1 = 0 then s.2 else []) ∧ Below w.heap.size w w'
theorem W_Bytes_any (g : Nat) (v : Value) (s : WS) (w : World) (h : Wr w g v s) (hl : s.2.length ≤ 140737488355328) :
    Calls Try.prog 77 #[.pointer (some ⟨g, 0, none⟩)] w (BytesRet w s) := by
  obtain ⟨err, L⟩ := s
  have q0 : w.cell? ⟨g, 0, none⟩ = some (.int .i64 err) := h.1.cell 0 rfl
  have q1 : w.cell? ⟨g, 1, none⟩ = some v := h.1.cell 1 rfl
  by_cases h0 : err = 0
  · subst h0
    have HR := hd_ h.2.rd
    have hlB := hd_ (show ([] : List Int).length + L.length ≤ 140737488355328 by rw [List.length_nil]; simp only at hl; omega)
    clear h hl
    go_enter Try.func77, Try.ntmps77
    go_wp2_with (at_builtin; (refine app_bytes (w0 := w) w.heap.size rfl _ _ 22 5 rfl Try.underlying22 infoB _ v [] L rfl rfl (own_nil8 _ _ _) HR.out (Below.refl _ _) (Nat.le_refl _) hlB.out ?_); intro v2 w2 HO2 HB2 hg2 hat2; rw [List.nil_append] at HO2)
    go_ret2
    exact ⟨_, rfl, by rw [if_pos rfl]; exact HO2, HB2⟩
  · have hB : (err == 0) = false := by rw [beq_eq_false_iff_ne]; exact h0
    have hB2 : (err != 0) = true := by rw [bne, hB]; rfl
    have H0 := hd_ h0
    clear h
    go_enter Try.func77, Try.ntmps77
    go_wp2
    go_quiet (fail)
    go_wp2
    go_ret2
    exact ⟨_, rfl, by rw [if_neg H0.out]; exact own_nil8 _ _ _, below_drewN (Below.refl _ _) _⟩
theorem W_Bytes_nil (w : World) : Calls Try.prog 77 #[.pointer none] w fun e w' => e = .returned (.tuple #[.slice none 0 0, .int .i64 2]) ∧ w = w' := by
  go_enter Try.func77, Try.ntmps77
  go_wp2
  go_ret2
  exact ⟨rfl, rfl⟩
/-- the cells of a row -/
def rowC (k v : ByteArray) (n : Int) : Array Value := #[.string k, .string v, .int .i64 n]
theorem byL_nil {s : ByteArray} : byL s = [] ↔ s.size = 0 := by
  rw [← List.length_eq_zero_iff, byL_length]
theorem toList_ne {s : ByteArray} (h : ¬ s.size = 0) : ¬ s.toList = [] := by
  rw [ByteArray.toList_eq]
  intro h2
  have : s.data.toList.length = 0 := by rw [h2]; rfl
  exact h (by rw [Array.length_toList] at this; exact this)
theorem toList_nil {s : ByteArray} (h : s.size = 0) : s.toList = [] := by
  rw [ByteArray.toList_eq]
  exact List.eq_nil_of_length_eq_zero (by rw [Array.length_toList]; exact h)
set_option maxHeartbeats 1000000 in
theorem W_Row_form (g : Nat) (v : Value) (L : List Int) (k u : ByteArray) (n : Int) (w : World) (h : Wr w g v (0, L)) (hf : k.size = 0 ∨ n < 1) :
    Calls Try.prog 76 #[.pointer (some ⟨g, 0, none⟩), .agg (rowC k u n)] w (WrRet w g v (32, L)) := by
  have hB0 := al1 (Below.refl w.heap.size w) (.cells (rowC k u n) 61)
  have hbR := Box.new w (rowC k u n) 61
  have hS0 := h.keep hB0
  unfold rowC at *
  clear h
  by_cases hk0 : k.size = 0
  · have hkL := toList_nil hk0
    have hkE : k.toList.isEmpty = true := by rw [hkL]; rfl
    clear hf
    go_enter Try.func76, Try.ntmps76
    go_upto_region 1 with fail
    generalize w.alloc (.cells #[.string k, .string u, .int .i64 n] 61) = W0 at *
    have q0 : W0.cell? ⟨w.heap.size, 0, none⟩ = some (.string k) := hbR.cell 0 rfl
    have hb := hd_ (hS0.1.keep (Below.refl W0.heap.size W0).drew)
    first | (go_region_with (go_at_call 96; (with_reducible refine (must_no g _ _ 32 _ hb.out rfl (by decide) (by simp)).mono ?_); rintro e w1 ⟨rfl, hb1, hg1⟩)) | fail
    all_goals
      go_wp2
      go_end0
      exact ⟨rfl, ((hS0.keep (Below.refl _ _).drew).failed 32 hb1 hg1).after (bel_trans hB0 (Below.refl _ _).drew)⟩
  · have hkL := toList_ne hk0
    have hkE : k.toList.isEmpty = false := by rw [List.isEmpty_eq_false_iff]; exact hkL
    have hn1 : n < 1 := hf.resolve_left hk0
    have hnd : decide (1 ≤ n) = false := decide_eq_false (by omega)
    clear hf
    go_enter Try.func76, Try.ntmps76
    go_upto_region 1 with fail
    generalize w.alloc (.cells #[.string k, .string u, .int .i64 n] 61) = W0 at *
    have q0 : W0.cell? ⟨w.heap.size, 0, none⟩ = some (.string k) := hbR.cell 0 rfl
    have q2 : W0.cell? ⟨w.heap.size, 2, none⟩ = some (.int .i64 n) := hbR.cell 2 rfl
    have hb := hd_ (hS0.1.keep (Below.refl W0.heap.size W0).drew)
    first | (go_region_with (go_at_call 96; (with_reducible refine (must_no g _ _ 32 _ hb.out rfl (by decide) (by simp)).mono ?_); rintro e w1 ⟨rfl, hb1, hg1⟩)) | fail
    all_goals
      go_wp2
      go_end0
      exact ⟨rfl, ((hS0.keep (Below.refl _ _).drew).failed 32 hb1 hg1).after (bel_trans hB0 (Below.refl _ _).drew)⟩
set_option maxHeartbeats 1000000 in
theorem W_Row_bad (g : Nat) (v : Value) (st : WS) (k u : ByteArray) (n : Int) (w : World) (h : Wr w g v st) (h0 : st.1 ≠ 0) :
    Calls Try.prog 76 #[.pointer (some ⟨g, 0, none⟩), .agg (rowC k u n)] w (WrRet w g v st) := by
  obtain ⟨err, L⟩ := st
  have hB0 := al1 (Below.refl w.heap.size w) (.cells (rowC k u n) 61)
  have hbR := Box.new w (rowC k u n) 61
  have hS0 := h.keep hB0
  have H0 := hd_ h0
  unfold rowC at *
  clear h h0
  by_cases hk0 : k.size = 0
  · have hkL := toList_nil hk0
    have hkE : k.toList.isEmpty = true := by rw [hkL]; rfl
    go_enter Try.func76, Try.ntmps76
    go_upto_region 1 with fail
    generalize w.alloc (.cells #[.string k, .string u, .int .i64 n] 61) = W0 at *
    have q0 : W0.cell? ⟨w.heap.size, 0, none⟩ = some (.string k) := hbR.cell 0 rfl
    have q2 : W0.cell? ⟨w.heap.size, 2, none⟩ = some (.int .i64 n) := hbR.cell 2 rfl
    have hb := hd_ hS0.1
    have hq : ∀ (m : Nat) (ok : Bool), Calls Try.prog 96 #[.pointer (some ⟨g, 0, none⟩), .bool ok, .int .i64 32] (W0.drewN m) fun e w' => e = .returned (.bool false) ∧ w' = W0.drewN m := fun m ok =>
      (must_bad g _ _ err 32 ok _ (hb.out.keep (below_drewN (Below.refl _ _) m)) rfl H0.out).mono fun _ _ h => ⟨h.1, h.2.symm⟩
    go_quiet ((go_at_call 96; exact Calls.quiet_of_same (hq _ _)))
    go_wp2
    go_end0
    exact ⟨rfl, ((hS0.keep (below_drewN (Below.refl _ _) _)).same).after (bel_trans hB0 (below_drewN (Below.refl _ _) _))⟩
  · have hkL := toList_ne hk0
    have hkE : k.toList.isEmpty = false := by rw [List.isEmpty_eq_false_iff]; exact hkL
    go_enter Try.func76, Try.ntmps76
    go_upto_region 1 with fail
    generalize w.alloc (.cells #[.string k, .string u, .int .i64 n] 61) = W0 at *
    have q0 : W0.cell? ⟨w.heap.size, 0, none⟩ = some (.string k) := hbR.cell 0 rfl
    have q2 : W0.cell? ⟨w.heap.size, 2, none⟩ = some (.int .i64 n) := hbR.cell 2 rfl
    have hb := hd_ hS0.1
    have hq : ∀ (m : Nat) (ok : Bool), Calls Try.prog 96 #[.pointer (some ⟨g, 0, none⟩), .bool ok, .int .i64 32] (W0.drewN m) fun e w' => e = .returned (.bool false) ∧ w' = W0.drewN m := fun m ok =>
      (must_bad g _ _ err 32 ok _ (hb.out.keep (below_drewN (Below.refl _ _) m)) rfl H0.out).mono fun _ _ h => ⟨h.1, h.2.symm⟩
    go_quiet ((go_at_call 96; exact Calls.quiet_of_same (hq _ _)))
    go_wp2
    go_end0
    exact ⟨rfl, ((hS0.keep (below_drewN (Below.refl _ _) _)).same).after (bel_trans hB0 (below_drewN (Below.refl _ _) _))⟩
set_option maxHeartbeats 2000000 in
theorem W_Row_long (g : Nat) (v : Value) (L : List Int) (k u : ByteArray) (n : Int) (w : World) (h : Wr w g v (0, L)) (hk0 : ¬ k.size = 0) (hn1 : 1 ≤ n) (hks : k.size ≤ 140737488355328) (hus : u.size ≤ 140737488355328) (hf : 1024 < (k.size : Int) ∨ 65536 < (u.size : Int) ∨ 1152921504606846976 < n) :
    Calls Try.prog 76 #[.pointer (some ⟨g, 0, none⟩), .agg (rowC k u n)] w (WrRet w g v (31, L)) := by
  have hB0 := al1 (Below.refl w.heap.size w) (.cells (rowC k u n) 61)
  have hbR := Box.new w (rowC k u n) 61
  have hS0 := h.keep hB0
  unfold rowC at *
  have hkL := toList_ne hk0
  have hkE : k.toList.isEmpty = false := by rw [List.isEmpty_eq_false_iff]; exact hkL
  have hF := hd_ hf
  clear h hf
  go_enter Try.func76, Try.ntmps76
  go_upto_region 1 with fail
  generalize w.alloc (.cells #[.string k, .string u, .int .i64 n] 61) = W0 at *
  have q0 : W0.cell? ⟨w.heap.size, 0, none⟩ = some (.string k) := hbR.cell 0 rfl
  have q1 : W0.cell? ⟨w.heap.size, 1, none⟩ = some (.string u) := hbR.cell 1 rfl
  have q2 : W0.cell? ⟨w.heap.size, 2, none⟩ = some (.int .i64 n) := hbR.cell 2 rfl
  have hb := hd_ (hS0.1.keep (Below.refl W0.heap.size W0).drew)
  go_region_with (go_at_call 96; (with_reducible refine (must_go g _ _ 32 _ hb.out rfl).mono ?_); rintro e w1 ⟨rfl, rfl⟩)
  all_goals
    go_upto_region 2 with fail
    have hb2 := hd_ (hS0.1.keep ((Below.refl W0.heap.size W0).drew).drew)
    have hS2 := hd_ (hS0.keep ((Below.refl W0.heap.size W0).drew).drew)
    by_cases c1 : 1024 < (k.size : Int)
    · have d1 : decide ((k.size : Int) ≤ 1024) = false := decide_eq_false (by omega)
      first | (go_region_with (go_at_call 96; (with_reducible refine (must_no g _ _ 31 _ hb2.out rfl (by decide) (by simp)).mono ?_); rintro e w1 ⟨rfl, hb1, hg1⟩)) | fail
      all_goals
        go_wp2
        go_end0
        exact ⟨rfl, (hS2.out.failed 31 hb1 hg1).after (bel_trans hB0 ((Below.refl _ _).drew).drew)⟩
    · have e1 : (k.size : Int) ≤ 1024 := by omega
      have e1d : decide ((k.size : Int) ≤ 1024) = true := decide_eq_true e1
      by_cases c2 : 65536 < (u.size : Int)
      · have d1 : decide ((u.size : Int) ≤ 65536) = false := decide_eq_false (by omega)
        clear c1
        first | (go_region_with (go_at_call 96; (with_reducible refine (must_no g _ _ 31 _ hb2.out rfl (by decide) (by simp)).mono ?_); rintro e w1 ⟨rfl, hb1, hg1⟩)) | fail
        all_goals
          go_wp2
          go_end0
          exact ⟨rfl, (hS2.out.failed 31 hb1 hg1).after (bel_trans hB0 ((Below.refl _ _).drew).drew)⟩
      · have e2 : (u.size : Int) ≤ 65536 := by omega
        have e2d : decide ((u.size : Int) ≤ 65536) = true := decide_eq_true e2
        have c3 : 1152921504606846976 < n := by have := hF.out; omega
        have d1 : decide (n ≤ 1152921504606846976) = false := decide_eq_false (by omega)
        clear c1 c2
        first | (go_region_with (go_at_call 96; (with_reducible refine (must_no g _ _ 31 _ hb2.out rfl (by decide) (by simp)).mono ?_); rintro e w1 ⟨rfl, hb1, hg1⟩)) | fail
        all_goals
          go_wp2
          go_end0
          exact ⟨rfl, (hS2.out.failed 31 hb1 hg1).after (bel_trans hB0 ((Below.refl _ _).drew).drew)⟩
theorem le60 {n : Int} (h : n ≤ 1152921504606846976) : n < 9223372036854775808 := by omega
set_option maxHeartbeats 2000000 in
theorem W_Row_ok (g : Nat) (v : Value) (L : List Int) (k u : ByteArray) (n : Nat) (w : World) (h : Wr w g v (0, L)) (hk0 : ¬ k.size = 0) (hn1 : 1 ≤ n) (hk1 : (k.size : Int) ≤ 1024) (hu1 : (u.size : Int) ≤ 65536) (hn2 : (n : Int) ≤ 1152921504606846976) (hl : L.length ≤ 140737488280000) :
    Calls Try.prog 76 #[.pointer (some ⟨g, 0, none⟩), .agg (rowC k u (n : Int))] w (WrRet w g v (0, L ++ (lebB k.size ++ byL k) ++ (lebB u.size ++ byL u) ++ lebB n)) := by
  have hB0 := al1 (Below.refl w.heap.size w) (.cells (rowC k u (n : Int)) 61)
  have hbR := Box.new w (rowC k u (n : Int)) 61
  have hS0 := h.keep hB0
  unfold rowC at *
  have hkL := toList_ne hk0
  have hkE : k.toList.isEmpty = false := by rw [List.isEmpty_eq_false_iff]; exact hkL
  have hn1I : 1 ≤ (n : Int) := by omega
  have e1d : decide ((k.size : Int) ≤ 1024) = true := decide_eq_true hk1
  have e2d : decide ((u.size : Int) ≤ 65536) = true := decide_eq_true hu1
  clear h
  have hT1 : wText (0, L) (byL k) 1024 = (0, L ++ (lebB k.size ++ byL k)) := by
    unfold wText; rw [if_neg (by simp), if_neg (by omega), if_neg (by rw [byL_length]; omega), byL_length]
  have hN1 : (L ++ (lebB k.size ++ byL k)).length ≤ 140737488282000 := by
    rw [List.length_append, List.length_append, byL_length]
    have := lebB_10 (v := k.size) (by omega)
    omega
  generalize L ++ (lebB k.size ++ byL k) = L1 at *
  have hT2 : wText (0, L1) (byL u) 65536 = (0, L1 ++ (lebB u.size ++ byL u)) := by
    unfold wText; rw [if_neg (by simp), if_neg (by omega), if_neg (by rw [byL_length]; omega), byL_length]
  have hN2 : (L1 ++ (lebB u.size ++ byL u)).length ≤ 140737488355000 := by
    rw [List.length_append, List.length_append, byL_length]
    have := lebB_10 (v := u.size) (by omega)
    omega
  generalize L1 ++ (lebB u.size ++ byL u) = L2 at *
  have hT3 : wInt (0, L2) (n : Int) 1152921504606846976 = (0, L2 ++ lebB n) := by
    unfold wInt; rw [if_neg (by simp), if_neg (by omega), if_neg (by omega), Int.toNat_natCast]
  generalize L2 ++ lebB n = L3 at *
  have hl1 := hd_ (show L.length + k.size ≤ 140737488355300 by omega)
  have hl2 := hd_ (show L1.length + u.size ≤ 140737488355300 by omega)
  have hl3 := hd_ (show L2.length ≤ 140737488355300 by omega)
  have HT1 := hd_ hT1
  have HT2 := hd_ hT2
  have HT3 := hd_ hT3
  clear hT1 hT2 hT3 hN1 hN2 hl
  go_enter Try.func76, Try.ntmps76
  go_upto_region 1 with fail
  generalize w.alloc (.cells #[.string k, .string u, .int .i64 (n : Int)] 61) = W0 at *
  have q0 : W0.cell? ⟨w.heap.size, 0, none⟩ = some (.string k) := hbR.cell 0 rfl
  have q1 : W0.cell? ⟨w.heap.size, 1, none⟩ = some (.string u) := hbR.cell 1 rfl
  have q2 : W0.cell? ⟨w.heap.size, 2, none⟩ = some (.int .i64 (n : Int)) := hbR.cell 2 rfl
  have hb := hd_ (hS0.1.keep (Below.refl W0.heap.size W0).drew)
  go_region_with (go_at_call 96; (with_reducible refine (must_go g _ _ 32 _ hb.out rfl).mono ?_); rintro e w1 ⟨rfl, rfl⟩)
  all_goals
    go_upto_region 2 with fail
    have hb2 := hd_ (hS0.1.keep ((Below.refl W0.heap.size W0).drew).drew)
    have hS2 := hd_ (hS0.keep ((Below.refl W0.heap.size W0).drew).drew)
    go_region_with (go_at_call 96; (with_reducible refine (must_go g _ _ 31 _ hb2.out rfl).mono ?_); rintro e w1 ⟨rfl, rfl⟩)
  all_goals
    have hR2 := hd_ (hbR.keep ((Below.refl W0.heap.size W0).drew).drew)
    have nR : w.heap.size ≠ g := (box_box hbR hS0.1 (by decide))
    have NR := hd_ nR
    have HB2 := hd_ (bel_trans hB0 ((Below.refl W0.heap.size W0).drew).drew)
    have hv2 : v.ownBlock ≠ some w.heap.size := own_box hS0.2 hbR (by decide)
    have HV2 := hd_ hv2
    clear q1 q2 hb2 hb nR hv2
    generalize W0.drew.drew = W2 at *
    have y0 : W2.cell? ⟨w.heap.size, 0, none⟩ = some (.string k) := hR2.out.cell 0 rfl
    go_wp2_with (first
      | (go_at_call 97; (with_reducible refine (W_Text_any g v (0, L) k 1024 W2 hS2.out hl1.out).mono ?_); rintro e w3 ⟨rfl, HP3⟩; rw [HT1.out] at HP3; obtain ⟨v3, HW3, HC3, HO3⟩ := HP3; have HO3 := hd_ HO3; have hR3 := hR2.out.chg HC3 (fun h => h.elim NR.out (fun h => HV2.out h.symm)); have y1 : w3.cell? ⟨w.heap.size, 1, none⟩ = some (.string u) := hR3.cell 1 rfl)
      | (go_at_call 97; (with_reducible refine (W_Text_any g v3 (0, L1) u 65536 w3 HW3 hl2.out).mono ?_); rintro e w4 ⟨rfl, HP4⟩; rw [HT2.out] at HP4; obtain ⟨v4, HW4, HC4, HO4⟩ := HP4; have HO4 := hd_ HO4; have hR4 := hR3.chg HC4 (fun h => h.elim NR.out (fun h => own_box HW3.2 hR3 (by decide) h.symm)); have y2 : w4.cell? ⟨w.heap.size, 2, none⟩ = some (.int .i64 (n : Int)) := hR4.cell 2 rfl)
      | (go_at_call 98; (with_reducible refine (W_Int_any g v4 (0, L2) (n : Int) 1152921504606846976 w4 HW4 (le60 hn2) hl3.out).mono ?_); rintro e w5 ⟨rfl, HP5⟩; rw [HT3.out] at HP5))
    go_end0
    exact ⟨rfl, (WrPost.trans (s1 := (0, L1)) HO3.out HC3 (WrPost.trans (s1 := (0, L2)) HO4.out HC4 HP5)).after HB2.out⟩
end Go.Proofs.Ytdmogbkfmeihfaa
