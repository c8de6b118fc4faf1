/- A writer and its calls. -/
import Derived.Test.YtbebinlnjpfbeaaLeb
import Derived.Test.YtbebinlnjpfbeaaShaB
import Derived.Lib.SlBytesConst
import Derived.Deep.QuietTactic
import Derived.BigQuiet
import Derived.Deep.RegionWith
import Derived.Outline
namespace Go.Proofs.Ytbebinlnjpfbeaa
open Go.RowKit
set_option maxRecDepth 100000
set_option linter.unusedVariables false
/-- a number at a place: it, the place behind it, the error -/
def numA (B : List Int) (at_ : Nat) : Int × Nat × Int :=
  if (lebD (B.drop at_) 10 0).2.2 = 0 then ((lebD (B.drop at_) 10 0).1, at_ + (lebD (B.drop at_) 10 0).2.1.toNat, 0) else (0, 0, (lebD (B.drop at_) 10 0).2.2 + 20)
theorem numA_cases (B : List Int) (hB : IsBytes B) (at_ : Nat) (h : at_ ≤ B.length) :
    (∃ E : Int, (E = 10 ∨ E = 11 ∨ E = 12) ∧ lebD (B.drop at_) 10 0 = (0, 0, E) ∧ numA B at_ = (0, 0, E + 20)) ∨
    ∃ u k : Nat, lebD (B.drop at_) 10 0 = ((u : Int), (k : Int), 0) ∧ numA B at_ = ((u : Int), at_ + k, 0) ∧ at_ + k ≤ B.length ∧ 1 ≤ k ∧ k ≤ 10 ∧ (B.drop at_).take k = lebB u ∧ u < 18446744073709551616 := by
  rcases lebD_cases (B.drop at_) (bytes_drop hB _) with e | e | e | ⟨u, k, e, h1, h2, h2', h3, h4⟩
  · exact .inl ⟨10, .inl rfl, e, by unfold numA; rw [e]; rfl⟩
  · exact .inl ⟨11, .inr (.inl rfl), e, by unfold numA; rw [e]; rfl⟩
  · exact .inl ⟨12, .inr (.inr rfl), e, by unfold numA; rw [e]; rfl⟩
  · rw [List.length_drop] at h1
    exact .inr ⟨u, k, e, by unfold numA; rw [e]; simp, by omega, h2, h2', h3, h4⟩
/-- a number of at most so much -/
def uptoA (B : List Int) (at_ : Nat) (most : Int) : Int × Nat × Int :=
  if most < 0 then (0, 0, 1) else if (numA B at_).2.2 ≠ 0 then (0, 0, (numA B at_).2.2) else if most < (numA B at_).1 then (0, 0, 31) else numA B at_
/-- a text of at most so much -/
def textA (B : List Int) (at_ : Nat) (most : Int) : List Int × Nat × Int :=
  if (uptoA B at_ most).2.2 ≠ 0 then ([], 0, (uptoA B at_ most).2.2) else if (B.length : Int) - (uptoA B at_ most).2.1 < (uptoA B at_ most).1 then ([], 0, 30)
  else ((B.drop (uptoA B at_ most).2.1).take (uptoA B at_ most).1.toNat, (uptoA B at_ most).2.1 + (uptoA B at_ most).1.toNat, 0)
theorem uptoA_cases (B : List Int) (hB : IsBytes B) (at_ : Nat) (h : at_ ≤ B.length) (most : Int) (hm : most < 9223372036854775808) :
    (∃ E : Int, (E = 1 ∨ E = 30 ∨ E = 31 ∨ E = 32) ∧ uptoA B at_ most = (0, 0, E)) ∨
    ∃ u k : Nat, uptoA B at_ most = ((u : Int), at_ + k, 0) ∧ at_ + k ≤ B.length ∧ 1 ≤ k ∧ (B.drop at_).take k = lebB u ∧ (u : Int) ≤ most ∧ 0 ≤ most ∧ (u : Int) < 9223372036854775808 := by
  unfold uptoA
  by_cases h0 : most < 0
  · rw [if_pos h0]; exact .inl ⟨1, .inl rfl, rfl⟩
  rw [if_neg h0]
  rcases numA_cases B hB at_ h with ⟨E, hE, _, e⟩ | ⟨u, k, _, e, h1, h2, _, h3, h4⟩
  · rw [e, if_pos (by simp only; omega)]
    exact .inl ⟨E + 20, by omega, rfl⟩
  · rw [e, if_neg (by simp)]
    by_cases hu : most < (u : Int)
    · rw [if_pos hu]; exact .inl ⟨31, by omega, rfl⟩
    · rw [if_neg hu]
      exact .inr ⟨u, k, rfl, h1, h2, h3, by omega, by omega, by omega⟩
theorem textA_cases (B : List Int) (hB : IsBytes B) (at_ : Nat) (h : at_ ≤ B.length) (most : Int) (hm : most < 9223372036854775808) :
    (∃ E : Int, (E = 1 ∨ E = 30 ∨ E = 31 ∨ E = 32) ∧ textA B at_ most = ([], 0, E)) ∨
    ∃ n k : Nat, uptoA B at_ most = ((n : Int), at_ + k, 0) ∧ textA B at_ most = ((B.drop (at_ + k)).take n, at_ + k + n, 0) ∧ at_ + k + n ≤ B.length ∧ 1 ≤ k ∧ (B.drop at_).take k = lebB n ∧ (n : Int) ≤ most ∧ 0 ≤ most ∧ (n : Int) < 9223372036854775808 := by
  unfold textA
  rcases uptoA_cases B hB at_ h most hm with ⟨E, hE, e⟩ | ⟨u, k, e, h1, h2, h3, h4, h5, h6⟩
  · rw [e, if_pos (by simp only; omega)]
    exact .inl ⟨E, hE, rfl⟩
  · rw [e, if_neg (by simp)]
    by_cases hu : (B.length : Int) - ((at_ + k : Nat) : Int) < (u : Int)
    · rw [if_pos hu]; exact .inl ⟨30, by omega, rfl⟩
    · rw [if_neg hu]
      exact .inr ⟨u, k, rfl, rfl, by omega, h2, h3, h4, h5, h6⟩
/-- calls of a reader: the answer, the place, the error behind it -/
def rUint (B : List Int) (at_ : Nat) (err : Int) : Int × Nat × Int :=
  if err ≠ 0 then (0, at_, err) else if (numA B at_).2.2 ≠ 0 then (0, at_, (numA B at_).2.2) else numA B at_
def rInt (B : List Int) (at_ : Nat) (err most : Int) : Int × Nat × Int :=
  if err ≠ 0 then (0, at_, err) else if (uptoA B at_ most).2.2 ≠ 0 then (0, at_, (uptoA B at_ most).2.2) else uptoA B at_ most
def rText (B : List Int) (at_ : Nat) (err most : Int) : List Int × Nat × Int :=
  if err ≠ 0 then ([], at_, err) else if (textA B at_ most).2.2 ≠ 0 then ([], at_, (textA B at_ most).2.2) else textA B at_ most
def rFlag (B : List Int) (at_ : Nat) (err : Int) : Bool × Nat × Int :=
  if err ≠ 0 then (false, at_, err) else if B.length ≤ at_ then (false, at_, 30) else if 1 < B.getD at_ 0 then (false, at_, 32) else (decide (B.getD at_ 0 = 1), at_ + 1, 0)
def rDigest (B : List Int) (at_ : Nat) (err : Int) : List Int × Nat × Int :=
  if err ≠ 0 then (List.replicate 32 0, at_, err) else if (B.length : Int) - at_ < 32 then (List.replicate 32 0, at_, 30) else ((B.drop at_).take 32, at_ + 32, 0)
def rowA (B : List Int) (at_ : Nat) : (List Int × List Int × Int) × Nat × Int :=
  if (textA B at_ 1024).2.2 ≠ 0 then (([], [], 0), at_, (textA B at_ 1024).2.2)
  else if (textA B (textA B at_ 1024).2.1 65536).2.2 ≠ 0 then (([], [], 0), at_, (textA B (textA B at_ 1024).2.1 65536).2.2)
  else if (uptoA B (textA B (textA B at_ 1024).2.1 65536).2.1 1152921504606846976).2.2 ≠ 0 then (([], [], 0), at_, (uptoA B (textA B (textA B at_ 1024).2.1 65536).2.1 1152921504606846976).2.2)
  else if (textA B at_ 1024).1 = [] ∨ (uptoA B (textA B (textA B at_ 1024).2.1 65536).2.1 1152921504606846976).1 = 0 then (([], [], 0), at_, 32)
  else (((textA B at_ 1024).1, (textA B (textA B at_ 1024).2.1 65536).1, (uptoA B (textA B (textA B at_ 1024).2.1 65536).2.1 1152921504606846976).1), (uptoA B (textA B (textA B at_ 1024).2.1 65536).2.1 1152921504606846976).2.1, 0)
def rRow (B : List Int) (at_ : Nat) (err : Int) : (List Int × List Int × Int) × Nat × Int := if err ≠ 0 then (([], [], 0), at_, err) else rowA B at_
def rCount (B : List Int) (at_ : Nat) (err most least : Int) : Int × Nat × Int :=
  if err ≠ 0 then (0, at_, err) else if most < 0 ∨ least < 0 then (0, at_, 1) else if (uptoA B at_ most).2.2 ≠ 0 then (0, at_, (uptoA B at_ most).2.2)
  else if 0 < least ∧ ((B.length : Int) - (uptoA B at_ most).2.1) / least < (uptoA B at_ most).1 then (0, at_, 30) else uptoA B at_ most
def rFail (err e : Int) : Int := if err = 0 then e else err
def rEnd (B : List Int) (at_ : Nat) (err : Int) : Int := if err = 0 ∧ at_ < B.length then 34 else err
/-- calls of a writer: the error and the bytes behind it -/
abbrev WS := Int × List Int
def wLay (s : WS) (b : List Int) : WS := if s.1 = 0 then (0, s.2 ++ b) else s
def wFail (s : WS) (e : Int) : WS := if s.1 = 0 then (e, s.2) else s
def wUint (s : WS) (v : Int) : WS := wLay s (lebB v.toNat)
def wInt (s : WS) (v most : Int) : WS := if s.1 ≠ 0 then s else if v < 0 ∨ most < 0 then (1, s.2) else if most < v then (31, s.2) else (0, s.2 ++ lebB v.toNat)
def wText (s : WS) (b : List Int) (most : Int) : WS := if s.1 ≠ 0 then s else if most < 0 then (1, s.2) else if most < (b.length : Int) then (31, s.2) else (0, s.2 ++ (lebB b.length ++ b))
def wFlag (s : WS) (f : Bool) : WS := wLay s [if f then 1 else 0]
def wRow (s : WS) (k v : List Int) (n : Int) : WS :=
  if s.1 ≠ 0 then s else if k = [] ∨ n < 1 then (32, s.2) else if 1024 < (k.length : Int) ∨ 65536 < (v.length : Int) ∨ 1152921504606846976 < n then (31, s.2)
  else (0, s.2 ++ (lebB k.length ++ k) ++ (lebB v.length ++ v) ++ lebB n.toNat)
theorem fate_Fail_zero (g : Nat) (T : TypeId) (cs : Array Value) (e : Int) (w : World) (hb : Box w g T cs) (h0 : cs[0]? = some (.int .i64 0)) :
    Calls Try.prog 25 #[.pointer (some ⟨g, 0, none⟩), .int .i64 e] w fun en w' => en = .returned (.tuple #[]) ∧ Box w' g T (cs.setIfInBounds 0 (.int .i64 e)) ∧ w.grownBy w' (some g) := by
  have q0 := hb.cell 0 h0
  have z0 := hb.frozen 0
  have HP := hd_ (hb.put 0 (.int .i64 e))
  clear hb
  go_enter Try.func25, Try.ntmps25
  go_wp2
  go_end0
  exact ⟨rfl, HP.out⟩
theorem fate_Fail_not (g : Nat) (T : TypeId) (cs : Array Value) (err e : Int) (w : World) (hb : Box w g T cs) (h0 : cs[0]? = some (.int .i64 err)) (hne : err ≠ 0) :
    Calls Try.prog 25 #[.pointer (some ⟨g, 0, none⟩), .int .i64 e] w fun en w' => en = .returned (.tuple #[]) ∧ w = w' := by
  have q0 := hb.cell 0 h0
  have hB : (err == 0) = false := by rw [beq_eq_false_iff_ne]; exact hne
  clear hb
  go_enter Try.func25, Try.ntmps25
  go_wp2
  go_end0
  exact ⟨rfl, rfl⟩
theorem must_go (g : Nat) (T : TypeId) (cs : Array Value) (e : Int) (w : World) (hb : Box w g T cs) (h0 : cs[0]? = some (.int .i64 0)) :
    Calls Try.prog 22 #[.pointer (some ⟨g, 0, none⟩), .bool true, .int .i64 e] w fun en w' => en = .returned (.bool true) ∧ w = w' := by
  have q0 := hb.cell 0 h0
  clear hb
  go_enter Try.func22, Try.ntmps22
  go_wp2
  go_ret
  exact ⟨rfl, rfl⟩
theorem must_no (g : Nat) (T : TypeId) (cs : Array Value) (e : Int) (w : World) (hb : Box w g T cs) (h0 : cs[0]? = some (.int .i64 0)) (hne : e ≠ 0) (hs : 0 < cs.size) :
    Calls Try.prog 22 #[.pointer (some ⟨g, 0, none⟩), .bool false, .int .i64 e] w fun en w' => en = .returned (.bool false) ∧ Box w' g T (cs.setIfInBounds 0 (.int .i64 e)) ∧ w.grownBy w' (some g) := by
  have hB : (e == 0) = false := by rw [beq_eq_false_iff_ne]; exact hne
  have hq := hd_ (show (cs.setIfInBounds 0 (.int .i64 e))[0]? = some (.int .i64 e) by simp [hs])
  have HB0 := hd_ hb
  have H0 := hd_ h0
  clear hb h0 hs hne
  go_enter Try.func22, Try.ntmps22
  go_wp2_with (go_at_call 25; go_loud (refine (fate_Fail_zero g T cs e _ HB0.out H0.out).mono ?_); rintro en w1 ⟨rfl, hb1, hg1⟩; have q1 := hb1.cell 0 hq.out)
  go_ret
  exact ⟨rfl, hb1, hg1⟩
theorem must_bad (g : Nat) (T : TypeId) (cs : Array Value) (err e : Int) (ok : Bool) (w : World) (hb : Box w g T cs) (h0 : cs[0]? = some (.int .i64 err)) (hne : err ≠ 0) :
    Calls Try.prog 22 #[.pointer (some ⟨g, 0, none⟩), .bool ok, .int .i64 e] w fun en w' => en = .returned (.bool false) ∧ w = w' := by
  have q0 := hb.cell 0 h0
  have hB : (err == 0) = false := by rw [beq_eq_false_iff_ne]; exact hne
  cases ok
  · go_enter Try.func22, Try.ntmps22
    go_wp2_with (go_at_call 25; refine (fate_Fail_not g T cs err e _ hb h0 hne).mono ?_; rintro en w1 ⟨rfl, rfl⟩)
    go_ret
    exact ⟨rfl, rfl⟩
  · go_enter Try.func22, Try.ntmps22
    go_wp2
    go_ret
    exact ⟨rfl, rfl⟩
/-- the bytes of a text, in a new row -/
theorem str_bytes (W : World) (s : ByteArray) (hs : s.size ≤ 140737488355328) : ∃ u W1, (convert 9 22 (.string s)).run Try.prog W = .ok u W1 ∧ Rd W1 u (byL s) ∧ Below W.heap.size W W1 := by
  have h2 := run_bytes_of_string (P := Try.prog) W 9 22 5 s Try.underlying9 Try.underlying22 Try.underlying5
  have hge := grownCap_ge W s.size 0 5
  have hle := grownCap_le_maxLen W s.size 0 5 (by unfold maxLen; omega)
  generalize grownCap W s.size 0 5 = cap at *
  refine ⟨_, _, h2, ⟨byL_bytes s, by rw [nums8_length, Nat.mul_one], _, _, by rw [byL_length], by rw [byL_length]; exact hge, hle, (fun h => by cases h), fun j hj => ⟨_, 0, rfl, ?_⟩⟩, al1 (Below.refl W.heap.size W).drew _⟩
  rw [nums8_length, byL_length] at hj
  rw [nums8_get _ j (by rw [byL_length]; exact hj), Nat.zero_add]
  show (W.drew.alloc (.cells (bytesRow s cap) 5 _)).cell? ⟨W.heap.size, j, none⟩ = _
  rw [cell_of_row _ W.heap.size j _ _ _ (heap_alloc_new W.drew _)]
  unfold bytesRow
  rw [Array.getElem?_append_left (by rw [Array.size_map]; exact hj), Array.getElem?_map]
  unfold byL
  rw [List.getD_eq_getElem?_getD, List.getElem?_map, Array.getElem?_toList]
  have hj2 : j < s.data.size := hj
  rw [Array.getElem?_eq_getElem hj2]
  rfl
theorem box_rd8 (W : World) (T : TypeId) (ds : List Int) (hb : IsBytes ds) (n : Nat) (hn : ds.length = n) (hm : n ≤ maxLen) : Rd (W.alloc (.cells (u8A ds) T)) (.slice (some ⟨W.heap.size, 0, none⟩) n n) ds := by
  subst hn
  refine ⟨hb, by rw [nums8_length, Nat.mul_one], _, _, rfl, Nat.le_refl _, hm, (fun h => by cases h), fun j hj => ⟨_, 0, rfl, ?_⟩⟩
  rw [nums8_length] at hj
  rw [Nat.zero_add, World.cell?_alloc_new, u8A_cell ds j hj, nums8_get ds j hj]
/-- what a writer hands out: its bytes, in memory of their own, or the error -/
def BytesRet (w : World) (s : WS) (e : Ending) (w' : World) : Prop := ∃ u, e = .returned (.tuple #[u, .int .i64 s.1]) ∧ Own w' w.heap.size 5 u (if s.1 = 0 then s.2 else []) ∧ Below w.heap.size w w'
/-- the cells of a row -/
def rowC (k v : ByteArray) (n : Int) : Array Value := #[.string k, .string v, .int .i64 n]
theorem byL_nil {s : ByteArray} : byL s = [] ↔ s.size = 0 := by
  rw [← List.length_eq_zero_iff, byL_length]
theorem toList_ne {s : ByteArray} (h : ¬ s.size = 0) : ¬ s.toList = [] := by
  rw [ByteArray.toList_eq]
  intro h2
  have : s.data.toList.length = 0 := by rw [h2]; rfl
  exact h (by rw [Array.length_toList] at this; exact this)
theorem toList_nil {s : ByteArray} (h : s.size = 0) : s.toList = [] := by
  rw [ByteArray.toList_eq]
  exact List.eq_nil_of_length_eq_zero (by rw [Array.length_toList]; exact h)
theorem le60 {n : Int} (h : n ≤ 1152921504606846976) : n < 9223372036854775808 := by omega
end Go.Proofs.Ytbebinlnjpfbeaa
