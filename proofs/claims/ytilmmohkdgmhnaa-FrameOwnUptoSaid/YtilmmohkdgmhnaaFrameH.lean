import Derived.Test.YtilmmohkdgmhnaaFrameG
import Derived.Test.YtilmmohkdgmhnaaMem5
namespace Go.Proofs.Ytilmmohkdgmhnaa
open Go.RowKit
set_option maxRecDepth 100000
set_option linter.unusedVariables false
theorem one2 (k : IntKind) (x : Int) (A : Option Addr) (n c : Nat) : (#[Value.int k x, Value.slice A n c]).all (·.oneCell') = true := by simp [Value.oneCell']
theorem infoF : (Try.prog.info? 28).map (·.size) = some 2 := by kernel_rfl
/-- the error that Decode answers -/
def decE (b : List Int) : Int :=
  if frontB b = false then 41 else if b.length < 10 then 40 else if headB b = false then 42 else if 1048576 < lenN b then 43 else if (b.length : Int) < lenN b + 14 then 40 else if holdsB (b.take (lenN b + 14).toNat) = false then 44 else 0
def decN (b : List Int) : Int := if decE b = 0 then lenN b + 14 else 0
def decK (b : List Int) : Int := if decE b = 0 then b.getD 2 0 else 0
def decBody (b : List Int) : List Int := if decE b = 0 then (b.drop 10).take (lenN b).toNat else []
theorem dec_bad {b : List Int} {x : Int} (hE : decE b = x) (hx : x ≠ 0) : decN b = 0 ∧ decK b = 0 ∧ decBody b = [] := by
  unfold decN decK decBody
  rw [if_neg (by rw [hE]; exact hx), if_neg (by rw [hE]; exact hx), if_neg (by rw [hE]; exact hx)]
  exact ⟨rfl, rfl, rfl⟩
theorem lenN_range {l : List Int} (h : IsBytes l) : ∃ N : Nat, lenN l = (N : Int) ∧ N < 16777216 := by
  obtain ⟨p0, q0⟩ := bytes_at h 3
  obtain ⟨p1, q1⟩ := bytes_at h 4
  obtain ⟨p2, q2⟩ := bytes_at h 5
  exact ⟨(lenN l).toNat, by unfold lenN; omega, by unfold lenN; omega⟩
set_option maxHeartbeats 1000000 in
theorem frame_cut_any (v : Value) (l : List Int) (n : Nat) (w : World) (HR : Rd w v l) (hn : l.length = n + 14) (hm : n ≤ 1048576) :
    Calls Try.prog 52 #[v] w fun e w' => ∃ v1, e = .returned (.agg #[.int .i64 (l.getD 2 0), v1]) ∧ Own w' w.heap.size 5 v1 ((l.drop 10).take n) ∧ Below w.heap.size w w' := by
  have hlen : ∀ W, Sem.run Try.prog (Builtin.len_ #[24] 3 #[v]) W = .ok (.int .i64 ((n : Int) + 14)) W := by
    intro W
    have := HR.2.len (P := Try.prog) 24 5 3 Try.underlying24 W
    rw [hn] at this
    exact this
  obtain ⟨u1, hs1, hR1⟩ := HR.sl_lm Try.underlying24 info8 10 (n + 10) (by omega) (by omega)
  obtain ⟨b2, o2, hat2, h2⟩ := HR.at Try.underlying24 info8 .i64 2 (by omega)
  have hat2 : ∀ W, Sem.run Try.prog (Instr.indexAt 24 v (Value.int IntKind.i64 2)) W = .ok (.pointer (some ⟨b2, o2, none⟩)) W := hat2
  have hs1 : ∀ W, Sem.run Try.prog (Instr.slice 24 v (some (Value.int .i64 10)) (some (Value.int .i64 ((n : Int) + 14 - 4))) (some (Value.int .i64 ((n : Int) + 14 - 4)))) W = .ok u1 W := by
    have e : ((n + 10 : Nat) : Int) = (n : Int) + 14 - 4 := by omega
    rw [e] at hs1
    exact hs1
  have eT : (l.take (n + 10)).drop 10 = (l.drop 10).take n := by rw [List.drop_take]; congr 1
  rw [eT] at hR1
  clear eT
  obtain ⟨p2, q2⟩ := bytes_at HR.1 2
  have hTl : ((l.drop 10).take n).length = n := by rw [List.length_take, List.length_drop]; omega
  have hTL := hd_ hTl
  clear hn hTl
  generalize l.getD 2 0 = x2 at *
  generalize (l.drop 10).take n = T at *
  have hbx := Box.new w #[.int .i64 0, .slice none 0 0] 28
  have hB0 := al1 (Below.refl w.heap.size w) (.cells #[.int .i64 0, .slice none 0 0] 28)
  have hsz : w.heap.size < (w.alloc (.cells #[.int .i64 0, .slice none 0 0] 28)).heap.size := by simp
  go_enter Try.func52, Try.ntmps52
  go_upto_region 1 with fail
  generalize w.alloc (.cells #[.int .i64 0, .slice none 0 0] 28) = W0 at *
  have HSZ := hd_ hsz
  clear hsz
  go_upto_region 3 with (at_make; refine make_bytes (w0 := W0) W0.heap.size rfl _ _ 24 5 rfl Try.underlying24 info8 _ _ _ _ n rfl rfl (by omega) (by omega) (by omega) (Below.refl _ _) (Nat.le_refl _) ?_; intro v1 w1 HO1 HB1 hg1 hat1)
  obtain ⟨g, cap, rfl, hgb⟩ := HO1.block hat1
  rw [List.length_replicate] at HO1 ⊢
  have hRT := hR1.keep (bel_trans hB0 HB1)
  go_upto_region 4 with (refine copy_own (w0 := W0) W0.heap.size rfl _ _ 24 5 rfl Try.underlying24 info8 g cap 0 n (List.replicate n 0) T (List.length_replicate) _ n cap u1 rfl (fun _ => rfl) (by rw [hTL.out]; exact Nat.le_refl _) rfl HO1 hRT (by rw [hTL.out]; omega) HB1 HB1.size ?_; intro w2 HO2 HB2 hg2)
  have hTe : (List.replicate n (0 : Int)).take 0 ++ (T ++ (List.replicate n (0 : Int)).drop (0 + T.length)) = T := by
    rw [hTL.out, List.take_zero, List.drop_eq_nil_of_le (by rw [List.length_replicate]; omega), List.append_nil, List.nil_append]
  rw [hTe] at HO2
  have hb2 := hbx.keep HB2
  have hc2 := cell_keep (bel_trans hB0 HB2) h2
  clear hTe HO1 HB1 hg1 hat1 hRT hR1 hbx h2
  go_wp2_with (refine store_box rfl 28 _ _ rfl w.heap.size 28 _ #[.int .i64 x2, .slice (some ⟨g, 0, none⟩) n cap] rfl rfl hb2 infoF rfl (one2 _ _ _ _ _) ?_; intro w3 hb3 hg3)
  have hne : (Value.slice (some ⟨g, 0, none⟩) n cap).ownBlock ≠ some w.heap.size := by
    have := HSZ.out
    intro h
    have h : g = w.heap.size := by simpa [Value.ownBlock] using h
    omega
  refine bodyPost_ret (results_cell1 rfl _ _ _ rfl (run_load_box _ _ _ _ _ hb3 Try.underlying28 rfl infoF)) rfl ⟨_, rfl, own_base (HO2.kept hg3 (.inr hne)) (Nat.le_of_lt HSZ.out), ?_⟩
  exact below_row (bel_trans hB0 HB2) hg3 (Nat.le_refl _) (bel_trans hB0 HB2).size
end Go.Proofs.Ytilmmohkdgmhnaa
