/- The image of a state of one row; the laws ImageNames, ImageMade. -/
import Derived.Test.YtdmogbkfmeihfaaIeD
import Derived.Test.YtdmogbkfmeihfaaLend
import Derived.Lib.SlBytesConst
namespace Go.Proofs.Ytdmogbkfmeihfaa
open Go.RowKit
set_option maxRecDepth 100000
set_option linter.unusedVariables false
abbrev oneR : List RowT := [(⟨#[107]⟩, ⟨#[118]⟩, 5)]
theorem lit_rows (W : World) : RdR (W.alloc (.cells #[.string ⟨#[107]⟩, .string ⟨#[118]⟩, .int .i64 5] 61)) (.slice (some ⟨W.heap.size, 0, none⟩) 1 1) oneR :=
  ⟨rfl, _, _, rfl, Nat.le_refl _, by decide, (fun h => by cases h), fun j hj => ⟨_, 0, rfl, by rw [Nat.zero_add, World.cell?_alloc_new]; show _ = ([.string ⟨#[107]⟩, .string ⟨#[118]⟩, .int .i64 5] : List Value)[j]?; simp⟩⟩
theorem one_any (w : World) : Calls Try.prog 42 #[] w fun e w' => ∃ v, e = .returned (.agg (stC 7 v)) ∧ RdR w' v oneR ∧ Below w.heap.size w w' := by
  have hb := Box.new w #[.int .i64 0, .slice none 0 0] 36
  have hB := al1 (Below.refl w.heap.size w) (.cells #[.int .i64 0, .slice none 0 0] 36)
  obtain ⟨W0, hW0⟩ : ∃ W0, W0 = w.alloc (.cells #[.int .i64 0, .slice none 0 0] 36) := ⟨_, rfl⟩
  rw [← hW0] at hb hB
  have hz := hd_ hb.lt
  have hB1 := al1 (Below.refl W0.heap.size W0) (.cells #[.string ⟨#[107]⟩, .string ⟨#[118]⟩, .int .i64 5] 61)
  have hb1 := hb.keep hB1
  have hR1 := hd_ (lit_rows W0)
  have hB02 := hd_ (bel_trans hB hB1)
  have hb1 := hd_ hb1
  clear hb hB hB1
  go_enter Try.func42, Try.ntmps42
  go_upto_region 1 with fail
  rw [← hW0]
  clear hW0
  go_wp2_with (refine store_box rfl 36 _ _ rfl w.heap.size 36 _ (stC 7 (.slice (some ⟨W0.heap.size, 0, none⟩) 1 1)) rfl rfl hb1.out infoSt rfl (stC_one _ _ _ _) ?_; intro w2 hb2 hg2)
  refine bodyPost_ret (results_cell1 rfl _ _ _ rfl (run_load_box _ _ _ _ _ hb2 Try.underlying36 rfl infoSt)) rfl ?_
  refine ⟨_, rfl, RdC.chg hR1.out (Chg.of hg2) (fun k hk e => ?_), below_row hB02.out hg2 (Nat.le_refl _) hB02.out.size⟩
  injection e with e
  subst e
  have hk : some W0.heap.size = some w.heap.size := hk
  injection hk with hk
  have := hz.out
  omega
def oneB : List Int := [104, 119, 105, 49, 7, 1, 1, 107, 1, 118, 5]
theorem oneB_b : IsBytes oneB := by intro b hb; simp [oneB] at hb; omega
theorem lebB_7 : lebB 7 = [7] := lebB_lo (by decide)
theorem lebB_1 : lebB 1 = [1] := lebB_lo (by decide)
theorem lebB_5 : lebB 5 = [5] := lebB_lo (by decide)
theorem chk_one : chkA 7 oneR = 0 := by
  have h1 : risesR 7 oneR true ⟨#[]⟩ = true := by kernel_rfl
  have h2 : (hdI 7 oneR).length = 6 := by unfold hdI; show (hwi ++ (lebB 7 ++ lebB 1)).length = 6; rw [lebB_7, lebB_1]; rfl
  have h3 : (allR oneR).length = 5 := by show (rowL _ ++ []).length = 5; rw [List.append_nil, rowL_length]; show (lebB 1).length + 1 + ((lebB 1).length + 1) + (lebB 5).length = 5; rw [lebB_1, lebB_5]; rfl
  unfold chkA
  rw [h1, h2, h3]
  decide
theorem laid_one : laidA 7 oneR = (0, oneB) := by
  rw [laid_chk, chk_one, if_neg (by decide)]
  have h2 : hdI 7 oneR = [104, 119, 105, 49, 7, 1] := by unfold hdI; show hwi ++ (lebB 7 ++ lebB 1) = _; rw [lebB_7, lebB_1]; rfl
  have h3 : allR oneR = [1, 107, 1, 118, 5] := by show rowL _ ++ [] = _; unfold rowL; show (lebB 1 ++ [107] ++ (lebB 1 ++ [118]) ++ lebB 5) ++ [] = _; rw [lebB_1, lebB_5]; rfl
  rw [h2, h3]; rfl
theorem enc_one : encA 7 oneR = (0, sealB oneB) := by unfold encA; rw [laid_one, if_neg (by decide)]
theorem seal_lenI (l : List Int) : (sealB l).length = l.length + 4 := by unfold sealB; rw [List.length_append]; rfl
theorem seal_take : (sealB oneB).take 11 = oneB := by
  unfold sealB
  rw [List.take_append_of_le_length (by decide)]
  rfl
theorem lit_oneB (W : World) : Rd (W.alloc (.cells #[.int .u8 104, .int .u8 119, .int .u8 105, .int .u8 49, .int .u8 7, .int .u8 1, .int .u8 1, .int .u8 107, .int .u8 1, .int .u8 118, .int .u8 5] 5 (11, 12))) (.slice (some ⟨W.heap.size, 0, none⟩) 11 11) oneB := rd_new _ rfl rfl oneB_b (by decide)
set_option maxHeartbeats 1000000 in
theorem lives_any (w : World) : Calls Try.prog 19 #[] w fun e w' => e = .returned (.bool true) ∧ Below w.heap.size w w' := by
  have hE := hd_ (fun W v (h : RdR W v oneR) => show Calls Try.prog 22 #[.agg (stC 7 v)] W (fun e w' => ∃ u, e = .returned (.tuple #[u, .int .i64 0]) ∧ (OwnN w' u (sealB oneB) ∧ ∀ k, u.ownBlock = some k → W.heap.size ≤ k) ∧ Below W.heap.size W w') from by have := Encode_any 7 v oneR W h; rw [enc_one] at this; exact this)
  have hs15 : (sealB oneB).length = 15 := seal_lenI oneB
  have kc := fun (w : World) (C : Array Value) (n c : Nat) => Lib.run_convert_bytes_const (P := Try.prog) w 22 5 C n c Try.underlying22 Try.underlying5
  have hSt := hd_ seal_take
  have hlb := hd_ hs15
  generalize sealB oneB = L at *
  clear hs15
  go_enter Try.func19, Try.ntmps19
  go_upto_region 2 with (first
    | (go_at_call 42; (with_reducible refine (one_any _).mono ?_); rintro e w1 ⟨v1, rfl, HR1, HB1⟩; have hE1 := hE.out w1 v1 HR1)
    | (go_at_call 22; (with_reducible refine hE1.mono ?_); rintro e w2 ⟨u2, rfl, ⟨HN2, _⟩, HB2⟩))
  have hl2 := HN2.rd.2.len (P := Try.prog) 22 5 3 Try.underlying22
  rw [hlb.out] at hl2
  obtain ⟨u3, hs3, hR3⟩ := HN2.rd.sl_h (P := Try.prog) Try.underlying22 infoB 11 (by have := hlb.out; omega)
  have hs3 : ∀ W : World, Sem.run Try.prog (Instr.slice 22 u2 none (some (.int .i64 11)) none) W = .ok u3 W := hs3
  rw [hSt.out] at hR3
  have HBl := al1 (Below.refl w2.heap.size w2) (.cells #[.int .u8 104, .int .u8 119, .int .u8 105, .int .u8 49, .int .u8 7, .int .u8 1, .int .u8 1, .int .u8 107, .int .u8 1, .int .u8 118, .int .u8 5] 5 (11, 12))
  have hSm := hd_ ((Same_any u3 _ oneB oneB _ (hR3.keep HBl) (lit_oneB w2)))
  rw [decide_eq_true rfl] at hSm
  have hBB := hd_ (bel_trans HB1 (bel_trans HB2 HBl))
  clear hE hE1 HR1 HB1 HN2 HB2 hR3 HBl
  go_wp2_with (go_at_call 25; refine hSm.out.mono ?_; rintro e w4 ⟨rfl, rfl⟩)
  go_ret
  exact ⟨rfl, hBB.out⟩
theorem law_ImageNames (w : World) : Calls Try.prog 4 #[] w fun e w' => e = .returned (.bool true) ∧ Below w.heap.size w w' := by
  go_enter Try.func4, Try.ntmps4
  go_wp2_with (go_at_call 19; (with_reducible refine (lives_any _).mono ?_); rintro e w1 ⟨rfl, HB1⟩)
  go_ret
  exact ⟨rfl, HB1⟩
/-! ### openers that no call made -/
theorem OWrite_nil (v : Value) (w : World) : Calls Try.prog 28 #[.pointer none, v] w fun e w' => e = .returned (.tuple #[.slice none 0 0, .int .i64 2]) ∧ w = w' := by
  go_enter Try.func28, Try.ntmps28
  go_wp2
  go_ret2
  exact ⟨rfl, rfl⟩
theorem OWrite_zero (g : Nat) (v : Value) (w : World) (h0 : w.cell? ⟨g, 0, none⟩ = some (.bool false)) : Calls Try.prog 28 #[.pointer (some ⟨g, 0, none⟩), v] w fun e w' => e = .returned (.tuple #[.slice none 0 0, .int .i64 2]) ∧ w = w' := by
  go_enter Try.func28, Try.ntmps28
  go_wp2
  go_ret2
  exact ⟨rfl, rfl⟩
theorem OEnd_nil (w : World) : Calls Try.prog 29 #[.pointer none] w fun e w' => e = .returned (.tuple #[.int .i64 0, .int .i64 2]) ∧ w = w' := by
  go_enter Try.func29, Try.ntmps29
  go_wp2
  go_ret2
  exact ⟨rfl, rfl⟩
theorem OEnd_zero (g : Nat) (w : World) (h0 : w.cell? ⟨g, 0, none⟩ = some (.bool false)) : Calls Try.prog 29 #[.pointer (some ⟨g, 0, none⟩)] w fun e w' => e = .returned (.tuple #[.int .i64 0, .int .i64 2]) ∧ w = w' := by
  go_enter Try.func29, Try.ntmps29
  go_wp2
  go_ret2
  exact ⟨rfl, rfl⟩
set_option maxHeartbeats 1000000 in
theorem law_ImageMade (w : World) (v : Value) (B : List Int) (HR : Rd w v B) (hl : B.length ≤ 140737488351232) : Calls Try.prog 6 #[v] w fun e w' => e = .returned (.bool true) ∧ Below w.heap.size w w' := by
  clear HR hl
  have hbx := Box.new w #[.bool false, .int .i64 0, .slice none 0 0, .int .i64 0, .int .u32 0, .int .i64 0, .int .i64 0, .string ⟨#[]⟩, .bool false, .slice none 0 0, .bool false, .int .i64 0] 52
  have hB0 := hd_ (al1 (Below.refl w.heap.size w) (.cells #[.bool false, .int .i64 0, .slice none 0 0, .int .i64 0, .int .u32 0, .int .i64 0, .int .i64 0, .string ⟨#[]⟩, .bool false, .slice none 0 0, .bool false, .int .i64 0] 52))
  have q0 := hd_ (hbx.cell 0 (v := .bool false) rfl)
  clear hbx
  go_enter Try.func6, Try.ntmps6
  go_wp2_with (first
    | (go_at_call 28; (with_reducible refine (OWrite_nil _ _).mono ?_); rintro e w1 ⟨rfl, rfl⟩)
    | (go_at_call 28; (with_reducible refine (OWrite_zero _ _ _ q0.out).mono ?_); rintro e w1 ⟨rfl, rfl⟩)
    | (go_at_call 29; (with_reducible refine (OEnd_nil _).mono ?_); rintro e w1 ⟨rfl, rfl⟩)
    | (go_at_call 29; (with_reducible refine (OEnd_zero _ _ q0.out).mono ?_); rintro e w1 ⟨rfl, rfl⟩))
  go_ret
  exact ⟨rfl, hB0.out⟩
end Go.Proofs.Ytdmogbkfmeihfaa
