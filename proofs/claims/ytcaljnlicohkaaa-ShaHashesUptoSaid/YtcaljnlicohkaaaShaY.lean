/- SHA-256: a hasher saved, its count, reset; a list copied. -/
import Derived.Test.YtcaljnlicohkaaaShaU
import Derived.Test.YtcaljnlicohkaaaOwnF
import Derived.Lib.SlBytesConst
namespace Go.Proofs.Ytcaljnlicohkaaa
open Go.RowKit
set_option maxRecDepth 100000
set_option linter.unusedVariables false
/-- a list written out and made a list of bytes -/
theorem litF (W : World) (base : Nat) (hb : base ≤ W.heap.size) (ds : List Int) (hd : IsBytes ds) (n m : Nat) (e : TypeId) (hn : ds.length = n) (hm : n ≤ maxLen) : OwnF (W.alloc (.cells (u8A ds) e (n, m))) base (.slice (some ⟨W.heap.size, 0, none⟩) n n) ds := by
  subst hn
  have hh := heap_alloc_new W (.cells (u8A ds) e (ds.length, m))
  refine ⟨hd, _, _, rfl, hb, by simp, Nat.le_refl _, hm, fun j hj => ?_, fun j hj => ?_, fun j hj => ?_⟩
  · unfold World.cell?
    simp only [hh]
    exact u8A_cell ds j hj
  · unfold World.cell?
    simp only [hh]
    rw [u8A_cell ds j hj]
    rfl
  · unfold World.frozen?
    simp only [hh]
    simp
    omega
def saveL (s : List W32) (rest : List Int) (n : Nat) : List Int := (([104, 115] ++ lebB n) ++ layS s 8) ++ rest
/-- an answer that is a row of one's own -/
def RetF (w : World) (xs : List Int) (e : Ending) (w' : World) : Prop := ∃ v, e = .returned v ∧ OwnF w' w.heap.size v xs ∧ Below w.heap.size w w'
/-- a variable of bytes, read as a list -/
theorem box_rd {W : World} {g : Nat} {t : TypeId} {ds : List Int} (h : Box W g t (u8A ds)) (hd : IsBytes ds) (n : Nat) (hn : ds.length = n) (hm : n ≤ maxLen) : Rd W (.slice (some ⟨g, 0, none⟩) n n) ds := by
  subst hn
  refine ⟨hd, by rw [nums8_length, Nat.mul_one], _, _, rfl, Nat.le_refl _, hm, (fun h => by cases h), fun j hj => ⟨g, 0, rfl, ?_⟩⟩
  rw [nums8_length] at hj
  rw [Nat.zero_add, h.cell j (u8A_cell ds j hj), nums8_get ds j hj]
set_option maxHeartbeats 2000000 in
theorem sha_Save_any (g : Nat) (s : List W32) (v : Value) (rest : List Int) (n : Nat) (w : World) (h : Hs w g s v rest n) (hn : n < 18446744073709551616) (hl : rest.length ≤ 64) :
    Calls Try.prog 25 #[.pointer (some ⟨g, 0, none⟩)] w (RetF w (saveL s rest n)) := by
  obtain ⟨q8, q9, q10⟩ := h.cells
  have kc := fun (w : World) (C : Array Value) (n c : Nat) => Lib.run_convert_bytes_const (P := Try.prog) w 34 5 C n c Try.underlying34 Try.underlying5
  have hB1 := al1 (Below.refl w.heap.size w) (.cells #[.int .u8 104, .int .u8 115] 5 (2, 3))
  have hF1 := litF w w.heap.size (Nat.le_refl _) [104, 115] (by intro b hb; simp at hb; omega) 2 3 5 rfl (by decide)
  have e1 : u8A [104, 115] = #[.int .u8 104, .int .u8 115] := rfl
  rw [e1] at hF1
  clear e1
  have r9 := cell_keep hB1 q9
  have hS1 := h.keep hB1
  have hH := hd_ h
  have hnl := hd_ (And.intro hn hl)
  clear h hn hl q9
  go_enter Try.func25, Try.ntmps25
  go_upto_region 3 with fail
  have hbx : RdC 1 ((w.alloc (.cells #[.int .u8 104, .int .u8 115] 5 (2, 3))).alloc (.cells #[.int .u64 (n : Int)] 48)) (.slice (some ⟨w.heap.size + 1, 0, none⟩) 1 1) 1 [.int .u64 (n : Int)] := by
    have := box_one (w.alloc (.cells #[.int .u8 104, .int .u8 115] 5 (2, 3))) (.int .u64 (n : Int)) 48
    rw [show (w.alloc (.cells #[.int .u8 104, .int .u8 115] 5 (2, 3))).heap.size = w.heap.size + 1 by simp] at this
    exact this
  have hbxH := hd_ hbx
  have hB2 := al1 hB1 (.cells #[.int .u64 (n : Int)] 48)
  have hS2 := hS1.keep (al1 (Below.refl _ _) (.cells #[.int .u64 (n : Int)] 48))
  have hF2 := hF1.keep (al1 (Below.refl _ _) (.cells #[.int .u64 (n : Int)] 48))
  have hr2 := hd_ (And.intro hS2 (And.intro hB2 hF2))
  clear hS1 hB1 hF1 hbx hS2 hB2 hF2
  go_upto_region 4 with (first
    | (go_at_call 38; (with_reducible refine (leb_Encode_any _ n _ hbxH.out hnl.out.1).mono ?_); rintro e w1 ⟨v1, rfl, HO1, HB1⟩; have hF1 := hr2.out.2.2.keep HB1; have hBW1 := bel_trans hr2.out.2.1 HB1)
    | (at_builtin; (refine app_bytesF (w0 := w) w.heap.size rfl _ _ 34 5 rfl Try.underlying34 infoB _ v1 [104, 115] (lebB n) rfl rfl hF1 HO1.rd hBW1 hBW1.size (by have := lebB_10 hnl.out.1; simp only [List.length_cons, List.length_nil]; omega) ?_); intro v2 w2 HF2 HB2 HC2))
  have hS3 := hH.out.keep HB2
  have h8 := hS3.2.2.1
  have hc8 : ∀ j, j < (wA s).size → w2.cell? ⟨g, 0 + j, none⟩ = (wA s)[j]? := hS3.1.part 0 (fun j hj => by rw [Nat.zero_add]; unfold hsC; rw [Array.getElem?_append_left hj])
  have hsz : (wA s).size = 8 := by rw [wA_size, h8]
  have hiw : (Try.prog.info? 47).map (·.size) = some (wA s).size := by rw [hsz]; exact infoW
  have hi8 : (Try.prog.info? 24).map (·.size) = some (u8A (layS s 8)).size := by rw [u8A_size, layS_length]; kernel_rfl
  have hcH := hd_ hc8
  have h8H := hd_ h8
  have HF2H := hd_ HF2
  have HB2H := hd_ HB2
  have hlen := hd_ (show ([104, 115] ++ lebB n).length ≤ 20 by have := lebB_10 hnl.out.1; rw [List.length_append]; simp only [List.length_cons, List.length_nil]; omega)
  clear hc8 h8 hS3 HF2 HB2 HC2 hr2 hbxH HO1 HB1 hF1 hBW1 q8 q10 r9
  go_upto_region 5 with (first
    | (refine load_at rfl 47 _ rfl g 0 (wA s) _ rfl hcH.out Try.underlying47 rfl hiw ?_)
    | (go_at_call 37; (with_reducible refine (sha_laid_any s h8H.out _).mono ?_); rintro e w4 ⟨rfl, HB4⟩)
    | (refine store_box rfl 24 _ _ rfl _ _ _ (u8A (layS s 8)) rfl rfl (Box.new _ _ _) hi8 (by rw [u8A_size, layS_length]; rfl) (u8A_one _) ?_; intro w5 hb5 hg5))
  have HB5 := below_row (al1 (bel_trans HB2H.out HB4) _) hg5 (Nat.le_trans HB2H.out.size HB4.size) (Nat.le_trans (Nat.le_trans HB2H.out.size HB4.size) (size_al _ _))
  have HF5 := (HF2H.out.keep HB4).keep (below_row (al1 (Below.refl w4.heap.size w4) _) hg5 (Nat.le_refl _) (size_al _ _))
  have hR5 := box_rd hb5 (layS_bytes s 8) 32 (layS_length s 8) (by decide)
  have hFH := hd_ (And.intro HF5 (And.intro HB5 hR5))
  clear HF5 HB5 hR5 hb5 hg5 HB4
  simp only [Act.put]
  go_upto_region 6 with (first
    | (at_builtin; (refine app_bytesF (w0 := w) w.heap.size rfl _ _ 34 5 rfl Try.underlying34 infoB v2 (.slice (some ⟨w4.heap.size, 0, none⟩) 32 32) ([104, 115] ++ lebB n) (layS s 8) rfl rfl hFH.out.1 hFH.out.2.2 hFH.out.2.1 hFH.out.2.1.size (by have := hlen.out; rw [layS_length]; omega) ?_); intro v6 w6 HF6 HB6 HC6))
  have hS6 := hH.out.keep HB6
  have q8 := hS6.1.cell 8 (hs8 hS6.2.2.1)
  have hR6 := hd_ hS6.2.1.rd
  have hl6 := hd_ (show (([104, 115] ++ lebB n) ++ layS s 8).length ≤ 52 by have := hlen.out; rw [List.length_append, layS_length]; omega)
  have hF6 := hd_ (And.intro HF6 HB6)
  clear hS6 HF6 HB6 HC6 hFH
  go_wp2_with (first
    | (at_builtin; (refine app_bytesF (w0 := w) w.heap.size rfl _ _ 34 5 rfl Try.underlying34 infoB v6 v (([104, 115] ++ lebB n) ++ layS s 8) rest rfl rfl hF6.out.1 hR6.out hF6.out.2 hF6.out.2.size (by have := hl6.out; have := hnl.out.2; omega) ?_); intro v7 w7 HF7 HB7 HC7))
  go_ret
  exact ⟨_, rfl, HF7, HB7⟩
theorem sha_Len_any (g : Nat) (s : List W32) (v : Value) (rest : List Int) (n : Nat) (w : World) (h : Hs w g s v rest n) :
    Calls Try.prog 24 #[.pointer (some ⟨g, 0, none⟩)] w fun e w' => e = .returned (.int .i64 (wrap64 (n : Int))) ∧ w = w' := by
  obtain ⟨q8, q9, q10⟩ := h.cells
  clear h q8 q10
  go_enter Try.func24, Try.ntmps24
  go_wp2
  go_ret
  exact ⟨rfl, rfl⟩
end Go.Proofs.Ytcaljnlicohkaaa
