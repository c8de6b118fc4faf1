import Derived.Test.YtdifppahpihhpaaCrcL
import Derived.Test.YtdifppahpihhpaaOpen2
import Derived.Laws.Cover3
namespace Go.Proofs.Ytdifppahpihhpaa
open Go.RowKit
set_option maxRecDepth 100000
set_option linter.unusedVariables false
attribute [local go_sem] u32_signed not_I xorOnes_I xor_I
theorem box4 (w : World) (c0 c1 c2 c3 : Value) (t : TypeId) : let W := w.alloc (.cells #[c0, c1, c2, c3] t)
    W.cell? ⟨w.heap.size, 0, none⟩ = some c0 ∧ W.cell? ⟨w.heap.size, 1, none⟩ = some c1 ∧ W.cell? ⟨w.heap.size, 2, none⟩ = some c2 ∧ W.cell? ⟨w.heap.size, 3, none⟩ = some c3 :=
  ⟨World.cell?_alloc_at _ _ _ 0 rfl, World.cell?_alloc_at _ _ _ 1 rfl, World.cell?_alloc_at _ _ _ 2 rfl, World.cell?_alloc_at _ _ _ 3 rfl⟩
theorem turns_any (w : World) (c n k m : Int) (hc : (Lit.int .u32 c).wf = true) (hn : (Lit.int .i64 n).wf = true) (hk : (Lit.int .i64 k).wf = true) (hm : (Lit.int .u8 m).wf = true) :
    Calls Try.prog 18 #[.agg #[.int .u32 c, .int .i64 n, .int .i64 k, .int .u8 m]] w fun e w' => e = .returned (.bool true) ∧ Below w.heap.size w w' := by
  obtain ⟨c0, c1⟩ := wf_u32 hc
  obtain ⟨n0, n1⟩ := wf_i64 hn
  obtain ⟨k0, k1⟩ := wf_i64 hk
  obtain ⟨m0, m1⟩ := wf_u8' hm
  obtain ⟨x, rfl⟩ := word_of c0 c1
  clear hc hn hk hm c0 c1
  have hbb := b32_I
  obtain ⟨q0, q1, q2, q3⟩ := box4 w (.int .u32 (I x)) (.int .i64 n) (.int .i64 k) (.int .u8 m) 66
  have hB := hd_ (al1 (Below.refl w.heap.size w) (.cells #[.int .u32 (I x), .int .i64 n, .int .i64 k, .int .u8 m] 66))
  by_cases h1 : n < 0
  · go_enter Try.func18, Try.ntmps18
    go_upto_region 1 with fail
    generalize (w.alloc (.cells #[.int .u32 (I x), .int .i64 n, .int .i64 k, .int .u8 m] 66)) = W0 at *
    go_wp2_with (first | (go_at_call 47; refine (crc_Turned_arg _ _ _ _ h1 _).mono ?_; rintro e w' ⟨rfl, rfl⟩) | (go_at_call 48; refine (ref_Turned_arg _ _ _ _ h1 _).mono ?_; rintro e w' ⟨rfl, rfl⟩) | (go_at_call 26; refine (num_any _ _).mono ?_; rintro e w' ⟨rfl, rfl⟩))
    go_ret
    exact ⟨rfl, hB.out⟩
  · have h1 := Int.not_lt.1 h1
    by_cases h2 : k < 0 ∨ n ≤ k
    · have h2 := hd_ h2
      go_enter Try.func18, Try.ntmps18
      go_upto_region 1 with fail
      generalize (w.alloc (.cells #[.int .u32 (I x), .int .i64 n, .int .i64 k, .int .u8 m] 66)) = W0 at *
      go_wp2_with (first | (go_at_call 47; refine (crc_Turned_out _ _ _ _ h1 h2.out _).mono ?_; rintro e w' ⟨rfl, rfl⟩) | (go_at_call 48; refine (ref_Turned_out _ _ _ _ h1 h2.out _).mono ?_; rintro e w' ⟨rfl, rfl⟩) | (go_at_call 26; refine (num_any _ _).mono ?_; rintro e w' ⟨rfl, rfl⟩))
      go_ret
      exact ⟨rfl, hB.out⟩
    · obtain ⟨h3, h4⟩ := not_or.1 h2
      have h3 := Int.not_lt.1 h3
      have h4 := Int.not_le.1 h4
      go_enter Try.func18, Try.ntmps18
      go_upto_region 1 with fail
      generalize (w.alloc (.cells #[.int .u32 (I x), .int .i64 n, .int .i64 k, .int .u8 m] 66)) = W0 at *
      go_wp2_with (first
        | (go_at_call 47; refine (crc_Turned_in x m n k m0 m1 h1 n1 h3 h4 _).mono ?_; rintro e w1 ⟨rfl, hb1⟩; have HB1 := hd_ (bel_trans hB.out hb1); have r0 := cell_keep hb1 q0; have r1 := cell_keep hb1 q1; have r2 := cell_keep hb1 q2; have r3 := cell_keep hb1 q3)
        | (go_at_call 48; refine (ref_Turned_in x m n k m0 m1 h1 n1 h3 h4 _).mono ?_; rintro e w2 ⟨rfl, hb2⟩)
        | (go_at_call 26; refine (num_any _ _).mono ?_; rintro e w' ⟨rfl, rfl⟩))
      go_ret
      exact ⟨rfl, bel_trans HB1.out hb2⟩
def RTurn := RAnd 0 1 (RInt .u32) (RAnd 1 1 (RInt .i64) (RAnd 2 1 (RInt .i64) (RAnd 3 1 (RInt .u8) RNil)))
theorem law_CrcTurns (w : World) (cs : Array Value) (hs : cs.size = 4) (x : Int × Int × Int × Int × Unit) (r : RTurn w cs.toList x) :
    Calls Try.prog 18 #[.agg cs] w fun e w' => e = .returned (.bool true) ∧ Below w.heap.size w w' := by
  obtain ⟨c0, c1, c2, c3, rfl⟩ := Go.Joins.array4 hs
  obtain ⟨⟨h0, w0⟩, ⟨h1, w1⟩, ⟨h2, w2⟩, ⟨h3, w3⟩, _⟩ := r
  simp at h0 h1 h2 h3
  subst h0; subst h1; subst h2; subst h3
  exact turns_any w _ _ _ _ w0 w1 w2 w3
end Go.Proofs.Ytdifppahpihhpaa
