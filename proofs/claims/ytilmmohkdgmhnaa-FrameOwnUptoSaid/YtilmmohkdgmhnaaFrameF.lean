import Derived.Test.YtilmmohkdgmhnaaFrameE
namespace Go.Proofs.Ytilmmohkdgmhnaa
open Go.RowKit
set_option maxRecDepth 100000
set_option linter.unusedVariables false
theorem plain_any (k : Int) (A : Option Addr) (n c : Nat) (w : World) :
    Calls Try.prog 21 #[.agg #[.int .i64 k, .slice A n c]] w fun e w' => e = .returned (.agg #[.int .i64 k, .slice A n c]) ∧ Below w.heap.size w w' := by
  have q0 : (w.alloc (.cells #[.int .i64 k, .slice A n c] 28)).cell? ⟨w.heap.size, 0, none⟩ = some (.int .i64 k) := World.cell?_alloc_at _ _ _ 0 rfl
  have q1 : (w.alloc (.cells #[.int .i64 k, .slice A n c] 28)).cell? ⟨w.heap.size, 1, none⟩ = some (.slice A n c) := World.cell?_alloc_at _ _ _ 1 rfl
  have hB := al1 (Below.refl w.heap.size w) (.cells #[.int .i64 k, .slice A n c] 28)
  go_enter Try.func21, Try.ntmps21
  go_wp2
  exact bodyPost_ret (v := .agg #[.int .i64 k, .slice A n c]) (by simp [results, Try.results21, go_sem]) rfl ⟨rfl, al1 hB _⟩
theorem ref_sealed_any (v : Value) (l : List Int) (w : World) (HR : Rd w v l) (hl : l.length ≤ 140737488355320) : Calls Try.prog 47 #[v] w (RetOwn 5 w (sealB l)) := by
  go_enter Try.func47, Try.ntmps47
  go_wp2_with (go_at_call 60; refine (ref_Seal_any _ _ _ HR hl).mono ?_; rintro e w1 ⟨v1, rfl, HO1, HB1⟩)
  go_ret
  exact ⟨v1, rfl, HO1, HB1⟩
theorem ref_Encode_form (k : Int) (u : Value) (w : World) (hk : k < 1 ∨ 255 < k) :
    Calls Try.prog 20 #[.agg #[.int .i64 k, u]] w fun e w' => e = .returned (.tuple #[.slice none 0 0, .int .i64 42]) ∧ Below w.heap.size w w' := by
  have q0 : (w.alloc (.cells #[.int .i64 k, u] 33)).cell? ⟨w.heap.size, 0, none⟩ = some (.int .i64 k) := World.cell?_alloc_at _ _ _ 0 rfl
  have hB := hd_ (al1 (Below.refl w.heap.size w) (.cells #[.int .i64 k, u] 33))
  rcases hk with hk | hk
  · go_enter Try.func20, Try.ntmps20
    go_wp2
    go_ret2
    exact ⟨rfl, hB.out⟩
  · have hk2 : ¬ k < 1 := by omega
    go_enter Try.func20, Try.ntmps20
    go_wp2
    go_ret2
    exact ⟨rfl, hB.out⟩
theorem ref_Encode_long (k : Int) (u : Value) (body : List Int) (w : World) (HR : Rd w u body) (h1 : 1 ≤ k) (h2 : k ≤ 255) (hl : 1048576 < body.length) :
    Calls Try.prog 20 #[.agg #[.int .i64 k, u]] w fun e w' => e = .returned (.tuple #[.slice none 0 0, .int .i64 43]) ∧ Below w.heap.size w w' := by
  have q0 : (w.alloc (.cells #[.int .i64 k, u] 33)).cell? ⟨w.heap.size, 0, none⟩ = some (.int .i64 k) := World.cell?_alloc_at _ _ _ 0 rfl
  have q1 : (w.alloc (.cells #[.int .i64 k, u] 33)).cell? ⟨w.heap.size, 1, none⟩ = some u := World.cell?_alloc_at _ _ _ 1 rfl
  have hB := hd_ (al1 (Below.refl w.heap.size w) (.cells #[.int .i64 k, u] 33))
  have hlen := HR.2.len (P := Try.prog) 24 5 3 Try.underlying24
  have hlI : (1048576 : Int) < (body.length : Int) := by omega
  go_enter Try.func20, Try.ntmps20
  go_wp2
  go_ret2
  exact ⟨rfl, hB.out⟩
set_option maxHeartbeats 1000000 in
theorem ref_Encode_ok (k : Int) (u : Value) (body : List Int) (w : World) (HR : Rd w u body) (h1 : 1 ≤ k) (h2 : k ≤ 255) (hl : body.length ≤ 1048576) :
    Calls Try.prog 20 #[.agg #[.int .i64 k, u]] w fun e w' => ∃ v1, e = .returned (.tuple #[v1, .int .i64 0]) ∧ Rd w' v1 (encB k body) ∧ Below w.heap.size w w' := by
  have q0 : (w.alloc (.cells #[.int .i64 k, u] 33)).cell? ⟨w.heap.size, 0, none⟩ = some (.int .i64 k) := World.cell?_alloc_at _ _ _ 0 rfl
  have q1 : (w.alloc (.cells #[.int .i64 k, u] 33)).cell? ⟨w.heap.size, 1, none⟩ = some u := World.cell?_alloc_at _ _ _ 1 rfl
  have hB := al1 (Below.refl w.heap.size w) (.cells #[.int .i64 k, u] 33)
  have hlen := HR.2.len (P := Try.prog) 24 5 3 Try.underlying24
  have hHB := hd_ (head6_bytes body.length hl (by omega : 0 ≤ k) (by omega))
  have hE := hd_ (show encB k body = sealB (sealB (head6 k body.length) ++ body) from rfl)
  go_enter Try.func20, Try.ntmps20
  go_upto_region 1 with fail
  generalize w.alloc (.cells #[.int .i64 k, u] 33) = W0 at *
  have hR0 := HR.keep hB
  have hal0 := al1 (Below.refl W0.heap.size W0)
  go_wp2_with fail
  refine (ref_sealed_any _ (head6 k body.length) _ (rd_new (head6 k body.length) rfl rfl hHB.out (show 6 ≤ maxLen by decide)) (show 6 ≤ 140737488355320 by decide)).mono ?_
  rintro e w1 ⟨v1, rfl, HO1, HB1⟩
  have HB1' := bel_trans (hal0 _) HB1
  have r1 := cell_keep HB1' q1
  have hR1 := hR0.keep HB1'
  have hsl : (sealB (head6 k body.length)).length = 10 := rfl
  generalize hW1 : (W0.alloc (.cells (nums8 (head6 k body.length)).toArray 5)) = W1 at *
  go_upto_region 8 with (at_builtin; (refine app_bytes (w0 := W1) W1.heap.size rfl _ _ 24 5 rfl Try.underlying24 info8 v1 _ (sealB (head6 k body.length)) body rfl rfl HO1 hR1 HB1 HB1.size (by rw [hsl]; omega) ?_); intro v2 w2 HO2 HB2 hg2 hat2)
  have hT : (sealB (head6 k body.length) ++ body).length ≤ 140737488355320 := by rw [List.length_append, hsl]; omega
  go_wp2_with fail
  refine (ref_sealed_any _ _ _ HO2.rd hT).mono ?_
  rintro e w3 ⟨v3, rfl, HO3, HB3⟩
  go_wp2
  go_ret2
  have HW1 : Below W0.heap.size W0 W1 := by rw [← hW1]; exact hal0 _
  exact ⟨v3, rfl, by rw [hE.out]; exact HO3.rd, bel_trans hB (bel_trans HW1 (bel_trans HB2 HB3))⟩
end Go.Proofs.Ytilmmohkdgmhnaa
