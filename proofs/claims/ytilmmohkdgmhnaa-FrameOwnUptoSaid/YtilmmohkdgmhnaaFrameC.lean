import Derived.Test.YtilmmohkdgmhnaaFrameB
namespace Go.Proofs.Ytilmmohkdgmhnaa
open Go.RowKit
set_option maxRecDepth 100000
set_option linter.unusedVariables false
theorem own_base {W : World} {b b' : Nat} {e : TypeId} {v : Value} {xs : List Int} (h : Own W b e v xs) (hb : b' ≤ b) : Own W b' e v xs := by
  refine ⟨h.1, h.2.1, ?_⟩
  rcases h.2.2 with h1 | ⟨g, cap, cur, h1, h2, h3⟩
  · exact .inl h1
  · exact .inr ⟨g, cap, cur, h1, Nat.le_trans hb h2, h3⟩
theorem frame_laid_any (w0 : World) (base : Nat) (v : Value) (xs : List Int) (x : W32) (w : World) (HO : Own w base 5 v xs) (HB : Below base w0 w) (hbase : base ≤ w.heap.size) (hl : xs.length + 4 ≤ 140737488355328) :
    Calls Try.prog 45 #[v, .int .u32 (I x)] w fun e w' => ∃ v1, e = .returned v1 ∧ Own w' base 5 v1 (xs ++ B4 x) ∧ Below base w0 w' := by
  have hlB : xs.length + (B4 x).length ≤ 140737488355328 := hl
  have hal := al1 (Below.refl w.heap.size w)
  go_enter Try.func45, Try.ntmps45
  go_wp2_with (at_builtin; (refine app_box (w0 := w0) base rfl _ _ 24 5 rfl Try.underlying24 info8 v xs (B4 x) rfl _ 4 4 rfl rfl (Nat.le_refl _) (by omega) (B4_bytes _) (fun j hj => (World.cell?_alloc_at _ _ _ j (by simp)).trans (B4_cell _ j hj)) (HO.keep (hal _)) (HB.alloc hbase _) (Nat.le_trans hbase (size_al _ _)) hlB ?_); intro v5 w5 HO5 HB5 hg5 hat5)
  go_ret
  exact ⟨_, rfl, HO5, HB5⟩
def head6 (k : Int) (n : Nat) : List Int := [72, 87, k, (n : Int) % 256, (n : Int) / 256 % 256, (n : Int) / 65536]
theorem head6_bytes {k : Int} (n : Nat) (hn : n ≤ 1048576) (h0 : 0 ≤ k) (h1 : k < 256) : IsBytes (head6 k n) := by
  intro b hb
  simp only [head6, List.mem_cons, List.not_mem_nil, or_false] at hb
  omega
def encB (k : Int) (body : List Int) : List Int := sealB (sealB (head6 k body.length) ++ body)
theorem frame_Encode_form (k : Int) (u : Value) (w : World) (hk : k < 1 ∨ 255 < k) :
    Calls Try.prog 18 #[.agg #[.int .i64 k, u]] w fun e w' => e = .returned (.tuple #[.slice none 0 0, .int .i64 42]) ∧ Below w.heap.size w w' := by
  have q0 : (w.alloc (.cells #[.int .i64 k, u] 28)).cell? ⟨w.heap.size, 0, none⟩ = some (.int .i64 k) := World.cell?_alloc_at _ _ _ 0 rfl
  have hB := hd_ (al1 (Below.refl w.heap.size w) (.cells #[.int .i64 k, u] 28))
  rcases hk with hk | hk
  · go_enter Try.func18, Try.ntmps18
    go_wp2
    go_ret2
    exact ⟨rfl, hB.out⟩
  · have hk2 : ¬ k < 1 := by omega
    go_enter Try.func18, Try.ntmps18
    go_wp2
    go_ret2
    exact ⟨rfl, hB.out⟩
theorem frame_Encode_long (k : Int) (u : Value) (body : List Int) (w : World) (HR : Rd w u body) (h1 : 1 ≤ k) (h2 : k ≤ 255) (hl : 1048576 < body.length) :
    Calls Try.prog 18 #[.agg #[.int .i64 k, u]] w fun e w' => e = .returned (.tuple #[.slice none 0 0, .int .i64 43]) ∧ Below w.heap.size w w' := by
  have q0 : (w.alloc (.cells #[.int .i64 k, u] 28)).cell? ⟨w.heap.size, 0, none⟩ = some (.int .i64 k) := World.cell?_alloc_at _ _ _ 0 rfl
  have q1 : (w.alloc (.cells #[.int .i64 k, u] 28)).cell? ⟨w.heap.size, 1, none⟩ = some u := World.cell?_alloc_at _ _ _ 1 rfl
  have hB := hd_ (al1 (Below.refl w.heap.size w) (.cells #[.int .i64 k, u] 28))
  have hlen := HR.2.len (P := Try.prog) 24 5 3 Try.underlying24
  have hlI : (1048576 : Int) < (body.length : Int) := by omega
  go_enter Try.func18, Try.ntmps18
  go_wp2
  go_ret2
  exact ⟨rfl, hB.out⟩
set_option maxHeartbeats 1000000 in
theorem frame_Encode_ok (k : Int) (u : Value) (body : List Int) (w : World) (HR : Rd w u body) (h1 : 1 ≤ k) (h2 : k ≤ 255) (hl : body.length ≤ 1048576) :
    Calls Try.prog 18 #[.agg #[.int .i64 k, u]] w fun e w' => ∃ v1, e = .returned (.tuple #[v1, .int .i64 0]) ∧ Own w' w.heap.size 5 v1 (encB k body) ∧ Below w.heap.size w w' := by
  have q0 : (w.alloc (.cells #[.int .i64 k, u] 28)).cell? ⟨w.heap.size, 0, none⟩ = some (.int .i64 k) := World.cell?_alloc_at _ _ _ 0 rfl
  have q1 : (w.alloc (.cells #[.int .i64 k, u] 28)).cell? ⟨w.heap.size, 1, none⟩ = some u := World.cell?_alloc_at _ _ _ 1 rfl
  have hB := al1 (Below.refl w.heap.size w) (.cells #[.int .i64 k, u] 28)
  have hlen := HR.2.len (P := Try.prog) 24 5 3 Try.underlying24
  have hHB := hd_ (head6_bytes body.length hl (by omega : 0 ≤ k) (by omega))
  obtain ⟨H, hH⟩ : ∃ H, H = head6 k body.length := ⟨_, rfl⟩
  obtain ⟨T, hT⟩ : ∃ T, T = sealB H ++ body := ⟨_, rfl⟩
  have hE := hd_ (show encB k body = sealB T by rw [hT, hH]; rfl)
  have HHE := hd_ hH
  have HTE := hd_ hT
  clear hH hT
  go_enter Try.func18, Try.ntmps18
  go_upto_region 1 with fail
  generalize w.alloc (.cells #[.int .i64 k, u] 28) = W0 at *
  have hR0 := HR.keep hB
  go_upto_region 7 with (at_make; refine make0_bytes (w0 := W0) W0.heap.size rfl _ _ 24 5 rfl Try.underlying24 info8 _ _ _ (body.length + 14) rfl rfl (by omega) (by omega) (Below.refl _ _) (Nat.le_refl _) ?_; intro v1 w1 HO1 HB1 hg1 hat1)
  have r0 := cell_keep HB1 q0
  have hal1 := al1 (Below.refl w1.heap.size w1)
  go_upto_region 8 with (at_builtin; (refine app_bytes (w0 := W0) W0.heap.size rfl _ _ 24 5 rfl Try.underlying24 info8 v1 _ [] (head6 k body.length) rfl rfl (HO1.keep (hal1 _)) (rd_new (head6 k body.length) rfl rfl hHB.out (by decide)) (al1 HB1 _) (Nat.le_trans HB1.size (size_al _ _)) (by simp [head6]) ?_); intro v2 w2 HO2 HB2 hg2 hat2; rw [List.nil_append] at HO2)
  have hh6 : (head6 k body.length).length = 6 := rfl
  have hcs := HB2
  obtain ⟨A2, c2, rfl, _, _, _, _⟩ := HO2.rd.form
  have HL6 := hd_ hh6
  rw [hh6] at HO2 ⊢
  clear hh6 hcs
  rw [← HHE.out] at HO2 HL6
  have hr2 := crc_Sum_one _ _ w2 HO2.rd rfl
  have hal2 := al1 (Below.refl w2.heap.size w2)
  clear HO1 HB1 hg1 hat1 hg2 hat2 r0 hHB
  go_upto_region 9 with (first
    | (go_at_call 46; refine (crc_Sum_any _ _ _ hr2).mono ?_; rintro e w3 ⟨rfl, hb3⟩; rw [List.flatten_singleton]; have K3 := bel_trans (hal2 _) hb3)
    | (go_at_call 45; refine (frame_laid_any W0 W0.heap.size _ H _ _ (HO2.keep K3) (bel_trans HB2 K3) (bel_trans HB2 K3).size (by rw [HL6.out]; decide)).mono ?_; rintro e w4 ⟨v4, rfl, HO4, HB4⟩))
  have HO4 : Own w4 W0.heap.size 5 v4 (sealB H) := HO4
  have HSL : Hid ((sealB H).length = 10) := by
    have h4 : (B4 (sumW H)).length = 4 := rfl
    unfold sealB
    exact hd_ (by rw [List.length_append, HL6.out, h4])
  clear hal2 hb3 K3 hr2
  have r1 := cell_keep HB4 q1
  go_upto_region 10 with (at_builtin; (refine app_bytes (w0 := W0) W0.heap.size rfl _ _ 24 5 rfl Try.underlying24 info8 v4 _ (sealB H) body rfl rfl HO4 (hR0.keep HB4) HB4 HB4.size (by rw [HSL.out]; omega) ?_); intro v5 w5 HO5 HB5 hg5 hat5)
  have HT : Hid ((sealB H ++ body).length + 4 ≤ 140737488355328) := hd_ (by rw [List.length_append, HSL.out]; omega)
  rw [← HTE.out] at HO5 HT
  obtain ⟨A5, c5, rfl, _, _, _, _⟩ := HO5.rd.form
  have hr5 := crc_Sum_one _ _ w5 HO5.rd rfl
  have hal5 := al1 (Below.refl w5.heap.size w5)
  go_wp2_with (first
    | (go_at_call 46; refine (crc_Sum_any _ _ _ hr5).mono ?_; rintro e w6 ⟨rfl, hb6⟩; rw [List.flatten_singleton]; have K6 := bel_trans (hal5 _) hb6)
    | (go_at_call 45; refine (frame_laid_any W0 W0.heap.size _ T _ _ (HO5.keep K6) (bel_trans HB5 K6) (bel_trans HB5 K6).size HT.out).mono ?_; rintro e w7 ⟨v7, rfl, HO7, HB7⟩))
  go_ret2
  exact ⟨_, rfl, own_base (by rw [hE.out]; exact HO7) hB.size, bel_trans hB HB7⟩
end Go.Proofs.Ytilmmohkdgmhnaa