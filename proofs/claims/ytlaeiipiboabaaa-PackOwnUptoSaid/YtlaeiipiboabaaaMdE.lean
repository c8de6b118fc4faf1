/- The law's function 'write', with a writer that is nil. -/
import Derived.Test.YtlaeiipiboabaaaMdC
import Derived.Test.YtlaeiipiboabaaaMem10
namespace Go.Proofs.Ytlaeiipiboabaaa
open Go.RowKit
set_option maxRecDepth 100000
set_option linter.unusedVariables false
/-- the cells of a call of a script -/
def opC (call V n most : Int) (S : ByteArray) (F : Bool) (ds : List Int) (k u : ByteArray) (m : Int) : Array Value := #[.int .i64 call, .int .u64 V, .int .i64 n, .int .i64 most, .string S, .bool F] ++ (u8A ds ++ rowC k u m)
theorem opC_size (call V n most : Int) (S : ByteArray) (F : Bool) (ds : List Int) (hd : ds.length = 32) (k u : ByteArray) (m : Int) : (opC call V n most S F ds k u m).size = 41 := by
  unfold opC rowC
  simp [u8A_size, hd]
theorem opC_ds (call V n most : Int) (S : ByteArray) (F : Bool) (ds : List Int) (k u : ByteArray) (m : Int) (j : Nat) (hj : j < (u8A ds).size) : (opC call V n most S F ds k u m)[6 + j]? = (u8A ds)[j]? := by
  unfold opC
  rw [Array.getElem?_append_right (by simp)]
  simp only [List.size_toArray, List.length_cons, List.length_nil]
  rw [show 6 + j - (0 + 1 + 1 + 1 + 1 + 1 + 1) = j by omega, Array.getElem?_append_left hj]
theorem opC_lo (call V n most : Int) (S : ByteArray) (F : Bool) (ds : List Int) (k u : ByteArray) (m : Int) (j : Nat) (hj : j < 6) : (opC call V n most S F ds k u m)[j]? = (#[.int .i64 call, .int .u64 V, .int .i64 n, .int .i64 most, .string S, .bool F] : Array Value)[j]? := by
  unfold opC
  rw [Array.getElem?_append_left hj]
theorem opC_row (call V n most : Int) (S : ByteArray) (F : Bool) (ds : List Int) (hd : ds.length = 32) (k u : ByteArray) (m : Int) (j : Nat) (hj : j < (rowC k u m).size) : (opC call V n most S F ds k u m)[38 + j]? = (rowC k u m)[j]? := by
  unfold opC
  rw [Array.getElem?_append_right (by simp; omega)]
  simp only [List.size_toArray, List.length_cons, List.length_nil]
  rw [show 38 + j - (0 + 1 + 1 + 1 + 1 + 1 + 1) = 32 + j by omega, Array.getElem?_append_right (by rw [u8A_size, hd]; omega), u8A_size, hd, Nat.add_sub_cancel_left]
/-- what one call of a script makes of a writer -/
def wStep (s : WS) (call V n most : Int) (S : ByteArray) (F : Bool) (ds : List Int) (k u : ByteArray) (m : Int) : WS :=
  if call = 0 then wUint s V else if call = 1 then wInt s n most else if call = 2 then wText s (byL S) most else if call = 3 then wFlag s F else if call = 4 then wLay s ds else if call = 5 then wRow s (byL k) (byL u) m else if call = 6 then wFail s n else s
set_option maxHeartbeats 2000000 in
theorem Z_write (g : Nat) (v : Value) (s : WS) (call n most m : Int) (V : Nat) (S k u : ByteArray) (F : Bool) (ds : List Int) (w : World) (h : Xr w g v s) (hV : V < 18446744073709551616) (hn : n ≤ 9223372036854775807) (hd : ds.length = 32) (hb : IsBytes ds) (hm0 : -9223372036854775808 ≤ m) (hm : m ≤ 9223372036854775807) (hl : s.2.length + S.size + k.size + u.size ≤ 140737488270000) :
    Calls Try.prog 25 #[.pointer none, .pointer (some ⟨g, 0, none⟩), .agg (opC call V n most S F ds k u m)] w (XrRet w g v (wStep s call V n most S F ds k u m)) := by
  have hbx := Box.new w (opC call V n most S F ds k u m) 53
  have hB0 := al1 (Below.refl w.heap.size w) (.cells (opC call V n most S F ds k u m) 53)
  have q0 := hbx.cell 0 (v := .int .i64 call) (opC_lo call V n most S F ds k u m 0 (by decide))
  have q1 := hbx.cell 1 (v := .int .u64 (V : Int)) (opC_lo call V n most S F ds k u m 1 (by decide))
  have q2 := hbx.cell 2 (v := .int .i64 n) (opC_lo call V n most S F ds k u m 2 (by decide))
  have q3 := hbx.cell 3 (v := .int .i64 most) (opC_lo call V n most S F ds k u m 3 (by decide))
  have q4 := hbx.cell 4 (v := .string S) (opC_lo call V n most S F ds k u m 4 (by decide))
  have q5 := hbx.cell 5 (v := .bool F) (opC_lo call V n most S F ds k u m 5 (by decide))
  have hp6 := hd_ (opC_ds call V n most S F ds k u m)
  have hp38 := hd_ (opC_row call V n most S F ds hd k u m)
  have hbxH := hd_ hbx
  have hX := hd_ (h.keep hB0)
  have HB0 := hd_ hB0
  have hlH := hd_ hl
  have hdH := hd_ hd
  have hiA : (Try.prog.info? 49).map (·.size) = some (u8A ds).size := by rw [u8A_size, hd]; exact infoA32
  have hiR : (Try.prog.info? 51).map (·.size) = some (rowC k u m).size := infoRw
  have hbH := hd_ (And.intro hb (And.intro hm0 (And.intro hm (And.intro hV hn))))
  clear hbx h hB0 hl hd hb hm0 hm hn hV
  generalize hC : opC call V n most S F ds k u m = C at *
  clear hC
  by_cases h0 : call = 0
  · subst h0
    have hS : wStep s 0 V n most S F ds k u m = wUint s V := rfl
    rw [hS]
    clear hS
    go_enter Try.func25, Try.ntmps25
    go_wp2_with (first
      | (go_at_call 22; (with_reducible refine (Z_Uint V hbH.out.2.2.2.1 _).mono ?_); rintro e w1 ⟨rfl, HB1⟩; have p1 := cell_keep HB1 q1; have p2 := cell_keep HB1 q2; have p3 := cell_keep HB1 q3; have p4 := cell_keep HB1 q4; have p5 := cell_keep HB1 q5; have hbx1 := hbxH.out.keep HB1)
      | (go_at_call 24; (with_reducible refine (X_Uint_any g v s V _ (hX.out.keep HB1) hbH.out.2.2.2.1 (by have := hlH.out; omega)).mono ?_); rintro e w2 ⟨rfl, HP2⟩))
    go_end0
    exact ⟨rfl, HP2.after (bel_trans HB0.out HB1)⟩
  by_cases h1 : call = 1
  · subst h1
    have hS : wStep s 1 V n most S F ds k u m = wInt s n most := rfl
    rw [hS]
    clear hS
    go_enter Try.func25, Try.ntmps25
    go_wp2_with (first
      | (go_at_call 59; (with_reducible refine (Z_Int n most _).mono ?_); rintro e w1 ⟨rfl, HB1⟩; have p1 := cell_keep HB1 q1; have p2 := cell_keep HB1 q2; have p3 := cell_keep HB1 q3; have p4 := cell_keep HB1 q4; have p5 := cell_keep HB1 q5; have hbx1 := hbxH.out.keep HB1)
      | (go_at_call 60; (with_reducible refine (X_Int_any g v s n most _ (hX.out.keep HB1) (by have := hbH.out.2.2.2.2; omega) (by have := hlH.out; omega)).mono ?_); rintro e w2 ⟨rfl, HP2⟩))
    go_end0
    exact ⟨rfl, HP2.after (bel_trans HB0.out HB1)⟩
  by_cases h2 : call = 2
  · subst h2
    have hS : wStep s 2 V n most S F ds k u m = wText s (byL S) most := rfl
    rw [hS]
    clear hS
    go_enter Try.func25, Try.ntmps25
    go_wp2_with (first
      | (go_at_call 39; (with_reducible refine (Z_Text S most _).mono ?_); rintro e w1 ⟨rfl, HB1⟩; have p1 := cell_keep HB1 q1; have p2 := cell_keep HB1 q2; have p3 := cell_keep HB1 q3; have p4 := cell_keep HB1 q4; have p5 := cell_keep HB1 q5; have hbx1 := hbxH.out.keep HB1)
      | (go_at_call 53; (with_reducible refine (X_Text_any g v s S most _ (hX.out.keep HB1) (by have := hlH.out; omega)).mono ?_); rintro e w2 ⟨rfl, HP2⟩))
    go_end0
    exact ⟨rfl, HP2.after (bel_trans HB0.out HB1)⟩
  by_cases h3 : call = 3
  · subst h3
    have hS : wStep s 3 V n most S F ds k u m = wFlag s F := rfl
    rw [hS]
    clear hS
    go_enter Try.func25, Try.ntmps25
    go_wp2_with (first
      | (go_at_call 41; (with_reducible refine (Z_Flag F _).mono ?_); rintro e w1 ⟨rfl, HB1⟩; have p1 := cell_keep HB1 q1; have p2 := cell_keep HB1 q2; have p3 := cell_keep HB1 q3; have p4 := cell_keep HB1 q4; have p5 := cell_keep HB1 q5; have hbx1 := hbxH.out.keep HB1)
      | (go_at_call 61; (with_reducible refine (X_Flag_any g v s F _ (hX.out.keep HB1) (by have := hlH.out; omega)).mono ?_); rintro e w2 ⟨rfl, HP2⟩))
    go_end0
    exact ⟨rfl, HP2.after (bel_trans HB0.out HB1)⟩
  by_cases h4 : call = 4
  · subst h4
    have hS : wStep s 4 V n most S F ds k u m = wLay s ds := rfl
    rw [hS]
    clear hS
    go_enter Try.func25, Try.ntmps25
    go_wp2_with (first
      | (refine load_at rfl 49 _ rfl w.heap.size 6 (u8A ds) _ rfl (hbxH.out.part 6 hp6.out) Try.underlying49 rfl hiA ?_)
      | (refine load_at rfl 49 _ rfl w.heap.size 6 (u8A ds) _ rfl (hbx1.part 6 hp6.out) Try.underlying49 rfl hiA ?_)
      | (go_at_call 62; (with_reducible refine (Z_Digest (u8A ds) (by rw [u8A_size, hdH.out]) _).mono ?_); rintro e w1 ⟨rfl, HB1⟩; have p1 := cell_keep HB1 q1; have p2 := cell_keep HB1 q2; have p3 := cell_keep HB1 q3; have p4 := cell_keep HB1 q4; have p5 := cell_keep HB1 q5; have hbx1 := hbxH.out.keep HB1)
      | (go_at_call 63; (with_reducible refine (X_Digest_any g v s ds hdH.out hbH.out.1 _ (hX.out.keep HB1) (by have := hlH.out; omega)).mono ?_); rintro e w2 ⟨rfl, HP2⟩))
    go_end0
    exact ⟨rfl, HP2.after (bel_trans HB0.out HB1)⟩
  by_cases h5 : call = 5
  · subst h5
    have hS : wStep s 5 V n most S F ds k u m = wRow s (byL k) (byL u) m := rfl
    rw [hS]
    clear hS
    go_enter Try.func25, Try.ntmps25
    go_wp2_with (first
      | (refine load_at rfl 51 _ rfl w.heap.size 38 (rowC k u m) _ rfl (hbxH.out.part 38 hp38.out) Try.underlying51 rfl hiR ?_)
      | (refine load_at rfl 51 _ rfl w.heap.size 38 (rowC k u m) _ rfl (hbx1.part 38 hp38.out) Try.underlying51 rfl hiR ?_)
      | (go_at_call 43; (with_reducible refine (Z_Row (rowC k u m) _).mono ?_); rintro e w1 ⟨rfl, HB1⟩; have p1 := cell_keep HB1 q1; have p2 := cell_keep HB1 q2; have p3 := cell_keep HB1 q3; have p4 := cell_keep HB1 q4; have p5 := cell_keep HB1 q5; have hbx1 := hbxH.out.keep HB1)
      | (go_at_call 64; (with_reducible refine (X_Row_any g v s k u m _ (hX.out.keep HB1) hbH.out.2.1 hbH.out.2.2.1 (by have := hlH.out; omega)).mono ?_); rintro e w2 ⟨rfl, HP2⟩))
    go_end0
    exact ⟨rfl, HP2.after (bel_trans HB0.out HB1)⟩
  by_cases h6 : call = 6
  · subst h6
    have hS : wStep s 6 V n most S F ds k u m = wFail s n := rfl
    rw [hS]
    clear hS
    go_enter Try.func25, Try.ntmps25
    go_wp2_with (first
      | (go_at_call 65; (with_reducible refine (Z_Fail n _).mono ?_); rintro e w1 ⟨rfl, HB1⟩; have p1 := cell_keep HB1 q1; have p2 := cell_keep HB1 q2; have p3 := cell_keep HB1 q3; have p4 := cell_keep HB1 q4; have p5 := cell_keep HB1 q5; have hbx1 := hbxH.out.keep HB1)
      | (go_at_call 66; (with_reducible refine (X_Fail_any g v s n _ (hX.out.keep HB1)).mono ?_); rintro e w2 ⟨rfl, HP2⟩))
    go_end0
    exact ⟨rfl, HP2.after (bel_trans HB0.out HB1)⟩
  have b0 : (call == 0) = false := beq_false_of_ne h0
  have b1 : (call == 1) = false := beq_false_of_ne h1
  have b2 : (call == 2) = false := beq_false_of_ne h2
  have b3 : (call == 3) = false := beq_false_of_ne h3
  have b4 : (call == 4) = false := beq_false_of_ne h4
  have b5 : (call == 5) = false := beq_false_of_ne h5
  have b6 : (call == 6) = false := beq_false_of_ne h6
  have hS : wStep s call V n most S F ds k u m = s := by unfold wStep; rw [if_neg h0, if_neg h1, if_neg h2, if_neg h3, if_neg h4, if_neg h5, if_neg h6]
  rw [hS]
  clear hS
  go_enter Try.func25, Try.ntmps25
  go_wp2
  go_end0
  exact ⟨rfl, XrPost.after HB0.out hX.out.same⟩
end Go.Proofs.Ytlaeiipiboabaaa
