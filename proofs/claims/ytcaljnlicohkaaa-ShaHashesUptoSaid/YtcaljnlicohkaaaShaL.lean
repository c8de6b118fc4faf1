/- SHA-256: a state's words as bytes; a new hasher. -/
import Derived.Test.YtcaljnlicohkaaaShaJ
import Derived.Test.YtcaljnlicohkaaaShaB
namespace Go.Proofs.Ytcaljnlicohkaaa
open Go.RowKit
set_option maxRecDepth 100000
set_option linter.unusedVariables false
def by0 (x : W32) : Int := I x / 16777216
def by1 (x : W32) : Int := I x / 65536 % 256
def by2 (x : W32) : Int := I x / 256 % 256
def by3 (x : W32) : Int := I x % 256
/-- a digest, as far as it is laid -/
def layS (s : List W32) : Nat → List Int
  | 0 => List.replicate 32 0
  | k + 1 => ((((layS s k).set (4 * k) (by0 (s.getD k 0#32))).set (4 * k + 1) (by1 (s.getD k 0#32))).set (4 * k + 2) (by2 (s.getD k 0#32))).set (4 * k + 3) (by3 (s.getD k 0#32))
theorem layS_length (s : List W32) : ∀ k, (layS s k).length = 32
  | 0 => by simp [layS]
  | k + 1 => by simp only [layS, List.length_set]; exact layS_length s k
theorem layS_bytes (s : List W32) : ∀ k, IsBytes (layS s k) := by
  have hset : ∀ (l : List Int) (i : Nat) (x : Int), IsBytes l → 0 ≤ x → x < 256 → IsBytes (l.set i x) := fun l i x hl h0 h1 b hb => by
    rcases List.mem_or_eq_of_mem_set hb with h | h
    · exact hl b h
    · subst h; exact ⟨h0, h1⟩
  intro k
  induction k with
  | zero => intro b hb; simp only [layS, List.mem_replicate] at hb; omega
  | succ k ih =>
    simp only [layS]
    exact hset _ _ _ (hset _ _ _ (hset _ _ _ (hset _ _ _ ih (by have := I_lo (s.getD k 0#32); unfold by0; omega) (by have := I_hi (s.getD k 0#32); unfold by0; omega)) (by unfold by1; omega) (by unfold by1; omega)) (by unfold by2; omega) (by unfold by2; omega)) (by unfold by3; omega) (by unfold by3; omega)
theorem infoW1 : (Try.prog.info? 45).map (fun i => (i.zero, i.size, i.bytes)) = some (some (.int .u32 0), 1, 4) := by kernel_rfl
theorem idx_words (W : World) (s : List W32) (hs : s.length = 8) (j : Nat) (hj : j < 8) :
    Sem.run Try.prog (Instr.index 47 (.agg (wA s)) (.int .i64 (j : Int))) W = .ok (.int .u32 (I (s.getD j 0#32))) W := by
  have hc : Try.prog.cellsOf 45 = 1 := by kernel_rfl
  have hcond : 0 ≤ (j : Int) ∧ (j : Int) < ((8 : Nat) : Int) := by omega
  have hw : wA s = ((s.map I).map (Value.int .u32)).toArray := by unfold wA; rw [List.map_map]; rfl
  have e1 : Sem.run Try.prog (Instr.index 47 (.agg (wA s)) (.int .i64 (j : Int))) W = Sem.run Try.prog (part 45 (wA s) (j * 1)) W := by
    unfold Instr.index
    simp only [Sem.run_bind, asIntOf, Sem.run_pure, Result.andThen_ok, run_underlying Try.underlying47, hcond, and_self, if_true, run_size infoW1, Int.toNat_natCast]
  have := part_int Try.underlying45 hc W (s.map I) j (by rw [List.length_map, hs]; exact hj)
  rw [hc] at this
  rw [e1, hw, this, List.getD_eq_getElem?_getD, List.getElem?_map, List.getD_eq_getElem?_getD, List.getElem?_eq_getElem (by omega)]
  rfl
def zd32 : List Int := List.replicate 32 0
theorem zd32_lit : (#[.int .u8 0, .int .u8 0, .int .u8 0, .int .u8 0, .int .u8 0, .int .u8 0, .int .u8 0, .int .u8 0, .int .u8 0, .int .u8 0, .int .u8 0, .int .u8 0, .int .u8 0, .int .u8 0, .int .u8 0, .int .u8 0, .int .u8 0, .int .u8 0, .int .u8 0, .int .u8 0, .int .u8 0, .int .u8 0, .int .u8 0, .int .u8 0, .int .u8 0, .int .u8 0, .int .u8 0, .int .u8 0, .int .u8 0, .int .u8 0, .int .u8 0, .int .u8 0] : Array Value) = u8A zd32 := by kernel_rfl
set_option maxHeartbeats 2000000 in
theorem sha_laid_any (s : List W32) (hs : s.length = 8) (w : World) :
    Calls Try.prog 37 #[.agg (wA s)] w fun e w' => e = .returned (.agg (u8A (layS s 8))) ∧ Below w.heap.size w w' := by
  have hbx := Box.new w (wA s) 47
  have hsz : (wA s).size = 8 := by rw [wA_size, hs]
  have hiw : (Try.prog.info? 47).map (·.size) = some (wA s).size := by rw [hsz]; exact infoW
  have hix : Hid (∀ j : Nat, j < 8 → ∀ W, Sem.run Try.prog (Instr.index 47 (.agg (wA s)) (.int .i64 (j : Int))) W = .ok (.int .u32 (I (s.getD j 0#32))) W) := hd_ fun j hj W => idx_words W s hs j hj
  have hB0 := al1 (Below.refl w.heap.size w) (.cells (wA s) 47)
  have hb2 := Box.new (w.alloc (.cells (wA s) 47)) (u8A zd32) 24
  have hb3 := Box.new ((w.alloc (.cells (wA s) 47)).alloc (.cells (u8A zd32) 24)) (u8A zd32) 24
  have hb2' := hb2.keep (al1 (Below.refl _ _) (.cells (u8A zd32) 24))
  have hbx' := hbx.keep (al1 (al1 (Below.refl _ _) (.cells (u8A zd32) 24)) (.cells (u8A zd32) 24))
  have hB2 := al1 (al1 hB0 (.cells (u8A zd32) 24)) (.cells (u8A zd32) 24)
  simp only [World.size_alloc] at hb2' hb3
  clear hbx hb2 hB0
  generalize wA s = cs at *
  go_enter Try.func37, Try.ntmps37
  go_upto_region 2 with fail
  simp only [zd32_lit]
  generalize ((w.alloc (.cells cs 47)).alloc (.cells (u8A zd32) 24)).alloc (.cells (u8A zd32) 24) = W0 at *
  have hg : Hid (w.heap.size ≤ w.heap.size + 1 ∧ w.heap.size ≤ w.heap.size + 1 + 1 ∧ w.heap.size + 1 ≠ w.heap.size + 1 + 1) := hd_ (by omega)
  generalize w.heap.size + 1 + 1 = g3 at *
  generalize w.heap.size + 1 = g2 at *
  have hz : u8A zd32 = u8A (layS s 0) := rfl
  rw [hz] at hb3
  go_wp2_with (refine load_box rfl 47 _ rfl _ 47 cs _ rfl hbx' Try.underlying47 rfl hiw ?_)
  clear hbx' hz
  go_loopw [7] (fun vi wr => ∃ k : Nat, k ≤ 8 ∧ vi = .int .i64 k ∧ Box wr g2 24 (u8A zd32) ∧ Box wr g3 24 (u8A (layS s k)) ∧ Below w.heap.size w wr) (fun i _ => 8 - (intOf i).toNat)
  case atStart => exact ⟨0, Nat.zero_le _, rfl, hb2', hb3, hB2⟩
  case round =>
    clear hb2' hb3 hB2
    obtain ⟨k, hk, rfl, hb2, hb3, hbel⟩ := hrel
    by_cases hlt : k < 8
    · have hi := hix.out k hlt
      have hn : layS s (k + 1) = ((((layS s k).set (4 * k) (by0 (s.getD k 0#32))).set (4 * k + 1) (by1 (s.getD k 0#32))).set (4 * k + 2) (by2 (s.getD k 0#32))).set (4 * k + 3) (by3 (s.getD k 0#32)) := rfl
      unfold by0 by1 by2 by3 at hn
      have x0 := I_lo (s.getD k 0#32)
      have x1 := I_hi (s.getD k 0#32)
      generalize I (s.getD k 0#32) = x at *
      have hw0 : IntKind.i64.wrap (4 * (k : Int)) = ((4 * k : Nat) : Int) := by rw [IntKind.wrap_i64]; omega
      have hw1 : IntKind.i64.wrap (((4 * k : Nat) : Int) + 1) = ((4 * k + 1 : Nat) : Int) := by rw [IntKind.wrap_i64]; omega
      have hw2 : IntKind.i64.wrap (((4 * k : Nat) : Int) + 2) = ((4 * k + 2 : Nat) : Int) := by rw [IntKind.wrap_i64]; omega
      have hw3 : IntKind.i64.wrap (((4 * k : Nat) : Int) + 3) = ((4 * k + 3 : Nat) : Int) := by rw [IntKind.wrap_i64]; omega
      have i0 : ((4 * k : Nat) : Int) < 32 := by omega
      have i1 : ((4 * k + 1 : Nat) : Int) < 32 := by omega
      have i2 : ((4 * k + 2 : Nat) : Int) < 32 := by omega
      have i3 : ((4 * k + 3 : Nat) : Int) < 32 := by omega
      have hkI : (k : Int) < 8 := by omega
      have hN := hd_ hn
      clear hn
      have c0 := hb3.cell (4 * k) (u8A_cell (layS s k) (4 * k) (by rw [layS_length]; omega))
      have c1 := hb3.cell (4 * k + 1) (u8A_cell (layS s k) (4 * k + 1) (by rw [layS_length]; omega))
      have c2 := hb3.cell (4 * k + 2) (u8A_cell (layS s k) (4 * k + 2) (by rw [layS_length]; omega))
      have c3 := hb3.cell (4 * k + 3) (u8A_cell (layS s k) (4 * k + 3) (by rw [layS_length]; omega))
      have f0 := hb3.frozen
      obtain ⟨p0, q0⟩ := hb3.put (4 * k) (.int .u8 (x / 16777216))
      obtain ⟨p1, q1⟩ := p0.put (4 * k + 1) (.int .u8 (x / 65536 % 256))
      obtain ⟨p2, q2⟩ := p1.put (4 * k + 2) (.int .u8 (x / 256 % 256))
      obtain ⟨p3, q3⟩ := p2.put (4 * k + 3) (.int .u8 (x % 256))
      simp only [u8A_set] at p3
      rw [← hN.out] at p3
      have HP3 := hd_ p3
      have HQ := hd_ (And.intro q0 (And.intro q1 (And.intro q2 q3)))
      have HB := hd_ (And.intro hb2 hbel)
      clear p0 p1 p2 p3 q0 q1 q2 q3 hb2 hb3 hbel
      generalize (layS s k).getD (4 * k) 0 = o0 at *
      generalize (layS s k).getD (4 * k + 1) 0 = o1 at *
      generalize (layS s k).getD (4 * k + 2) 0 = o2 at *
      generalize (layS s k).getD (4 * k + 3) 0 = o3 at *
      have n01 : ¬ (4 * k = 4 * k + 1) := by omega
      go_wp2
      obtain ⟨q0, q1, q2, q3⟩ := HQ.out
      have ne : some g2 ≠ some g3 := by have := hg.out; intro h; injection h with h; omega
      have e0 := below_row HB.out.2 q0 hg.out.2.1 HB.out.2.size
      have e01 := below_row e0 q1 hg.out.2.1 e0.size
      have e02 := below_row e01 q2 hg.out.2.1 e01.size
      have e1 := below_row e02 q3 hg.out.2.1 e02.size
      exact ⟨⟨k + 1, by omega, by go_num, (((HB.out.1.grown q0 ne).grown q1 ne).grown q2 ne).grown q3 ne, HP3.out, e1⟩, by simp [intOf]; omega⟩
    · obtain rfl : k = 8 := by omega
      have hi8 : (Try.prog.info? 24).map (·.size) = some (u8A (layS s 8)).size := by rw [u8A_size, layS_length]; kernel_rfl
      go_wp2_with (first
        | (refine load_box rfl 24 _ rfl g3 24 (u8A (layS s 8)) _ rfl hb3 Try.underlying24 rfl hi8 ?_)
        | (refine store_box rfl 24 _ _ rfl g2 24 _ (u8A (layS s 8)) rfl rfl hb2 hi8 (by rw [u8A_size, u8A_size, layS_length]; rfl) (u8A_one _) ?_; intro w9 hb9 hg9))
      refine bodyPost_ret (results_cell1 rfl _ _ _ rfl (run_load_box _ _ _ _ _ hb9 Try.underlying24 rfl hi8)) rfl ⟨rfl, below_row hbel hg9 hg.out.1 hbel.size⟩
end Go.Proofs.Ytcaljnlicohkaaa
