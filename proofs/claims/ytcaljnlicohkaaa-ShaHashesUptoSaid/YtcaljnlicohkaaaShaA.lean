/- A digest's text: what Print and Parse compute. -/
import Derived.Test.YtcaljnlicohkaaaProg
import Derived.Test.YtcaljnlicohkaaaCrcD
import Derived.Test.YtcaljnlicohkaaaMem6
import Derived.Test.YtcaljnlicohkaaaOpen2
import Derived.Deep.QuietTactic
import Derived.Deep.RegionWith
namespace Go.Proofs.Ytcaljnlicohkaaa
open Go.RowKit
set_option maxRecDepth 100000
set_option linter.unusedVariables false
theorem info8 : (Try.prog.info? 5).map (fun i => (i.zero, i.size, i.bytes)) = some (some (.int .u8 0), 1, 1) := by kernel_rfl
def hexN (q : Int) : Int := if q < 10 then 48 + q else 87 + q
def hexL : List Int → List Int
  | [] => []
  | x :: r => hexN (x / 16) :: hexN (x % 16) :: hexL r
theorem hexL_append (l m : List Int) : hexL (l ++ m) = hexL l ++ hexL m := by
  induction l with
  | nil => rfl
  | cons x r ih => simp [hexL, ih]
theorem hexL_length (l : List Int) : (hexL l).length = 2 * l.length := by
  induction l with
  | nil => rfl
  | cons x r ih => simp [hexL, ih]; omega
def hexS : ByteArray := ⟨#[48, 49, 50, 51, 52, 53, 54, 55, 56, 57, 97, 98, 99, 100, 101, 102]⟩
theorem hexN_at (W : World) (k : IntKind) (q : Int) (h0 : 0 ≤ q) (h1 : q < 16) : Sem.run Try.prog (Instr.index 9 (.string ⟨#[48, 49, 50, 51, 52, 53, 54, 55, 56, 57, 97, 98, 99, 100, 101, 102]⟩) (.int k q)) W = .ok (.int .u8 (hexN q)) W := by
  obtain ⟨n, rfl⟩ := Int.eq_ofNat_of_zero_le h0
  have hn : n < 16 := by omega
  rw [run_index_string (P := Try.prog) W 9 _ k (n : Int) Try.underlying9]
  have : n = 0 ∨ n = 1 ∨ n = 2 ∨ n = 3 ∨ n = 4 ∨ n = 5 ∨ n = 6 ∨ n = 7 ∨ n = 8 ∨ n = 9 ∨ n = 10 ∨ n = 11 ∨ n = 12 ∨ n = 13 ∨ n = 14 ∨ n = 15 := by omega
  rcases this with rfl | rfl | rfl | rfl | rfl | rfl | rfl | rfl | rfl | rfl | rfl | rfl | rfl | rfl | rfl | rfl <;> rfl
theorem hexN_range {q : Int} (h0 : 0 ≤ q) (h1 : q < 16) : 48 ≤ hexN q ∧ hexN q < 103 := by unfold hexN; split <;> omega
theorem hexL_bytes {l : List Int} (h : IsBytes l) : IsBytes (hexL l) := by
  induction l with
  | nil => exact fun b hb => absurd hb (by simp [hexL])
  | cons x r ih =>
    have hx := h x (by simp)
    intro b hb
    simp only [hexL, List.mem_cons] at hb
    rcases hb with rfl | rfl | hb
    · have := hexN_range (q := x / 16) (by omega) (by omega); omega
    · have := hexN_range (q := x % 16) (by omega) (by omega); omega
    · exact ih (fun b hb => h b (by simp [hb])) b hb
theorem idx_digest (W : World) (ds : List Int) (hd : ds.length = 32) (k : IntKind) (j : Nat) (hj : j < 32) : Sem.run Try.prog (Instr.index 24 (.agg (ds.map (Value.int .u8)).toArray) (.int k (j : Int))) W = .ok (.int .u8 (ds.getD j 0)) W := by
  have hc : Try.prog.cellsOf 5 = 1 := by kernel_rfl
  have hcond : 0 ≤ (j : Int) ∧ (j : Int) < ((32 : Nat) : Int) := by omega
  have e1 : Sem.run Try.prog (Instr.index 24 (.agg (ds.map (Value.int .u8)).toArray) (.int k (j : Int))) W = Sem.run Try.prog (part 5 (ds.map (Value.int .u8)).toArray (j * 1)) W := by
    unfold Instr.index
    simp only [Sem.run_bind, asIntOf, Sem.run_pure, Result.andThen_ok, run_underlying Try.underlying24, hcond, and_self, if_true, run_size info8, Int.toNat_natCast]
  have := part_int Try.underlying5 hc W ds j (by omega)
  rw [hc] at this
  rw [e1]
  exact this
def digN (c : Int) : Int := if 48 ≤ c ∧ c ≤ 57 then c - 48 else if 97 ≤ c ∧ c ≤ 102 then c - 87 else -1
theorem sha_digit_any (c : Int) (h0 : 0 ≤ c) (h1 : c < 256) (w : World) : Calls Try.prog 34 #[.int .u8 c] w fun e w' => e = .returned (.int .i64 (digN c)) ∧ w = w' := by
  by_cases ha : 48 ≤ c
  · by_cases hb : c ≤ 57
    · have hd : digN c = c - 48 := by unfold digN; rw [if_pos ⟨ha, hb⟩]
      rw [hd]
      clear hd
      go_enter Try.func34, Try.ntmps34
      go_wp2
      go_ret
      exact ⟨rfl, rfl⟩
    · by_cases he : 97 ≤ c
      · by_cases hf : c ≤ 102
        · have hd : digN c = c - 97 + 10 := by unfold digN; rw [if_neg (by omega), if_pos ⟨he, hf⟩]; omega
          rw [hd]
          clear hd
          go_enter Try.func34, Try.ntmps34
          go_wp2
          go_ret
          exact ⟨rfl, rfl⟩
        · have hd : digN c = -1 := by unfold digN; rw [if_neg (by omega), if_neg (by omega)]
          rw [hd]
          clear hd
          go_enter Try.func34, Try.ntmps34
          go_wp2
          go_ret
          exact ⟨rfl, rfl⟩
      · have hd : digN c = -1 := by unfold digN; rw [if_neg (by omega), if_neg (by omega)]
        rw [hd]
        clear hd
        go_enter Try.func34, Try.ntmps34
        go_wp2
        go_ret
        exact ⟨rfl, rfl⟩
  · have hd : digN c = -1 := by unfold digN; rw [if_neg (by omega), if_neg (by omega)]
    rw [hd]
    clear hd
    go_enter Try.func34, Try.ntmps34
    go_wp2
    go_ret
    exact ⟨rfl, rfl⟩
theorem hexL_take {ds : List Int} {k : Nat} (hk : k < ds.length) : hexL (ds.take (k + 1)) = hexL (ds.take k) ++ [hexN (ds.getD k 0 / 16), hexN (ds.getD k 0 % 16)] := by
  rw [List.take_add_one, List.getElem?_eq_getElem hk, hexL_append, List.getD_eq_getElem?_getD, List.getElem?_eq_getElem hk]
  rfl
set_option maxHeartbeats 1000000 in
theorem sha_Print_any (ds : List Int) (hd : ds.length = 32) (hb : IsBytes ds) (w : World) : Calls Try.prog 12 #[.agg (ds.map (Value.int .u8)).toArray] w fun e w' => e = .returned (.string (strOfNums (hexL ds))) ∧ Below w.heap.size w w' := by
  have hix : ∀ (W : World) (j : Nat), j < 32 → Sem.run Try.prog (Instr.index 24 (.agg (ds.map (Value.int .u8)).toArray) (.int .i64 (j : Int))) W = .ok (.int .u8 (ds.getD j 0)) W := fun W j hj => idx_digest W ds hd .i64 j hj
  have hcz : ((ds.map (Value.int .u8)).toArray).size = 32 := by simp [hd]
  generalize (ds.map (Value.int .u8)).toArray = cs at *
  have hbx := Box.new w cs 24
  have hB0 := al1 (Below.refl w.heap.size w) (.cells cs 24)
  have hinfo : (Try.prog.info? 24).map (·.size) = some cs.size := by rw [hcz]; kernel_rfl
  have HIX := hd_ hix
  clear hix
  go_enter Try.func12, Try.ntmps12
  go_upto_region 2 with fail
  generalize w.alloc (.cells cs 24) = W0 at *
  have hnil : Own W0 W0.heap.size 5 (.slice none 0 0) (hexL (ds.take 0)) := own_nil8 _ _ _
  go_wp2_with (refine load_box rfl 24 _ rfl w.heap.size 24 cs _ rfl hbx Try.underlying24 rfl hinfo ?_)
  go_loopw [3, 7] (fun vb vi wr => ∃ k : Nat, k ≤ 32 ∧ vi = .int .i64 k ∧ Own wr W0.heap.size 5 vb (hexL (ds.take k)) ∧ Below W0.heap.size W0 wr) (fun _ i _ => 32 - (intOf i).toNat)
  case atStart => exact ⟨0, Nat.zero_le _, rfl, hnil, Below.refl _ _⟩
  case round =>
    obtain ⟨k, hk, rfl, HO, hbel⟩ := hrel
    by_cases hlt : k < 32
    · have hi := fun W => HIX.out W k hlt
      have hE := hd_ (hexL_take (ds := ds) (k := k) (by omega))
      obtain ⟨p0, p1⟩ := byte_at hb (show k < ds.length by omega)
      generalize ds.getD k 0 = x at hi hE p0 p1
      have hq1 : ∀ W, Sem.run Try.prog (Instr.index 9 (.string ⟨#[48, 49, 50, 51, 52, 53, 54, 55, 56, 57, 97, 98, 99, 100, 101, 102]⟩) (.int .u8 (x / 16))) W = .ok (.int .u8 (hexN (x / 16))) W := fun W => hexN_at W _ _ (by omega) (by omega)
      have hq2 : ∀ W, Sem.run Try.prog (Instr.index 9 (.string ⟨#[48, 49, 50, 51, 52, 53, 54, 55, 56, 57, 97, 98, 99, 100, 101, 102]⟩) (.int .u8 (x % 16))) W = .ok (.int .u8 (hexN (x % 16))) W := fun W => hexN_at W _ _ (by omega) (by omega)
      have wr1 : IntKind.u8.wrap (x.tdiv 16) = x / 16 := by rw [Int.tdiv_eq_ediv_of_nonneg p0, IntKind.wrap_u8]; omega
      have wr2 : x.tmod 16 = x % 16 := Int.tmod_eq_emod_of_nonneg p0
      have h1 := hexN_range (q := x / 16) (by omega) (by omega)
      have h2 := hexN_range (q := x % 16) (by omega) (by omega)
      have hAB : IsBytes [hexN (x / 16), hexN (x % 16)] := by
        intro b hb
        simp only [List.mem_cons, List.not_mem_nil, or_false] at hb
        rcases hb with rfl | rfl <;> omega
      generalize hexN (x / 16) = A at *
      generalize hexN (x % 16) = B at *
      have HAB := hd_ hAB
      have hlen : (hexL (ds.take k)).length + [A, B].length ≤ 140737488355328 := by rw [hexL_length, List.length_take]; show 2 * min k ds.length + 2 ≤ _; omega
      have HL := hd_ hlen
      clear hlen hAB h1 h2
      have hR : Rd (wr.drew.alloc (.cells #[.int .u8 A, .int .u8 B] 5)) (.slice (some ⟨wr.drew.heap.size, 0, none⟩) 2 2) [A, B] := rd_new [A, B] rfl rfl HAB.out (by decide)
      have hO2 := HO.keep (al1 (Below.refl wr.heap.size wr).drew (.cells #[.int .u8 A, .int .u8 B] 5))
      have hB2 := bel_trans hbel (al1 (Below.refl wr.heap.size wr).drew (.cells #[.int .u8 A, .int .u8 B] 5))
      go_upto_region 5 with fail
      go_region_law (refine step_app_bytes (w0 := W0) W0.heap.size rfl _ _ 34 5 rfl Try.underlying34 info8 u3 _ (hexL (ds.take k)) [A, B] (by simp [Act.eval, Act.put]) (by simp [Act.eval, Act.put]) hO2 hR hB2 hB2.size HL.out ?_; intro v4 w4 HO4 HB4 hg4 hat4)
      all_goals
        go_wp2
        go_roundw
        case rel => exact ⟨k + 1, by omega, by go_num, by rw [hE.out]; exact HO4, HB4⟩
        case measure => (simp [intOf]; try omega)
    · obtain rfl : k = 32 := by omega
      rw [List.take_of_length_le (by omega)] at HO
      have hst := HO.rd.str (P := Try.prog) 34 5 9 Try.underlying34 Try.underlying5 Try.underlying9
      go_wp2
      go_ret
      exact ⟨rfl, bel_trans hB0 hbel⟩
end Go.Proofs.Ytcaljnlicohkaaa
