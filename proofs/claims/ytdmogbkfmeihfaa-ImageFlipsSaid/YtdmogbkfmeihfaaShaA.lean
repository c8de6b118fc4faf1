/- A digest's text: what Print and Parse compute. -/
import Derived.Test.YtdmogbkfmeihfaaProg
import Derived.Test.YtdmogbkfmeihfaaCrcD
import Derived.Test.YtdmogbkfmeihfaaMem6
import Derived.Test.YtdmogbkfmeihfaaOpen2
import Derived.Deep.QuietTactic
import Derived.Deep.RegionWith
namespace Go.Proofs.Ytdmogbkfmeihfaa
open Go.RowKit
set_option maxRecDepth 100000
set_option linter.unusedVariables false
theorem info8 : (Try.prog.info? 5).map (fun i => (i.zero, i.size, i.bytes)) = some (some (.int .u8 0), 1, 1) := by kernel_rfl
def hexN (q : Int) : Int := if q < 10 then 48 + q else 87 + q
def hexL : List Int → List Int
  | [] => []
  | x :: r => hexN (x / 16) :: hexN (x % 16) :: hexL r
theorem hexL_append (l m : List Int) : hexL (l ++ m) = hexL l ++ hexL m := by
  induction l with
  | nil => rfl
  | cons x r ih => simp [hexL, ih]
theorem hexL_length (l : List Int) : (hexL l).length = 2 * l.length := by
  induction l with
  | nil => rfl
  | cons x r ih => simp [hexL, ih]; omega
def hexS : ByteArray := ⟨#[48, 49, 50, 51, 52, 53, 54, 55, 56, 57, 97, 98, 99, 100, 101, 102]⟩
theorem hexN_at (W : World) (k : IntKind) (q : Int) (h0 : 0 ≤ q) (h1 : q < 16) : Sem.run Try.prog (Instr.index 9 (.string ⟨#[48, 49, 50, 51, 52, 53, 54, 55, 56, 57, 97, 98, 99, 100, 101, 102]⟩) (.int k q)) W = .ok (.int .u8 (hexN q)) W := by
  obtain ⟨n, rfl⟩ := Int.eq_ofNat_of_zero_le h0
  have hn : n < 16 := by omega
  rw [run_index_string (P := Try.prog) W 9 _ k (n : Int) Try.underlying9]
  have : n = 0 ∨ n = 1 ∨ n = 2 ∨ n = 3 ∨ n = 4 ∨ n = 5 ∨ n = 6 ∨ n = 7 ∨ n = 8 ∨ n = 9 ∨ n = 10 ∨ n = 11 ∨ n = 12 ∨ n = 13 ∨ n = 14 ∨ n = 15 := by omega
  rcases this with rfl | rfl | rfl | rfl | rfl | rfl | rfl | rfl | rfl | rfl | rfl | rfl | rfl | rfl | rfl | rfl <;> rfl
theorem hexN_range {q : Int} (h0 : 0 ≤ q) (h1 : q < 16) : 48 ≤ hexN q ∧ hexN q < 103 := by unfold hexN; split <;> omega
theorem hexL_bytes {l : List Int} (h : IsBytes l) : IsBytes (hexL l) := by
  induction l with
  | nil => exact fun b hb => absurd hb (by simp [hexL])
  | cons x r ih =>
    have hx := h x (by simp)
    intro b hb
    simp only [hexL, List.mem_cons] at hb
    rcases hb with rfl | rfl | hb
    · have := hexN_range (q := x / 16) (by omega) (by omega); omega
    · have := hexN_range (q := x % 16) (by omega) (by omega); omega
    · exact ih (fun b hb => h b (by simp [hb])) b hb
def digN (c : Int) : Int := if 48 ≤ c ∧ c ≤ 57 then c - 48 else if 97 ≤ c ∧ c ≤ 102 then c - 87 else -1
theorem hexL_take {ds : List Int} {k : Nat} (hk : k < ds.length) : hexL (ds.take (k + 1)) = hexL (ds.take k) ++ [hexN (ds.getD k 0 / 16), hexN (ds.getD k 0 % 16)] := by
  rw [List.take_add_one, List.getElem?_eq_getElem hk, hexL_append, List.getD_eq_getElem?_getD, List.getElem?_eq_getElem hk]
  rfl
end Go.Proofs.Ytdmogbkfmeihfaa
