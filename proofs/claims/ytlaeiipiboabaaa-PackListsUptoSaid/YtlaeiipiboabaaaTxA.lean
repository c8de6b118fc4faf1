/- How far two texts begin alike: pure, and both functions. -/
import Derived.Test.YtlaeiipiboabaaaPwX
namespace Go.Proofs.Ytlaeiipiboabaaa
open Go.RowKit
set_option maxRecDepth 100000
set_option linter.unusedVariables false
def shL : List Int → List Int → Nat
  | x :: a, y :: b => if x = y then shL a b + 1 else 0
  | _, _ => 0
theorem shL_nil (b : List Int) : shL [] b = 0 := by cases b <;> rfl
theorem shL_le : ∀ a b : List Int, shL a b ≤ a.length ∧ shL a b ≤ b.length
  | [], b => by rw [shL_nil]; simp
  | x :: a, [] => by simp [shL]
  | x :: a, y :: b => by
    have := shL_le a b
    unfold shL
    split <;> simp <;> omega
theorem shL_eq : ∀ (a b : List Int) (i : Nat), i < shL a b → a.getD i 0 = b.getD i 0
  | [], b, i, h => by rw [shL_nil] at h; omega
  | x :: a, [], i, h => by simp [shL] at h
  | x :: a, y :: b, i, h => by
    unfold shL at h
    by_cases e : x = y
    · rw [if_pos e] at h
      cases i with
      | zero => simpa using e
      | succ i => simpa using shL_eq a b i (by omega)
    · rw [if_neg e] at h; omega
theorem shL_stop : ∀ (a b : List Int), shL a b < a.length → shL a b < b.length → a.getD (shL a b) 0 ≠ b.getD (shL a b) 0
  | [], b, h, _ => by simp at h
  | x :: a, [], _, h => by simp at h
  | x :: a, y :: b, h1, h2 => by
    unfold shL at h1 h2 ⊢
    by_cases e : x = y
    · rw [if_pos e] at h1 h2 ⊢
      have := shL_stop a b (by simp at h1; omega) (by simp at h2; omega)
      simpa using this
    · rw [if_neg e]; simpa using e
theorem drewN_one (w : World) (m : Nat) : (w.drewN m).drew = w.drewN (m + 1) := by
  first | rfl | simp
set_option maxHeartbeats 2000000 in
theorem P_shared_any (a b : ByteArray) (ha : a.size ≤ 4611686018427387904) (w : World) :
    Calls Try.prog 51 #[.string a, .string b] w fun e w' => e = .returned (.int .i64 (shL (byL a) (byL b) : Int)) ∧ ∃ m, w' = w.drewN m := by
  obtain ⟨h1, h2⟩ := shL_le (byL a) (byL b)
  have h3 := shL_eq (byL a) (byL b)
  have h4 := shL_stop (byL a) (byL b)
  have hla := byL_length a
  have hlb := byL_length b
  generalize hN : shL (byL a) (byL b) = N at *
  rw [hla] at h1 h4
  rw [hlb] at h2 h4
  have hH := hd_ (And.intro h3 h4)
  clear h3 h4 hN
  have hia := hd_ (fun (i : Nat) (h : i < a.size) W => byL_at W a .i64 i (by rw [hla]; exact h))
  have hib := hd_ (fun (i : Nat) (h : i < b.size) W => byL_at W b .i64 i (by rw [hlb]; exact h))
  clear hla hlb
  go_enter Try.func51, Try.ntmps51
  go_upto_region 2 with fail
  go_loopw [5] (fun vi wr => ∃ i m : Nat, i ≤ N ∧ vi = .int .i64 (i : Int) ∧ wr = w.drewN m) (fun vi _ => N - (intOf vi).toNat)
  case atStart => exact ⟨0, 0, Nat.zero_le _, rfl, rfl⟩
  case round =>
    obtain ⟨i, m, hi, rfl, rfl⟩ := hrel
    by_cases hlt : i < N
    · have e1 := hia.out i (by omega)
      have e2 := hib.out i (by omega)
      rw [← hH.out.1 i hlt] at e2
      have haI : (i : Int) < (a.size : Int) := by omega
      have hbI : (i : Int) < (b.size : Int) := by omega
      have hda : decide ((i : Int) < (a.size : Int)) = true := decide_eq_true haI
      have hdb : decide ((i : Int) < (b.size : Int)) = true := decide_eq_true hbI
      generalize (byL a).getD i 0 = xx at *
      go_upto_region 2 with fail
      go_quiet (fail)
      go_wp2
      go_roundw
      case rel => exact ⟨i + 1, _, hlt, by go_num, rfl⟩
      case measure => (simp [intOf]; try omega)
    · obtain rfl : i = N := by omega
      by_cases hA : i < a.size
      · have haI : (i : Int) < (a.size : Int) := by omega
        have hda : decide ((i : Int) < (a.size : Int)) = true := decide_eq_true haI
        by_cases hB : i < b.size
        · have hbI : (i : Int) < (b.size : Int) := by omega
          have hdb : decide ((i : Int) < (b.size : Int)) = true := decide_eq_true hbI
          have e1 := hia.out i hA
          have e2 := hib.out i hB
          have hne := hH.out.2 hA hB
          generalize (byL a).getD i 0 = xx at *
          generalize (byL b).getD i 0 = yy at *
          have hb : (xx == yy) = false := beq_false_of_ne hne
          have hd : decide (xx = yy) = false := decide_eq_false hne
          go_upto_region 2 with fail
          go_quiet (fail)
          go_wp2
          go_ret
          exact ⟨rfl, m + nq, by simp⟩
        · have hbI : ¬ (i : Int) < (b.size : Int) := by omega
          have hdb : decide ((i : Int) < (b.size : Int)) = false := decide_eq_false hbI
          go_upto_region 2 with fail
          go_quiet (fail)
          go_wp2
          go_ret
          exact ⟨rfl, _, rfl⟩
      · have haI : ¬ (i : Int) < (a.size : Int) := by omega
        have hda : decide ((i : Int) < (a.size : Int)) = false := decide_eq_false haI
        go_upto_region 2 with fail
        go_quiet (fail)
        go_wp2
        go_ret
        exact ⟨rfl, _, rfl⟩
set_option maxHeartbeats 2000000 in
theorem X_shared_any (a b : ByteArray) (ha : a.size ≤ 4611686018427387904) (w : World) :
    Calls Try.prog 52 #[.string a, .string b] w fun e w' => e = .returned (.int .i64 (shL (byL a) (byL b) : Int)) ∧ ∃ m, w' = w.drewN m := by
  obtain ⟨h1, h2⟩ := shL_le (byL a) (byL b)
  have h3 := shL_eq (byL a) (byL b)
  have h4 := shL_stop (byL a) (byL b)
  have hla := byL_length a
  have hlb := byL_length b
  generalize hN : shL (byL a) (byL b) = N at *
  rw [hla] at h1 h4
  rw [hlb] at h2 h4
  have hH := hd_ (And.intro h3 h4)
  clear h3 h4 hN
  have hia := hd_ (fun (i : Nat) (h : i < a.size) W => byL_at W a .i64 i (by rw [hla]; exact h))
  have hib := hd_ (fun (i : Nat) (h : i < b.size) W => byL_at W b .i64 i (by rw [hlb]; exact h))
  clear hla hlb
  go_enter Try.func52, Try.ntmps52
  go_upto_region 2 with fail
  go_loopw [5] (fun vi wr => ∃ i m : Nat, i ≤ N ∧ vi = .int .i64 (i : Int) ∧ wr = w.drewN m) (fun vi _ => N - (intOf vi).toNat)
  case atStart => exact ⟨0, 0, Nat.zero_le _, rfl, rfl⟩
  case round =>
    obtain ⟨i, m, hi, rfl, rfl⟩ := hrel
    by_cases hlt : i < N
    · have e1 := hia.out i (by omega)
      have e2 := hib.out i (by omega)
      rw [← hH.out.1 i hlt] at e2
      have haI : (i : Int) < (a.size : Int) := by omega
      have hbI : (i : Int) < (b.size : Int) := by omega
      have hda : decide ((i : Int) < (a.size : Int)) = true := decide_eq_true haI
      have hdb : decide ((i : Int) < (b.size : Int)) = true := decide_eq_true hbI
      generalize (byL a).getD i 0 = xx at *
      go_upto_region 2 with fail
      go_quiet (fail)
      go_wp2
      go_roundw
      case rel => exact ⟨i + 1, _, hlt, by go_num, rfl⟩
      case measure => (simp [intOf]; try omega)
    · obtain rfl : i = N := by omega
      by_cases hA : i < a.size
      · have haI : (i : Int) < (a.size : Int) := by omega
        have hda : decide ((i : Int) < (a.size : Int)) = true := decide_eq_true haI
        by_cases hB : i < b.size
        · have hbI : (i : Int) < (b.size : Int) := by omega
          have hdb : decide ((i : Int) < (b.size : Int)) = true := decide_eq_true hbI
          have e1 := hia.out i hA
          have e2 := hib.out i hB
          have hne := hH.out.2 hA hB
          generalize (byL a).getD i 0 = xx at *
          generalize (byL b).getD i 0 = yy at *
          have hb : (xx == yy) = false := beq_false_of_ne hne
          have hd : decide (xx = yy) = false := decide_eq_false hne
          go_upto_region 2 with fail
          go_quiet (fail)
          go_wp2
          go_ret
          exact ⟨rfl, m + nq, by simp⟩
        · have hbI : ¬ (i : Int) < (b.size : Int) := by omega
          have hdb : decide ((i : Int) < (b.size : Int)) = false := decide_eq_false hbI
          go_upto_region 2 with fail
          go_quiet (fail)
          go_wp2
          go_ret
          exact ⟨rfl, _, rfl⟩
      · have haI : ¬ (i : Int) < (a.size : Int) := by omega
        have hda : decide ((i : Int) < (a.size : Int)) = false := decide_eq_false haI
        go_upto_region 2 with fail
        go_quiet (fail)
        go_wp2
        go_ret
        exact ⟨rfl, _, rfl⟩
/-- a text's ending -/
def dropS (s : ByteArray) (n : Nat) : ByteArray := s.extract n s.size
theorem dropS_byL (s : ByteArray) (n : Nat) (h : n ≤ s.size) : byL (dropS s n) = (byL s).drop n := by
  obtain ⟨d⟩ := s
  unfold dropS byL
  rw [← List.map_drop]
  congr 1
  have hz : (ByteArray.mk d).size = d.size := rfl
  rw [hz, ByteArray.data_extract]
  simp
  exact List.take_of_length_le (by simp)
theorem dropS_size (s : ByteArray) (n : Nat) (h : n ≤ s.size) : (dropS s n).size = s.size - n := by
  rw [← byL_length, dropS_byL s n h, List.length_drop, byL_length]
end Go.Proofs.Ytlaeiipiboabaaa
