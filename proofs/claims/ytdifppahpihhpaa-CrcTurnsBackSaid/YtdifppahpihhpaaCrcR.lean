import Derived.Test.YtdifppahpihhpaaCrcQ
namespace Go.Proofs.Ytdifppahpihhpaa
open Go.RowKit
set_option maxRecDepth 100000
set_option linter.unusedVariables false
set_option maxHeartbeats 2000000 in
theorem law_run_any (v : Value) (l : List Int) (b : Nat) (x : W32) (w : World) (HR : Rd w v l) (hb : b < 2 ^ 64) (hne : l ≠ []) (hl : l.length ≤ 140737488351232) :
    Calls Try.prog 42 #[v, .int .u64 (b : Int), .int .u32 (I x)] w fun e w' => ∃ vo K, K ≤ 32 ∧ b % (8 * l.length) + K ≤ 8 * l.length ∧ e = .returned (.tuple #[vo, .bool (anyW x K)]) ∧ Own w' w.heap.size 5 vo (turns l (runPlaces (b % (8 * l.length)) x K)) ∧ Below w.heap.size w w' := by
  have hlb := HR.1
  have HR0 := hd_ HR
  obtain ⟨Ap, capp, rfl, hnp, hmp, _, hcp⟩ := HR.form
  clear hcp
  unfold maxLen at hmp
  have hpos : 0 < l.length := List.length_pos_iff.2 hne
  have hdiv : b % (8 * l.length) < 8 * l.length := Nat.mod_lt _ (by omega)
  have hmod : ((b : Int) % (8 * (l.length : Int))) = ((b % (8 * l.length) : Nat) : Int) := by rw [show (8 * (l.length : Int)) = ((8 * l.length : Nat) : Int) by omega]; exact (Int.natCast_emod _ _).symm
  generalize b % (8 * l.length) = f at *
  have hz : ((l.length : Int) == 0) = false := beq_eq_false_iff_ne.2 (by omega)
  obtain ⟨K, hK1, hK2, hK3⟩ : ∃ K, K ≤ 32 ∧ f + K ≤ 8 * l.length ∧ (K = 32 ∨ f + K = 8 * l.length) := by
    by_cases h : f + 32 ≤ 8 * l.length
    · exact ⟨32, by omega, h, .inl rfl⟩
    · exact ⟨8 * l.length - f, by omega, by omega, .inr (by omega)⟩
  go_enter Try.func42, Try.ntmps42
  go_upto_region 5 with (at_builtin; refine app_bytes (w0 := w) w.heap.size rfl _ _ 23 5 rfl Try.underlying23 info8 (.slice none 0 0) _ [] l rfl rfl (own_nil8 _ _ _) HR0.out (Below.refl _ _) (Nat.le_refl _) (by simp; omega) ?_; intro v1 w1 HO1 HB1 hg1 hat1; rw [List.nil_append] at HO1; obtain ⟨g, cp, rfl, hgb, hle, hcp2, _, _⟩ := HO1.slot hne)
  go_upto_region 6 with fail
  rw [hmod]
  clear hmod hz
  go_wp2
  go_loopw [9, 10] (fun va vi wr => ∃ (k : Nat), k ≤ K ∧ vi = .int .u64 k ∧ va = .bool (anyW x k) ∧ Own wr w.heap.size 5 (.slice (some ⟨g, 0, none⟩) l.length cp) (turns l (runPlaces f x k)) ∧ Below w.heap.size w wr) (fun _ i _ => K - (intOf i).toNat)
  case atStart => exact ⟨0, Nat.zero_le _, rfl, rfl, HO1, HB1⟩
  case round =>
    obtain ⟨k, hk, rfl, rfl, HO, HB⟩ := hrel
    by_cases hlt : k < K
    · have hpl : ∀ a ∈ runPlaces f x k, a < 8 * l.length := fun a ha => by have := runPlaces_lt f x k a ha; omega
      have hbit := bitk_i (I_lo x) (I_hi x) k
      rw [b32_I] at hbit
      have hcells : ∀ j, j < l.length → wr.cell? ⟨g, j, none⟩ = some (.int .u8 ((turns l (runPlaces f x k)).getD j 0)) := by
        obtain ⟨g', cp', he, _, _, _, h1, _⟩ := HO.slot (by intro h; have := congrArg List.length h; rw [turns_length] at this; simp at this; exact hne (by simpa using this))
        simp at he
        obtain ⟨⟨rfl, _⟩, _⟩ := he
        rw [turns_length] at h1
        exact h1
      have hfz : ∀ j, wr.frozen? ⟨g, j, none⟩ = false := by have h1 := HO.2; rw [turns_length] at h1; exact h1.frozenAt
      have hbytes := turns_bytes hlb hpl
      have hat : f + k < 8 * l.length := by omega
      have HT : Hid (turn (turns l (runPlaces f x k)) (f + k) = (turns l (runPlaces f x k)).set ((f + k) / 8) (turnB ((turns l (runPlaces f x k)).getD ((f + k) / 8) 0) ((f + k) % 8))) := rfl
      have hq : (f + k) / 8 < l.length := by omega
      have hc1 := hcells _ hq
      have hf1 := hfz ((f + k) / 8)
      have e1 : (((f : Int) + (k : Int)) / 8) = (((f + k) / 8 : Nat) : Int) := by omega
      have e2 : (((f : Int) + (k : Int)) % 8) = (((f + k) % 8 : Nat) : Int) := by omega
      have hj : (f + k) % 8 < 8 := Nat.mod_lt _ (by decide)
      obtain ⟨x0, x1⟩ := bytes_at hbytes ((f + k) / 8)
      have htb := turnB_range x0 x1 hj
      have hres := xor_turn x0 x1 hj
      clear hcells hfz
      have d1 : decide ((k : Int) < 32) = true := decide_eq_true (by omega)
      have d2 : decide ((f : Int) + (k : Int) < 8 * (l.length : Int)) = true := decide_eq_true (by omega)
      have hK3' := hd_ hK3
      clear hK3
      generalize (turns l (runPlaces f x k)).getD ((f + k) / 8) 0 = y at *
      generalize (f + k) / 8 = q at *
      generalize (f + k) % 8 = j at *
      have E1 := hd_ e1
      have E2 := hd_ e2
      have HC := hd_ hc1
      have HF := hd_ hf1
      have HRS := hd_ hres
      clear e1 e2 hc1 hf1 hres
      cases hb : x.getLsbD k
      · rw [hb] at hbit
        go_wp2
        go_roundw
        case rel => exact ⟨k + 1, by omega, by go_num, by rw [anyW, hb, Bool.or_false], by rw [runPlaces, hb]; exact HO, HB⟩
        case measure => (simp [intOf]; try omega)
      · rw [hb] at hbit
        go_upto_region 10 with fail
        have e1 := E1.out
        have e2 := E2.out
        have hc1 := HC.out
        have hf1 := HF.out
        have hres := HRS.out
        go_wp2
        go_roundw
        case rel =>
          refine ⟨k + 1, by omega, by go_num, by rw [anyW, hb, Bool.or_true], ?_, below_put HO HB HB.size _ _⟩
          rw [runPlaces, hb, if_pos rfl, turns, HT.out]
          exact (HO.put q _ htb.1 htb.2).1
        case measure => (simp [intOf]; try omega)
    · obtain rfl : k = K := by omega
      rcases hK3 with h3 | h3
      · subst h3
        go_wp2
        go_ret2
        exact ⟨.slice (some ⟨g, 0, none⟩) l.length cp, 32, by omega, by omega, rfl, HO, HB⟩
      · go_wp2
        all_goals
          go_ret2
          exact ⟨.slice (some ⟨g, 0, none⟩) l.length cp, k, by omega, by omega, rfl, HO, HB⟩
end Go.Proofs.Ytdifppahpihhpaa
