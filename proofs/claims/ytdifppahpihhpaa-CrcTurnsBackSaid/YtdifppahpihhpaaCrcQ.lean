import Derived.Test.YtdifppahpihhpaaCrcP
import Derived.Test.YtdifppahpihhpaaMem2
import Derived.Test.YtdifppahpihhpaaCrcH
import Derived.Test.YtdifppahpihhpaaCrcW
import Derived.Laws.OwnMore
import Derived.Deep.QuietTactic
import Derived.BigQuiet
namespace Go.Proofs.Ytdifppahpihhpaa
open Go.RowKit
set_option maxRecDepth 100000
set_option linter.unusedVariables false
theorem holds_run {l : List Int} (h : holdsB l = true) : run ones l = upn 32 ones := by
  unfold holdsB at h
  rw [Bool.and_eq_true, decide_eq_true_iff, decide_eq_true_iff] at h
  obtain ⟨h1, h2⟩ := h
  conv => lhs; rw [← List.take_append_drop (l.length - 4) l]
  rw [run_append, ← h2, run_B4]
  unfold sumW
  rw [← BitVec.xor_assoc, BitVec.xor_self, BitVec.zero_xor]
/-! ### a store into a row of one's own -/
theorem Own.slot {W : World} {base : Nat} {e : TypeId} {v : Value} {xs : List Int} (h : Own W base e v xs) (hne : xs ≠ []) : ∃ g cap, v = .slice (some ⟨g, 0, none⟩) xs.length cap ∧ base ≤ g ∧ xs.length ≤ cap ∧ cap ≤ 9223372036854775807 ∧
    (∀ j, j < xs.length → W.cell? ⟨g, j, none⟩ = some (.int .u8 (xs.getD j 0))) ∧ (∀ j, W.frozen? ⟨g, j, none⟩ = false) := by
  rcases h.2.2 with ⟨rfl, h0⟩ | ⟨g, cap, cur, rfl, hb, hh, h1, h2, _⟩
  · exact absurd (List.eq_nil_of_length_eq_zero (by simpa using h0)) hne
  · refine ⟨g, cap, rfl, hb, h1, by unfold maxLen at h2; omega, fun j hj => ?_, fun j => h.2.frozenAt j⟩
    have := h.2.cells (g := g) rfl j _ (nums8_get xs j hj)
    rw [← this]
    unfold Addr.add
    split <;> simp_all
theorem Own.put {W : World} {base : Nat} {e : TypeId} {g n cap : Nat} {xs : List Int} (h : Own W base e (.slice (some ⟨g, 0, none⟩) n cap) xs) (j : Nat) (b : Int) (h0 : 0 ≤ b) (h1 : b < 256) :
    Own (W.setCell ⟨g, j, none⟩ (.int .u8 b)) base e (.slice (some ⟨g, 0, none⟩) n cap) (xs.set j b) ∧ W.grownBy (W.setCell ⟨g, j, none⟩ (.int .u8 b)) (some g) := by
  have hn : n = xs.length := by rcases h.2.2 with ⟨h', _⟩ | ⟨g', cap', cur, h', _⟩ <;> simp at h' <;> omega
  subst hn
  obtain ⟨k1, k2⟩ := h.2.stored j (.int .u8 b)
  refine ⟨⟨?_, ?_⟩, k2⟩
  · intro x hx
    rcases List.mem_or_eq_of_mem_set hx with h3 | h3
    · exact h.1 x h3
    · subst h3; exact ⟨h0, h1⟩
  · rw [List.length_set]
    have e1 : nums8 (xs.set j b) = (nums8 xs).set j (.int .u8 b) := by unfold nums8; rw [List.map_set]
    rw [e1]
    exact k1
theorem below_put {B : Nat} {w0 W : World} {e : TypeId} {g n cap : Nat} {xs : List Int} (h : Own W B e (.slice (some ⟨g, 0, none⟩) n cap) xs) (hb : Below B w0 W) (hB : B ≤ W.heap.size) (j : Nat) (u : Value) : Below B w0 (W.setCell ⟨g, j, none⟩ u) := by
  have hn : n = xs.length := by rcases h.2.2 with ⟨h', _⟩ | ⟨g', cap', cur, h', _⟩ <;> simp at h' <;> omega
  subst hn
  exact below_grown hb h.2 (h.2.stored j u).2 hB
theorem xor_turn {x : Int} (h0 : 0 ≤ x) (h1 : x < 256) {j : Nat} (hj : j < 8) : bits .xor .u8 x ((2 : Int) ^ j % 256) = turnB x j := by
  obtain ⟨n, rfl⟩ := Int.eq_ofNat_of_zero_le h0
  have hp : 2 ^ j < 2 ^ 8 := Nat.pow_lt_pow_right (by decide) hj
  have e : ((2 : Int) ^ j % 256) = ((2 ^ j : Nat) : Int) := (by decide : ∀ j : Nat, j < 8 → ((2 : Int) ^ j % 256) = ((2 ^ j : Nat) : Int)) j hj
  have hn : n < 2 ^ 8 := by omega
  have hx : n ^^^ 2 ^ j < 2 ^ 8 := Nat.xor_lt_two_pow hn hp
  rw [e]
  unfold turnB
  show IntKind.u8.wrap ((((BitVec.ofInt 8 (n : Int)) ^^^ (BitVec.ofInt 8 ((2 ^ j : Nat) : Int))).toNat : Nat) : Int) = _
  rw [BitVec.ofInt_natCast, BitVec.ofInt_natCast, BitVec.toNat_xor, BitVec.toNat_ofNat, BitVec.toNat_ofNat, Nat.mod_eq_of_lt hn, Nat.mod_eq_of_lt hp, Int.toNat_natCast, IntKind.wrap_u8']
  omega
theorem own_drewN {W : World} {base : Nat} {e : TypeId} {v : Value} {xs : List Int} (h : Own W base e v xs) (n : Nat) : Own (W.drewN n) base e v xs := h.keep (below_drewN (Below.refl _ _) n)
theorem flipped_any (v u : Value) (l : List Int) (bs : List Nat) (w : World) (HR : Rd w v l) (HU : RdC 1 w u bs.length (bs.map (fun (b : Nat) => Value.int .u64 (b : Int)))) (hb64 : ∀ b ∈ bs, b < 2 ^ 64) (hne : l ≠ []) (hl : l.length ≤ 140737488351232) :
    Calls Try.prog 41 #[v, u] w fun e w' => ∃ vo, e = .returned (.tuple #[vo, .int .i64 (places l.length [] bs).length]) ∧ Own w' w.heap.size 5 vo (turns l (places l.length [] bs)) ∧ Below w.heap.size w w' := by
  have hlb := HR.1
  obtain ⟨hul, A, cap, rfl, hn, hm, _, hc⟩ := HU
  unfold maxLen at hm
  have HR0 := hd_ HR
  obtain ⟨Ap, capp, rfl, hnp, hmp, _, hcp⟩ := HR.form
  unfold maxLen at hmp
  go_enter Try.func41, Try.ntmps41
  go_wp2_with (at_builtin; refine app_bytes (w0 := w) w.heap.size rfl _ _ 23 5 rfl Try.underlying23 info8 (.slice none 0 0) _ [] l rfl rfl (own_nil8 _ _ _) HR0.out (Below.refl _ _) (Nat.le_refl _) (by simp; omega) ?_; intro v1 w1 HO1 HB1 hg1 hat1; rw [List.nil_append] at HO1)
  obtain ⟨g, cp, rfl, hgb, hle, hcp2, _, _⟩ := HO1.slot hne
  go_loopw [7, 8] (fun vn vi wr => ∃ (k : Nat) (s : List Nat), k ≤ bs.length ∧ vi = .int .i64 k ∧ vn = .int .i64 s.length ∧ Own wr w.heap.size 5 (.slice (some ⟨g, 0, none⟩) l.length cp) (turns l s) ∧ Below w.heap.size w wr ∧ s.length ≤ k ∧ Hid (places l.length s (bs.drop k) = places l.length [] bs ∧ (∀ a ∈ s, a < 8 * l.length) ∧ s.Nodup)) (fun _ i _ => bs.length - (intOf i).toNat)
  case atStart => exact ⟨0, [], Nat.zero_le _, rfl, rfl, HO1, HB1, Nat.zero_le _, rfl, fun a h => absurd h (by simp), List.nodup_nil⟩
  case round =>
    obtain ⟨k, s, hk, rfl, rfl, HO, HB, hsk, H⟩ := hrel
    by_cases hlt : k < bs.length
    · obtain ⟨b0, off0, rfl, hcell0⟩ := hc k (by rw [List.length_map]; exact hlt)
      rw [List.getElem?_map, List.getElem?_eq_getElem hlt] at hcell0
      have hcell := cell_keep HB hcell0
      have hb := hb64 _ (List.getElem_mem hlt)
      have hdr : bs.drop k = bs[k] :: bs.drop (k + 1) := (List.getElem_cons_drop hlt).symm
      have H2 := H.out
      rw [hdr, places] at H2
      have hpos : 0 < l.length := List.length_pos_iff.2 hne
      generalize bs[k] = b at *
      have hdiv : b % (8 * l.length) < 8 * l.length := Nat.mod_lt _ (by omega)
      have H3 := hd_ H2
      have hmod : ((b : Int) % (8 * (l.length : Int))) = ((b % (8 * l.length) : Nat) : Int) := by rw [show (8 * (l.length : Int)) = ((8 * l.length : Nat) : Int) by omega]; exact (Int.natCast_emod _ _).symm
      clear hc H H2 hdr hcell0 hul
      generalize b % (8 * l.length) = at_ at *
      obtain ⟨hpl, hsl, hsn⟩ := H3.out
      have hcells : ∀ j, j < l.length → wr.cell? ⟨g, j, none⟩ = some (.int .u8 ((turns l s).getD j 0)) := by
        obtain ⟨g', cp', he, _, _, _, h1, _⟩ := HO.slot (by intro h; have := congrArg List.length h; rw [turns_length] at this; simp at this; exact hne (by simpa using this))
        simp at he
        obtain ⟨⟨rfl, _⟩, _⟩ := he
        rw [turns_length] at h1
        exact h1
      have hfz : ∀ j, wr.frozen? ⟨g, j, none⟩ = false := by have h1 := HO.2; rw [turns_length] at h1; exact h1.frozenAt
      have hq : at_ / 8 < l.length := by omega
      have hc1 := hcells (at_ / 8) hq
      have hf1 := hfz (at_ / 8)
      obtain ⟨b1, off1, rfl, hcp1⟩ := hcp (at_ / 8) hq
      have hc2 := cell_keep HB hcp1
      have hbt := bitAt_turns hlb hsl hsn at_
      unfold bitAt at hbt
      obtain ⟨x0, x1⟩ := bytes_at (turns_bytes hlb hsl) (at_ / 8)
      obtain ⟨y0, y1⟩ := bytes_at hlb (at_ / 8)
      have e1 : ((at_ : Int) / 8) = ((at_ / 8 : Nat) : Int) := by omega
      have e2 : ((at_ : Int) % 8) = ((at_ % 8 : Nat) : Int) := by omega
      have hj : at_ % 8 < 8 := Nat.mod_lt _ (by decide)
      have hcmp : (bits .and .u8 ((turns l s).getD (at_ / 8) 0 / (2 : Int) ^ (at_ % 8)) 1 == bits .and .u8 (l.getD (at_ / 8) 0 / (2 : Int) ^ (at_ % 8)) 1) = !decide (at_ ∈ s) := by
        rw [bit8_is x0 x1 _ hj, bit8_is y0 y1 _ hj, hbt]
        cases (byteW (l.getD (at_ / 8) 0)).getLsbD (at_ % 8) <;> cases decide (at_ ∈ s) <;> decide
      have HT : Hid (turn (turns l s) at_ = (turns l s).set (at_ / 8) (turnB ((turns l s).getD (at_ / 8) 0) (at_ % 8))) := rfl
      have htb := turnB_range x0 x1 hj
      clear hbt hpl hcells hcp hcp1
      generalize (turns l s).getD (at_ / 8) 0 = x at *
      generalize l.getD (at_ / 8) 0 = y at *
      generalize at_ / 8 = q at *
      generalize at_ % 8 = j at *
      cases hin : decide (at_ ∈ s)
      · rw [hin, Bool.not_false] at hcmp
        have hni : at_ ∉ s := of_decide_eq_false hin
        have hres : bits .xor .u8 x ((2 : Int) ^ j % 256) = turnB x j := xor_turn x0 x1 hj
        have H4 := H3.out
        rw [if_neg hni] at H4
        have H5 := hd_ H4
        clear H4 hin
        go_wp2
        go_quiet (fail)
        go_wp2
        go_roundw
        case rel =>
          refine ⟨k + 1, at_ :: s, by omega, by go_num, by rw [List.length_cons]; go_num, ?_, below_put (own_drewN HO nq) (below_drewN HB nq) HB.size _ _, by rw [List.length_cons]; omega, H5.out.1, fun a ha => ?_, List.nodup_cons.2 ⟨hni, hsn⟩⟩
          · rw [turns, HT.out]
            exact ((own_drewN HO nq).put q _ htb.1 htb.2).1
          · rcases List.mem_cons.1 ha with h | h
            · subst h; exact hdiv
            · exact hsl a h
        case measure => (simp [intOf]; try omega)
      · rw [hin, Bool.not_true] at hcmp
        have hni : at_ ∈ s := of_decide_eq_true hin
        have H4 := H3.out
        rw [if_pos hni] at H4
        have H5 := hd_ H4
        clear H4 hin
        go_wp2
        go_quiet (fail)
        go_wp2
        go_roundw
        case rel => exact ⟨k + 1, s, by omega, by go_num, rfl, own_drewN HO nq, below_drewN HB nq, by omega, H5.out⟩
        case measure => (simp [intOf]; try omega)
    · obtain rfl : k = bs.length := by omega
      have H2 := H.out.1
      rw [List.drop_length, places] at H2
      have H3 := hd_ H2
      clear H H2 hc hcp
      go_wp2
      go_ret2
      exact ⟨.slice (some ⟨g, 0, none⟩) l.length cp, by rw [← H3.out]; rfl, by rw [← H3.out]; exact HO, HB⟩
end Go.Proofs.Ytdifppahpihhpaa
