import Derived.Test.YtilmmohkdgmhnaaFrameU
namespace Go.Proofs.Ytilmmohkdgmhnaa
open Go.RowKit
set_option maxRecDepth 100000
set_option linter.unusedVariables false
theorem lenN_nonneg {l : List Int} (h : IsBytes l) : 0 ≤ lenN l := by obtain ⟨N, hN, _⟩ := lenN_range h; omega
theorem scanA_bounds (m : Int) (e : Bool) : ∀ (n : Nat) (l : List Int) (fs : List (Int × List Int)) (j lo : Nat), IsBytes l →
    (scanA m e n l fs j lo).1.length * 14 + (scanA m e n l fs j lo).2.1.length ≤ fs.length * 14 + l.length ∧ (scanA m e n l fs j lo).2.2.1 + (scanA m e n l fs j lo).2.1.length ≤ j + l.length ∧ (scanA m e n l fs j lo).2.2.2 + (scanA m e n l fs j lo).2.1.length ≤ lo + l.length
  | 0, l, fs, j, lo, _ => ⟨Nat.le_refl _, Nat.le_refl _, Nat.le_refl _⟩
  | n + 1, l, fs, j, lo, hb => by
    rw [scanA]
    by_cases h0 : l.length = 0
    · rw [if_pos h0]; exact ⟨Nat.le_refl _, Nat.le_refl _, Nat.le_refl _⟩
    rw [if_neg h0]
    by_cases h3 : lookN m l = 3
    · rw [if_pos h3]
      obtain ⟨_, _, _, _, e5, _⟩ := lookN_3 h3
      have := lenN_nonneg hb
      have ih := scanA_bounds m e n (l.drop ((lenN l).toNat + 14)) (fs ++ [(l.getD 2 0, (l.drop 10).take (lenN l).toNat)]) j lo (bytes_drop hb _)
      rw [List.length_append, List.length_singleton, List.length_drop] at ih
      omega
    rw [if_neg h3]
    by_cases h2 : lookN m l = 2
    · rw [if_pos h2]
      have ih := scanA_bounds m e n (l.drop 1) fs (j + 1) (lo + 1) (bytes_drop hb _)
      rw [List.length_drop] at ih
      omega
    rw [if_neg h2]
    by_cases h1 : lookN m l = 1 ∧ e = false
    · rw [if_pos h1]; exact ⟨Nat.le_refl _, Nat.le_refl _, Nat.le_refl _⟩
    rw [if_neg h1]
    have ih := scanA_bounds m e n (l.drop 1) fs (j + 1) lo (bytes_drop hb _)
    rw [List.length_drop] at ih
    omega
/-- a splitter's answers over the pieces -/
def feedA (m : Int) : List (List Int) → List (Int × List Int) × List Int × Nat × Nat → List (Int × List Int) × List Int × Nat × Nat
  | [], R => R
  | p :: ps, R => feedA m ps (R.1 ++ (scanA m false (R.2.1 ++ p).length (R.2.1 ++ p) [] R.2.2.1 R.2.2.2).1, (scanA m false (R.2.1 ++ p).length (R.2.1 ++ p) [] R.2.2.1 R.2.2.2).2)
def AllRet (w : World) (m : Int) (R : List (Int × List Int) × List Int × Nat × Nat) (e : Ending) (w' : World) : Prop :=
  ∃ lv g, e = .returned (.tuple #[lv, .pointer (some ⟨g, 0, none⟩), .bool true]) ∧ w.heap.size ≤ g ∧ Spl w' g m R.2.1 R.2.2.1 R.2.2.2 ∧ FrL w' w.heap.size 28 5 lv R.1 ∧ Below w.heap.size w w'
set_option maxHeartbeats 2000000 in
theorem all_any (m : Int) (v : Value) (ps : List (List Int)) (w : World) (HR : RdL w v ps) (h0 : 0 ≤ m) (h1 : m ≤ 1048576) (hl : ps.flatten.length ≤ 35184372088832) :
    Calls Try.prog 40 #[.int .i64 m, v] w (AllRet w m (feedA m ps ([], [], 0, 0))) := by
  obtain ⟨R, hR⟩ : ∃ R, feedA m ps ([], [], 0, 0) = R := ⟨_, rfl⟩
  rw [hR]
  have HRR := hd_ hR
  clear hR
  obtain ⟨A, cap, rfl, hn, hmx, _, hc⟩ := HR.form
  clear HR
  unfold maxLen at hmx
  have hc := hd_ hc
  go_enter Try.func40, Try.ntmps40
  go_wp2_with (go_at_call 28; refine (New_ok m h0 h1 _).mono ?_; rintro e w1 ⟨rfl, HX1, HB1⟩)
  have HS1 : Spl w1 w.heap.size m [] 0 0 := ⟨_, HX1, RdB.own (own_nil8 _ 0 _)⟩
  clear HX1
  go_loopw [9, 10] (fun vl vi wr => ∃ (k : Nat) (fs : List (Int × List Int)) (l : List Int) (j lo : Nat), k ≤ ps.length ∧ vi = .int .i64 k ∧ Spl wr w.heap.size m l j lo ∧ FrL wr w.heap.size 28 5 vl fs ∧ Below w.heap.size w wr ∧ Hid (feedA m (ps.drop k) (fs, l, j, lo) = R ∧ fs.length * 14 + l.length + (ps.drop k).flatten.length ≤ 35184372088832 ∧ j + l.length + (ps.drop k).flatten.length ≤ 35184372088832 ∧ lo + l.length + (ps.drop k).flatten.length ≤ 35184372088832)) (fun _ i _ => ps.length - (intOf i).toNat)
  case atStart => exact ⟨0, [], [], 0, 0, Nat.zero_le _, rfl, HS1, FrL.nil _ _ _ _, HB1, hd_ ⟨HRR.out, by simpa using hl, by simpa using hl, by simpa using hl⟩⟩
  case round =>
    clear HS1 HB1 HRR hl
    obtain ⟨k, fs, l, j, lo, hk, rfl, HS, HF, HB, HI⟩ := hrel
    by_cases hlt : k < ps.length
    · obtain ⟨b, off, u, rfl, hcell0, hu0⟩ := hc.out k hlt
      have hcell := cell_keep HB hcell0
      have hu := hu0.keep HB
      obtain ⟨i1, i2, i3, i4⟩ := HI.out
      rw [drop_head [] ps hlt] at i1 i2 i3 i4
      rw [List.flatten_cons, List.length_append] at i2 i3 i4
      clear hcell0 hu0 hc HI
      generalize ps.getD k [] = p at *
      have hbl : IsBytes l := by obtain ⟨v', _, hr⟩ := HS; exact hr.1.1
      have hbb := scanA_bounds m false (l ++ p).length (l ++ p) [] j lo (bytes_append hbl hu.1)
      rw [List.length_append, List.length_nil] at hbb
      rw [feedA] at i1
      simp only at i1
      have hF := Feed_any w.heap.size m l p j lo u wr HS hu h1 (by omega) (by omega) (by omega)
      rw [List.length_append] at hF i1
      generalize scanA m false (l.length + p.length) (l ++ p) [] j lo = S at *
      have HI2 : Hid (feedA m (ps.drop (k + 1)) (fs ++ S.1, S.2) = R ∧ (fs ++ S.1).length * 14 + S.2.1.length + (ps.drop (k + 1)).flatten.length ≤ 35184372088832 ∧ S.2.2.1 + S.2.1.length + (ps.drop (k + 1)).flatten.length ≤ 35184372088832 ∧ S.2.2.2 + S.2.1.length + (ps.drop (k + 1)).flatten.length ≤ 35184372088832) :=
        hd_ ⟨i1, by rw [List.length_append]; omega, by omega, by omega⟩
      have hl32 : Hid ((fs.length + S.1.length) * 32 ≤ 140737488355328) := hd_ (by omega)
      clear i1 i2 i3 i4 hbb
      go_wp2_with fail
      refine hF.mono ?_
      rintro e w5 ⟨lv, rfl, HS5, HF5, HG5⟩
      have HFk : FrL w5 w.heap.size 28 5 u9 fs := by
        obtain ⟨v', hbx, _⟩ := HS
        exact HF.boxed hbx HG5 (by decide) (by decide)
      have HB5 : Below w.heap.size w w5 := below_row HB HG5 (Nat.le_refl _) HB.size
      have HF5' := HF5.base HB.size
      clear HF HF5 HG5 HS hu hF
      go_wp2_with (at_builtin; (refine app_frames (w0 := w) w.heap.size rfl _ _ 52 28 5 (.agg #[.int .i64 0, .slice none 0 0]) rfl Try.underlying52 infoFr rfl (by decide) u9 lv fs S.1 rfl rfl HFk HF5' HB5 HB5.size hl32.out ?_); intro v6 w6 HF6 HB6 hg6 hk6)
      have HS6 : Spl w6 w.heap.size m S.2.1 S.2.2.1 S.2.2.2 := by
        obtain ⟨v', b5, r5⟩ := HS5
        exact ⟨v', b5.grown hg6 (hk6 _ _ _ b5 (by decide)), r5.grown hg6 (fun b cur hc => hk6 b cur _ hc (by decide))⟩
      go_roundw
      case rel => exact ⟨k + 1, fs ++ S.1, S.2.1, S.2.2.1, S.2.2.2, by omega, by go_num, HS6, HF6, HB6, HI2⟩
      case measure => (simp [intOf]; try omega)
    · obtain rfl : k = ps.length := by omega
      have hRe : Hid (R = (fs, l, j, lo)) := hd_ (by
        have := HI.out.1
        rw [List.drop_length] at this
        exact this.symm)
      clear HI hc
      go_wp2
      go_ret3
      rw [hRe.out]
      exact ⟨_, _, rfl, Nat.le_refl _, HS, HF, HB⟩
end Go.Proofs.Ytilmmohkdgmhnaa
