import Derived.Test.YtilmmohkdgmhnaaFrameS
import Derived.Maps.RangeWalk
namespace Go.Proofs.Ytilmmohkdgmhnaa
open Go.RowKit
set_option maxRecDepth 100000
set_option linter.unusedVariables false
def fnV : Array Value := #[.func (.func 70) #[] #[], .func (.func 70) #[] #[], .func (.func 71) #[] #[], .func (.func 72) #[] #[]]
theorem infoFn : (Try.prog.info? 100).map (·.size) = some 4 := by kernel_rfl
theorem fnV_one : fnV.all (·.oneCell') = true := by simp [fnV, Value.oneCell']
theorem steps_any (w : World) : Calls Try.prog 64 #[] w fun e w' => e = .returned (.agg fnV) ∧ Below w.heap.size w w' := by
  have hb := Box.new w #[.nilFunc, .nilFunc, .nilFunc, .nilFunc] 100
  have hB := al1 (Below.refl w.heap.size w) (.cells #[.nilFunc, .nilFunc, .nilFunc, .nilFunc] 100)
  go_enter Try.func64, Try.ntmps64
  go_wp2_with (refine store_box rfl 100 _ _ rfl w.heap.size 100 _ fnV rfl rfl hb infoFn rfl fnV_one ?_; intro w1 hb1 hg1)
  exact bodyPost_ret (results_cell1 rfl _ _ _ rfl (run_load_box _ _ _ _ _ hb1 Try.underlying100 rfl infoFn)) rfl ⟨rfl, below_row hB hg1 (Nat.le_refl _) hB.size⟩
/-- what a splitter comes to: the frames, the bytes from its place on, junk, lost -/
def scanA (m : Int) (e : Bool) : Nat → List Int → List (Int × List Int) → Nat → Nat → List (Int × List Int) × List Int × Nat × Nat
  | 0, l, fs, j, lo => (fs, l, j, lo)
  | n + 1, l, fs, j, lo =>
    if l.length = 0 then (fs, l, j, lo)
    else if lookN m l = 3 then scanA m e n (l.drop ((lenN l).toNat + 14)) (fs ++ [(l.getD 2 0, (l.drop 10).take (lenN l).toNat)]) j lo
    else if lookN m l = 2 then scanA m e n (l.drop 1) fs (j + 1) (lo + 1)
    else if lookN m l = 1 ∧ e = false then (fs, l, j, lo)
    else scanA m e n (l.drop 1) fs (j + 1) lo
theorem lookN_lt (m : Int) (l : List Int) : lookN m l < 4 := by
  unfold lookN
  repeat' split
  all_goals omega
theorem lookN_3 {m : Int} {l : List Int} (h : lookN m l = 3) : frontB l = true ∧ 10 ≤ l.length ∧ headB l = true ∧ lenN l ≤ m ∧ lenN l + 14 ≤ (l.length : Int) ∧ holdsB (l.take (lenN l + 14).toNat) = true := by
  unfold lookN at h
  by_cases hF : frontB l = false
  · rw [if_pos hF] at h; omega
  rw [if_neg hF] at h
  by_cases h10 : l.length < 10
  · rw [if_pos h10] at h; omega
  rw [if_neg h10] at h
  by_cases hH : headB l = false
  · rw [if_pos hH] at h; omega
  rw [if_neg hH] at h
  by_cases hL : m < lenN l
  · rw [if_pos hL] at h; omega
  rw [if_neg hL] at h
  by_cases hS : (l.length : Int) < lenN l + 14
  · rw [if_pos hS] at h; omega
  rw [if_neg hS] at h
  by_cases hW : holdsB (l.take (lenN l + 14).toNat) = false
  · rw [if_pos hW] at h; omega
  exact ⟨by simpa using hF, by omega, by simpa using hH, by omega, by omega, by simpa using hW⟩
def SplRet (w : World) (g : Nat) (m : Int) (R : List (Int × List Int) × List Int × Nat × Nat) (e : Ending) (w' : World) : Prop :=
  ∃ lv, e = .returned lv ∧ Spl w' g m R.2.1 R.2.2.1 R.2.2.2 ∧ FrL w' w.heap.size 28 5 lv R.1 ∧ w.grownBy w' (some g)
/-- how many bytes wait at the splitter g -/
def restLen (w : World) (g : Nat) : Nat := match w.cell? ⟨g, 2, none⟩ with | some (.slice _ n _) => n | _ => 0
theorem Spl.restLen {w : World} {g : Nat} {m : Int} {l : List Int} {j lo : Nat} (h : Spl w g m l j lo) : restLen w g = l.length := by
  obtain ⟨v, h1, h2⟩ := h
  obtain ⟨A, c, rfl⟩ := h2.len
  unfold Go.Proofs.Ytilmmohkdgmhnaa.restLen
  rw [h1.cell 2 rfl]
  rfl
theorem fn_cell {W : World} {gd : Nat} (h : Box W gd 100 fnV) :
    W.cell? ⟨gd, 0, none⟩ = some (.func (.func 70) #[] #[]) ∧ W.cell? ⟨gd, 1, none⟩ = some (.func (.func 70) #[] #[]) ∧
    W.cell? ⟨gd, 2, none⟩ = some (.func (.func 71) #[] #[]) ∧ W.cell? ⟨gd, 3, none⟩ = some (.func (.func 72) #[] #[]) :=
  ⟨h.cell 0 rfl, h.cell 1 rfl, h.cell 2 rfl, h.cell 3 rfl⟩
set_option maxHeartbeats 2000000 in
theorem run_any (g : Nat) (m : Int) (en : Bool) (l : List Int) (j lo : Nat) (w : World) (HS : Spl w g m l j lo) (hm : m ≤ 1048576) (hl : l.length ≤ 35184372088832) (hj : j + l.length < 4611686018427387904) (hlo : lo + l.length < 4611686018427387904) :
    Calls Try.prog 58 #[.pointer (some ⟨g, 0, none⟩), .bool en] w (SplRet w g m (scanA m en l.length l [] j lo)) := by
  obtain ⟨R, hR⟩ : ∃ R, scanA m en l.length l [] j lo = R := ⟨_, rfl⟩
  rw [hR]
  have HR := hd_ hR
  clear hR
  go_enter Try.func58, Try.ntmps58
  go_wp2_with fail
  refine (steps_any _).mono ?_
  rintro e w1 ⟨rfl, HB1⟩
  have hB1a := al1 (Below.refl w1.heap.size w1) (.cells #[.nilFunc, .nilFunc, .nilFunc, .nilFunc] 100)
  have hbn := Box.new w1 #[.nilFunc, .nilFunc, .nilFunc, .nilFunc] 100
  have HS1 := (HS.keep HB1).keep hB1a
  have HBB : w.grownBy (w1.alloc (.cells #[.nilFunc, .nilFunc, .nilFunc, .nilFunc] 100)) (some g) := grown_below (bel_trans HB1 hB1a) _
  go_wp2_with (refine store_box rfl 100 _ _ rfl w1.heap.size 100 _ fnV rfl rfl hbn infoFn rfl fnV_one ?_; intro w2 hb2 hg2)
  have HS2 : Spl w2 g m l j lo := by
    obtain ⟨v, k1, k2⟩ := HS1
    exact ⟨v, k1.grown hg2 (box_kind hbn (by decide) g _ k1), k2.grown hg2 (box_kind hbn (by decide))⟩
  have HB2 := grown_new HBB hg2 HB1.size
  have HF2 : FrL w2 w.heap.size 28 5 (.slice none 0 0) [] := FrL.nil _ _ _ _
  clear HS HS1 HBB hbn hB1a hg2 HB1
  generalize w1.heap.size = gd at *
  have hRR : Hid (scanA m en l.length l [] j lo = R) := HR
  clear HR
  go_frame
  go_loopw [5] (fun vl wr => ∃ (n : Nat) (l' : List Int) (fs : List (Int × List Int)) (j' lo' : Nat), Spl wr g m l' j' lo' ∧ FrL wr w.heap.size 28 5 vl fs ∧ w.grownBy wr (some g) ∧ Box wr gd 100 fnV ∧ Hid (l'.length ≤ n ∧ scanA m en n l' fs j' lo' = R ∧ fs.length * 14 + l'.length ≤ 35184372088832 ∧ j' + l'.length < 4611686018427387904 ∧ lo' + l'.length < 4611686018427387904)) (fun _ wr => restLen wr g)
  case atStart => exact ⟨l.length, l, [], j, lo, HS2, HF2, HB2, hb2, hd_ ⟨Nat.le_refl _, hRR.out, by rw [List.length_nil]; omega, hj, hlo⟩⟩
  case round =>
    clear HS2 HF2 HB2 hb2 hRR hj hlo hl
    obtain ⟨n, l', fs, j', lo', HS, HF, HB, hb, HI⟩ := hrel
    obtain ⟨v, hbx, hRB⟩ := id HS
    have q2 : wr.cell? ⟨g, 2, none⟩ = some v := hbx.cell 2 rfl
    have hlen := hRB.1.2.len (P := Try.prog) 24 5 3 Try.underlying24
    clear hbx hRB
    by_cases h0 : l'.length = 0
    · have hRe : R = (fs, l', j', lo') := by
        have := HI.out.2.1
        rw [← this]
        cases n with
        | zero => rfl
        | succ n => rw [scanA, if_pos h0]
      have h0I : ¬ (0 : Int) < (l'.length : Int) := by omega
      have HRe := hd_ hRe
      clear hRe h0
      go_wp2
      go_ret
      rw [HRe.out]
      exact ⟨_, rfl, HS, HF, HB⟩
    · have hpos : (0 : Int) < (l'.length : Int) := by omega
      obtain ⟨n, rfl⟩ : ∃ n', n = n' + 1 := ⟨n - 1, by have := HI.out.1; omega⟩
      obtain ⟨i1, i2, i3, i4, i5⟩ := HI.out
      rw [scanA, if_neg h0] at i2
      have hl1 : Hid (1 ≤ l'.length) := hd_ (by omega)
      have hj1 : Hid (j' < 4611686018427387904) := hd_ (by omega)
      have hlo1 : Hid (lo' < 4611686018427387904) := hd_ (by omega)
      have hc4 := lookN_lt m l'
      have hc3 := fun h : lookN m l' = 3 => lookN_3 h
      obtain ⟨c, hc⟩ : ∃ c, lookN m l' = c := ⟨_, rfl⟩
      have hLA := look_any g m l' j' lo' wr HS
      rw [hc] at i2 hc4 hLA hc3
      have hdrop : (l'.drop 1).length + 1 = l'.length := by rw [List.length_drop]; omega
      have hSK : c ≠ 3 → c ≠ 2 → ¬ (c = 1 ∧ en = false) → ((l'.drop 1).length ≤ n ∧ scanA m en n (l'.drop 1) fs (j' + 1) lo' = R ∧ fs.length * 14 + (l'.drop 1).length ≤ 35184372088832 ∧ j' + 1 + (l'.drop 1).length < 4611686018427387904 ∧ lo' + (l'.drop 1).length < 4611686018427387904) := by
        intro a1 a2 a3
        rw [if_neg a1, if_neg a2, if_neg a3] at i2
        exact ⟨by omega, i2, by omega, by omega, by omega⟩
      have HSK := hSK
      have hLO : c = 2 → ((l'.drop 1).length ≤ n ∧ scanA m en n (l'.drop 1) fs (j' + 1) (lo' + 1) = R ∧ fs.length * 14 + (l'.drop 1).length ≤ 35184372088832 ∧ j' + 1 + (l'.drop 1).length < 4611686018427387904 ∧ lo' + 1 + (l'.drop 1).length < 4611686018427387904) := by
        intro a1
        rw [if_neg (by omega), if_pos a1] at i2
        exact ⟨by omega, i2, by omega, by omega, by omega⟩
      have hST : c = 1 ∧ en = false → R = (fs, l', j', lo') := by
        intro a1
        rw [if_neg (by omega), if_neg (by omega), if_pos a1] at i2
        exact i2.symm
      have hFI : c = 3 → scanA m en n (l'.drop ((lenN l').toNat + 14)) (fs ++ [(l'.getD 2 0, (l'.drop 10).take (lenN l').toNat)]) j' lo' = R := by
        intro a1
        rw [if_pos a1] at i2
        exact i2
      have HFI := hd_ (And.intro hFI (And.intro i1 (And.intro i3 (And.intro i4 i5))))
      have HLO := hd_ hLO
      have HST := hd_ hST
      have HC3 := hd_ hc3
      clear hc i1 i2 i3 i4 i5 hdrop hLO hST hFI hc3 hSK h0 HI
      go_upto_region 5 with (go_at_call 65; refine hLA.mono ?_; rintro e w3 ⟨rfl, HB3⟩)
      have HS3 := HS.keep HB3
      have HF3 := HF.keep HB3
      have HG3 := grown_bel HB HB3
      have hb3 := hb.keep HB3
      obtain ⟨f0, f1, f2, f3⟩ := fn_cell hb3
      clear hLA HF HB hb
      have hcc : c = 0 ∨ c = 1 ∨ c = 2 ∨ c = 3 := by omega
      rcases hcc with rfl | rfl | rfl | rfl
      · go_wp2_with (go_at_call 70; refine (skip_any g m l' j' lo' u5 fs w _ HS3 HF3 hl1.out hj1.out HG3).mono ?_; rintro e w4 ⟨rfl, HS4, HF4, HG4, HK4⟩)
        go_roundw
        case rel => exact ⟨n, l'.drop 1, fs, j' + 1, lo', HS4, HF4, HG4, HK4 gd _ _ hb3 (by decide) (by decide), hd_ (HSK (by decide) (by decide) (by omega))⟩
        case measure => exact by have h1 := HS4.restLen; have h2 := HS.restLen; have h3 := hl1.out; rw [List.length_drop] at h1; show restLen w4 g < restLen wr g; omega
      · cases en
        · have hRe := HST.out ⟨rfl, rfl⟩
          have HRe := hd_ hRe
          clear hRe
          go_wp2
          go_ret
          rw [HRe.out]
          exact ⟨_, rfl, HS3, HF3, HG3⟩
        · go_wp2_with (go_at_call 70; refine (skip_any g m l' j' lo' u5 fs w _ HS3 HF3 hl1.out hj1.out HG3).mono ?_; rintro e w4 ⟨rfl, HS4, HF4, HG4, HK4⟩)
          go_roundw
          case rel => exact ⟨n, l'.drop 1, fs, j' + 1, lo', HS4, HF4, HG4, HK4 gd _ _ hb3 (by decide) (by decide), hd_ (HSK (by decide) (by decide) (by simp))⟩
          case measure => exact by have h1 := HS4.restLen; have h2 := HS.restLen; have h3 := hl1.out; rw [List.length_drop] at h1; show restLen w4 g < restLen wr g; omega
      · go_wp2_with (go_at_call 71; refine (lose_any g m l' j' lo' u5 fs w _ HS3 HF3 hl1.out hj1.out hlo1.out HG3).mono ?_; rintro e w4 ⟨rfl, HS4, HF4, HG4, HK4⟩)
        go_roundw
        case rel => exact ⟨n, l'.drop 1, fs, j' + 1, lo' + 1, HS4, HF4, HG4, HK4 gd _ _ hb3 (by decide) (by decide), hd_ (HLO.out (by decide))⟩
        case measure => exact by have h1 := HS4.restLen; have h2 := HS.restLen; have h3 := hl1.out; rw [List.length_drop] at h1; show restLen w4 g < restLen wr g; omega
      · obtain ⟨e1, e2, e3, e4, e5, e6⟩ := HC3.out rfl
        obtain ⟨N, hN, hN24⟩ : ∃ N : Nat, lenN l' = (N : Int) ∧ N < 16777216 := by
          obtain ⟨v', _, hr⟩ := HS3
          exact lenN_range hr.1.1
        obtain ⟨a1, a2, a3, a4, a5⟩ := HFI.out
        rw [hN] at e4 e5 a1
        rw [show ((N : Int)).toNat = N from rfl] at a1
        have hN1 : Hid (N ≤ 1048576) := hd_ (by omega)
        have hl14 : N + 14 ≤ l'.length := by omega
        have hfs : Hid ((fs.length + 1) * 32 ≤ 140737488355328) := hd_ (by omega)
        have hd14 : (l'.drop (N + 14)).length + (N + 14) = l'.length := by rw [List.length_drop]; omega
        have hrel : Hid ((l'.drop (N + 14)).length ≤ n ∧ scanA m en n (l'.drop (N + 14)) (fs ++ [(l'.getD 2 0, (l'.drop 10).take N)]) j' lo' = R ∧ (fs ++ [(l'.getD 2 0, (l'.drop 10).take N)]).length * 14 + (l'.drop (N + 14)).length ≤ 35184372088832 ∧ j' + (l'.drop (N + 14)).length < 4611686018427387904 ∧ lo' + (l'.drop (N + 14)).length < 4611686018427387904) :=
          hd_ ⟨by omega, a1 rfl, by rw [List.length_append, List.length_singleton]; omega, by omega, by omega⟩
        have hmeas : Hid ((l'.drop (N + 14)).length < l'.length) := hd_ (by omega)
        have HL14 := hd_ hl14
        clear e1 e2 e3 e4 e5 e6 a1 a2 a3 a4 a5 hd14 hl14
        go_wp2_with (go_at_call 72; refine (find_any g m l' j' lo' N u5 fs w _ HS3 HF3 hN hN1.out HL14.out hfs.out HG3).mono ?_; rintro e w4 ⟨lv4, rfl, HS4, HF4, HG4, HK4⟩)
        go_roundw
        case rel => exact ⟨n, l'.drop (N + 14), _, j', lo', HS4, HF4, HG4, HK4 gd _ _ hb3 (by decide) (by decide), hrel⟩
        case measure => exact by have h1 := HS4.restLen; have h2 := HS.restLen; have h3 := hmeas.out; show restLen w4 g < restLen wr g; omega
end Go.Proofs.Ytilmmohkdgmhnaa
