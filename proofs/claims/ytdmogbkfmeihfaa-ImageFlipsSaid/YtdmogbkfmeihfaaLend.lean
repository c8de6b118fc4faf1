/- Lists that are lent. -/
import Derived.Test.YtdmogbkfmeihfaaLeb
import Derived.Deep.QuietTactic
import Derived.BigQuiet
import Derived.Laws.IdiomStrings
namespace Go.Proofs.Ytdmogbkfmeihfaa
open Go.RowKit
set_option maxRecDepth 100000
set_option linter.unusedVariables false
theorem Same_any (v u : Value) (l m : List Int) (w : World) (HR : Rd w v l) (HS : Rd w u m) :
    Calls Try.prog 25 #[v, u] w fun e w' => e = .returned (.bool (decide (l = m))) ∧ w = w' := by
  have h1 := HR.str (P := Try.prog) 22 5 9 Try.underlying22 Try.underlying5 Try.underlying9
  have h2 := HS.str (P := Try.prog) 22 5 9 Try.underlying22 Try.underlying5 Try.underlying9
  have he := str_eq HR.1 HS.1
  go_enter Try.func25, Try.ntmps25
  go_wp2
  go_ret
  exact ⟨rfl, rfl⟩
/-- a list in a longer one, whose other places are marked -/
def markL (n : Nat) : Nat → List Int
  | 0 => []
  | k + 1 => markL n k ++ [((201 + n + k : Nat) : Int) % 256]
theorem markL_length (n : Nat) : ∀ k, (markL n k).length = k
  | 0 => rfl
  | k + 1 => by rw [markL, List.length_append, markL_length n k]; rfl
theorem markL_bytes (n : Nat) : ∀ k, IsBytes (markL n k)
  | 0 => fun b hb => absurd hb (by simp [markL])
  | k + 1 => bytes_append (markL_bytes n k) (one_bytes (by omega) (by omega))
theorem markL_getD (n : Nat) : ∀ (k j : Nat), j < k → (markL n k).getD j 0 = ((201 + n + j : Nat) : Int) % 256
  | k + 1, j, h => by
    rw [markL]
    by_cases hj : j < k
    · rw [getD_left (by rw [markL_length]; exact hj), markL_getD n k j hj]
    · obtain rfl : j = k := by omega
      rw [getD_mid (markL_length n j).symm]
def lendL (l : List Int) : List Int := l ++ markL l.length 9
theorem lendL_length (l : List Int) : (lendL l).length = l.length + 9 := by unfold lendL; rw [List.length_append, markL_length]
/-- the marks alone, k of n places laid -/
def fillM (n k : Nat) : List Int := (List.range k).map (fun j => ((201 + j : Nat) : Int) % 256) ++ List.replicate (n - k) 0
theorem fillM_length {n k : Nat} (h : k ≤ n) : (fillM n k).length = n := by unfold fillM; rw [List.length_append, List.length_map, List.length_range, List.length_replicate]; omega
theorem fillM_zero (n : Nat) : fillM n 0 = List.replicate n 0 := rfl
theorem fillM_set {n k : Nat} (h : k < n) : (fillM n k).set k (((201 + k : Nat) : Int) % 256) = fillM n (k + 1) := by
  unfold fillM
  have hl : ((List.range k).map (fun j => ((201 + j : Nat) : Int) % 256)).length = k := by rw [List.length_map, List.length_range]
  rw [List.set_append_right _ _ (by omega), hl, Nat.sub_self, show n - k = (n - (k + 1)) + 1 by omega, List.replicate_succ, List.set_cons_zero, List.range_succ, List.map_append, List.append_assoc]
  rfl
theorem fillM_getD {n : Nat} (j : Nat) (h : j < n) : (fillM n n).getD j 0 = ((201 + j : Nat) : Int) % 256 := by
  unfold fillM
  rw [Nat.sub_self, List.replicate_zero, List.append_nil, List.getD_eq_getElem?_getD, List.getElem?_map, List.getElem?_range h]
  rfl
theorem list_ext {a b : List Int} (hl : a.length = b.length) (h : ∀ j, j < a.length → a.getD j 0 = b.getD j 0) : a = b := by
  refine List.ext_getElem hl fun j h1 h2 => ?_
  have := h j h1
  rw [List.getD_eq_getElem?_getD, List.getD_eq_getElem?_getD, List.getElem?_eq_getElem h1, List.getElem?_eq_getElem h2] at this
  exact this
theorem fillM_drop (n : Nat) : (fillM (n + 9) (n + 9)).drop n = markL n 9 := by
  have hl : ((fillM (n + 9) (n + 9)).drop n).length = 9 := by rw [List.length_drop, fillM_length (Nat.le_refl _)]; omega
  refine list_ext (by rw [hl, markL_length]) fun j hj => ?_
  rw [hl] at hj
  rw [markL_getD n 9 j hj, List.getD_eq_getElem?_getD, List.getElem?_drop, ← List.getD_eq_getElem?_getD, fillM_getD _ (by omega), Nat.add_assoc]
theorem fillM_byte (k : Nat) : 0 ≤ ((201 + k : Nat) : Int) % 256 ∧ ((201 + k : Nat) : Int) % 256 < 256 := by omega
/-- the front of a row of one's own -/
theorem sl_front {P : Program} {t e : TypeId} (ht : P.underlying t = some (.slice e)) (hinfo : (P.info? e).map (fun i => (i.zero, i.size, i.bytes)) = some (some (.int .u8 0), 1, 1)) {w : World} {g n cap : Nat} {xs : List Int} (h : Rd w (.slice (some ⟨g, 0, none⟩) n cap) xs) (hn : xs.length = n) (k : Nat) (hk : k ≤ n) :
    ∃ u, (∀ W, (Instr.slice t (.slice (some ⟨g, 0, none⟩) n cap) none (some (.int .i64 (k : Int))) none).run P W = .ok u W) ∧ Rd w u (xs.take k) ∧ u.ownBlock = some g := by
  subst hn
  obtain ⟨A, cap', hv, h1, h2, h3, h4⟩ := h.form
  injection hv with e1 e2 e3
  subst e1; subst e3
  have hel : P.elem t = e := by simp [Program.elem, ht]
  have hc := h.cut 0 k cap (Nat.zero_le _) hk (by omega) (Nat.le_refl _)
  rw [List.drop_zero] at hc
  refine ⟨sliced (some ⟨g, 0, none⟩) 0 k cap 1, fun W => ?_, hc, ?_⟩
  · rw [run_slice_h (P := P) W t _ xs.length cap (by rw [hel]; exact ht) .i64 k (by omega) (by omega), hel, run_size hinfo]
    simp
  · unfold sliced
    split <;> simp [Value.ownBlock, Addr.add]
def LendRet (w : World) (l : List Int) (e : Ending) (w' : World) : Prop :=
  ∃ g cap p, e = .returned (.tuple #[.slice (some ⟨g, 0, none⟩) (l.length + 9) cap, p]) ∧ Own w' w.heap.size 5 (.slice (some ⟨g, 0, none⟩) (l.length + 9) cap) (lendL l) ∧ Rd w' p l ∧ p.ownBlock = some g ∧ Below w.heap.size w w'
set_option maxHeartbeats 2000000 in
theorem Lend_any (v : Value) (l : List Int) (w : World) (HR : Rd w v l) (hl : l.length ≤ 140737488351232) :
    Calls Try.prog 13 #[v] w (LendRet w l) := by
  have hlen := HR.2.len (P := Try.prog) 22 5 3 Try.underlying22
  have hm0 : (markL 0 0 ++ List.replicate (l.length + 9) (0 : Int)) = List.replicate (l.length + 9) 0 := rfl
  have HRR := hd_ HR
  have HLL := hd_ hl
  clear HR
  go_enter Try.func13, Try.ntmps13
  go_wp2_with (at_make; refine make_bytes (w0 := w) w.heap.size rfl _ _ 22 5 rfl Try.underlying22 infoB _ _ _ _ (l.length + 9) rfl rfl (by omega) (by omega) (by omega) (Below.refl _ _) (Nat.le_refl _) ?_; intro v1 w1 HO1 HB1 hg1 hat1)
  obtain ⟨gb, cap, rfl, hgb⟩ := HO1.block hat1
  rw [List.length_replicate] at HO1 ⊢
  have hcap : l.length + 9 ≤ cap ∧ cap ≤ 9223372036854775807 := by
    obtain ⟨_, _, hcv, h1, h2, _⟩ := HO1.rd.form
    rw [List.length_replicate] at hcv h1
    injection hcv with _ _ e3
    subst e3
    unfold maxLen at h2
    omega
  rw [← fillM_zero] at HO1
  have HGB := hd_ hgb
  clear hat1 hg1 hgb
  obtain ⟨n, hn⟩ : ∃ n, l.length + 9 = n := ⟨_, rfl⟩
  have hn2 : (l.length : Int) + 9 = (n : Int) := by omega
  have HN := hd_ hn
  rw [hn] at HO1 hcap ⊢
  clear hn
  obtain ⟨V, hV⟩ : ∃ V, V = Value.slice (some ⟨gb, 0, none⟩) n cap := ⟨_, rfl⟩
  have hlenV : ∀ W : World, Sem.run Try.prog (Builtin.len_ #[22] 3 #[V]) W = .ok (.int .i64 n) W := fun W => by
    have := HO1.rd.2.len (P := Try.prog) 22 5 3 Try.underlying22 W
    rw [fillM_length (Nat.zero_le _)] at this
    rw [hV]; exact this
  rw [← hV] at HO1 ⊢
  have HV := hd_ hV
  clear hV
  go_wp2
  rw [hlenV]
  simp only [Result.andThen_ok]
  go_wp2
  go_loopw [12] (fun vi wr => ∃ k : Nat, k ≤ n ∧ vi = .int .i64 k ∧ Own wr w.heap.size 5 V (fillM n k) ∧ Below w.heap.size w wr) (fun i _ => n - (intOf i).toNat)
  case atStart => exact ⟨0, Nat.zero_le _, rfl, HO1, HB1⟩
  case round =>
    clear HO1 HB1
    obtain ⟨k, hk, rfl, HO, HB⟩ := hrel
    by_cases hlt : k < n
    · obtain ⟨bl, off, hat0, hcell⟩ := HO.rd.at Try.underlying22 infoB .i64 k (by rw [fillM_length hk]; exact hlt)
      obtain ⟨g9, cap9, hvv, hb9, hc9, hm9, hcl9, hz9⟩ := HO.slot (by intro h; have := fillM_length hk; rw [h] at this; simp at this; omega)
      have hbo : bl = gb ∧ off = k := by
        have h1 := hat0 w
        rw [HV.out] at h1
        have hel : Try.prog.elem 22 = 5 := by simp [Program.elem, Try.underlying22]
        rw [run_indexAt_slice (P := Try.prog) w 22 _ _ _ .i64 _ (by rw [hel]; exact Try.underlying22), hel, if_pos (by omega), run_size infoB] at h1
        simp [Result.andThen, Addr.add_lit] at h1
        omega
      obtain ⟨rfl, rfl⟩ := hbo
      have hat : ∀ W, Sem.run Try.prog (Instr.indexAt 22 V (Value.int IntKind.i64 (off : Int))) W = .ok (.pointer (some ⟨bl, off, none⟩)) W := hat0
      have hz : wr.frozen? ⟨bl, off, none⟩ = false := by
        rw [HV.out] at hvv
        injection hvv with e1 _ _
        injection e1 with e1
        injection e1 with e1
        subst e1
        exact hz9 off
      have hput := (show Own wr w.heap.size 5 (.slice (some ⟨bl, 0, none⟩) n cap) (fillM n off) from HV.out ▸ HO)
      obtain ⟨x0, x1⟩ := fillM_byte off
      have hw1 : ((201 : Int) + (off : Int)) % 256 = ((201 + off : Nat) : Int) % 256 := by omega
      have hP := hput.put off (((201 + off : Nat) : Int) % 256) x0 x1
      rw [fillM_set hlt] at hP
      have HP := hd_ (HV.out ▸ hP.1 : Own _ w.heap.size 5 V (fillM n (off + 1)))
      have HBP := hd_ (below_put hput HB HB.size off (.int .u8 (((201 + off : Nat) : Int) % 256)))
      generalize ((201 + off : Nat) : Int) % 256 = x at *
      clear hvv hb9 hc9 hm9 hcl9 hz9 hat0 HO HB hput hP
      go_wp2
      go_roundw
      case rel => exact ⟨off + 1, by omega, by go_num, HP.out, HBP.out⟩
      case measure => (simp [intOf]; try omega)
    · obtain rfl : k = n := by omega
      have hput := (show Own wr w.heap.size 5 (.slice (some ⟨gb, 0, none⟩) k cap) (fillM k k) from HV.out ▸ HO)
      have hRl := HRR.out.keep HB
      have hfl := fillM_length (Nat.le_refl k)
      have hcp : Hid ((fillM k k).take 0 ++ (l ++ (fillM k k).drop (0 + l.length)) = lendL l) := hd_ (by
        rw [List.take_zero, List.nil_append, Nat.zero_add, ← HN.out, fillM_drop]
        rfl)
      go_wp2_with (refine copy_own (w0 := w) w.heap.size rfl _ _ 22 5 rfl Try.underlying22 infoB gb cap 0 k (fillM k k) l hfl _ k cap v HV.out (fun _ => rfl) (by omega) rfl hput hRl (by omega) HB HB.size ?_; intro w2 HO2 HB2 hg2; rw [hcp.out] at HO2)
      obtain ⟨p, hs0, hRp, hpb⟩ := sl_front Try.underlying22 infoB HO2.rd (by rw [lendL_length]; exact HN.out) l.length (by omega)
      have hs : ∀ W : World, Sem.run Try.prog (Instr.slice 22 V none (some (Value.int IntKind.i64 (l.length : Int))) none) W = .ok p W := fun W => by rw [HV.out]; exact hs0 W
      have hRp : Rd w2 p l := by
        have e : (lendL l).take l.length = l := by unfold lendL; rw [List.take_left]
        rwa [e] at hRp
      clear hs0 HO hput hRl hfl hcp
      go_upto_region 8 with fail
      go_quiet (fail)
      go_wp2
      go_ret2
      refine ⟨gb, cap, p, ?_, by rw [HN.out]; exact HO2.keep (below_drewN (Below.refl _ _) _), hRp.keep (below_drewN (Below.refl _ _) _), hpb, below_drewN HB2 _⟩
      rw [HN.out, ← HV.out]
      rfl
set_option maxHeartbeats 2000000 in
/-- what was lent is as it was -/
theorem Kept_true (v u : Value) (l : List Int) (w : World) (HW : Rd w v (lendL l)) (HR : Rd w u l) (hl : l.length ≤ 140737488351232) :
    Calls Try.prog 18 #[v, u] w fun e w' => e = .returned (.bool true) ∧ Below w.heap.size w w' := by
  have hlen1 := HW.2.len (P := Try.prog) 22 5 3 Try.underlying22
  have hlen2 := HR.2.len (P := Try.prog) 22 5 3 Try.underlying22
  have hlt := HW.lt63
  rw [lendL_length] at hlen1 hlt
  obtain ⟨n, hn⟩ : ∃ n, l.length + 9 = n := ⟨_, rfl⟩
  have hn2 : (l.length : Int) + 9 = (n : Int) := by omega
  have HN := hd_ hn
  rw [hn] at hlen1 hlt
  have HWW := hd_ HW
  have HRR := hd_ HR
  clear HW HR hn
  go_enter Try.func18, Try.ntmps18
  go_wp2
  go_loopw [14] (fun vi wr => ∃ k : Nat, k ≤ n ∧ vi = .int .i64 k ∧ Below w.heap.size w wr) (fun i _ => n - (intOf i).toNat)
  case atStart => exact ⟨0, Nat.zero_le _, rfl, Below.refl _ _⟩
  case round =>
    obtain ⟨k, hk, rfl, HB⟩ := hrel
    by_cases hlt2 : k < n
    · obtain ⟨b1, o1, hat10, hc10⟩ := HWW.out.at Try.underlying22 infoB .i64 k (by rw [lendL_length, HN.out]; exact hlt2)
      have hat1 : ∀ W, Sem.run Try.prog (Instr.indexAt 22 v (Value.int IntKind.i64 (k : Int))) W = .ok (.pointer (some ⟨b1, o1, none⟩)) W := hat10
      have hc1 := cell_keep HB hc10
      clear hat10 hc10
      by_cases hin : k < l.length
      · obtain ⟨b2, o2, hat20, hc20⟩ := HRR.out.at Try.underlying22 infoB .i64 k hin
        have hat2 : ∀ W, Sem.run Try.prog (Instr.indexAt 22 u (Value.int IntKind.i64 (k : Int))) W = .ok (.pointer (some ⟨b2, o2, none⟩)) W := hat20
        have hc2 := cell_keep HB hc20
        have e : (lendL l).getD k 0 = l.getD k 0 := by unfold lendL; exact getD_left hin
        rw [e] at hc1
        have hi : (k : Int) < (l.length : Int) := by omega
        have hi2 : decide ((k : Int) < (l.length : Int)) = true := decide_eq_true hi
        have hi3 : decide (l.length ≤ k) = false := decide_eq_false (by omega)
        have hi4 : decide (k < l.length) = true := decide_eq_true hin
        generalize l.getD k 0 = x at *
        clear hat20 hc20 e
        go_upto_region 6 with fail
        go_quiet (fail)
        go_wp2
        go_roundw
        case rel => exact ⟨k + 1, by omega, by go_num, below_drewN HB _⟩
        case measure => (simp [intOf]; try omega)
      · have e : (lendL l).getD k 0 = ((201 + k : Nat) : Int) % 256 := by
          unfold lendL
          rw [List.getD_eq_getElem?_getD, List.getElem?_append_right (by omega), ← List.getD_eq_getElem?_getD, markL_getD _ _ _ (by have := HN.out; omega)]
          congr 2
          omega
        rw [e] at hc1
        have hi : ¬ (k : Int) < (l.length : Int) := by omega
        have hi2 : decide ((k : Int) < (l.length : Int)) = false := decide_eq_false hi
        have hi3 : decide (l.length ≤ k) = true := decide_eq_true (by omega)
        have hi4 : decide (k < l.length) = false := decide_eq_false hin
        have hw1 : IntKind.i64.wrap ((201 : Int) + (k : Int)) = (201 : Int) + (k : Int) := by rw [IntKind.wrap_i64]; omega
        have hw2 : IntKind.u8.wrap ((201 : Int) + (k : Int)) = ((201 + k : Nat) : Int) % 256 := by rw [IntKind.wrap_u8]; omega
        have hw3 : ((201 : Int) + (k : Int)) % 256 = ((201 + k : Nat) : Int) % 256 := by omega
        generalize ((201 + k : Nat) : Int) % 256 = x at *
        clear e
        go_upto_region 6 with fail
        go_quiet (fail)
        go_wp2
        go_roundw
        case rel => exact ⟨k + 1, by omega, by go_num, below_drewN HB _⟩
        case measure => (simp [intOf]; try omega)
    · obtain rfl : k = n := by omega
      go_wp2
      go_ret
      exact ⟨rfl, HB⟩
end Go.Proofs.Ytdmogbkfmeihfaa
