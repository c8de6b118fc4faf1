/- The hasher of the document, and the look at lists of one own: merged out of ShbP and ShcO. -/
import Derived.Test.YtcaljnlicohkaaaLeb
import Derived.Deep.QuietTactic
import Derived.BigQuiet
import Derived.Laws.IdiomStrings
import Derived.Test.YtcaljnlicohkaaaMem11
import Derived.Test.YtcaljnlicohkaaaShaU
import Derived.Test.YtcaljnlicohkaaaShaP
import Derived.Lib.SlBytesConst
import Derived.Test.YtcaljnlicohkaaaShbI
import Derived.StillTailTactics
import Derived.Test.YtcaljnlicohkaaaShaQ
import Derived.Test.YtcaljnlicohkaaaRegJ
namespace Go.Proofs.Ytcaljnlicohkaaa
open Go.RowKit
set_option maxRecDepth 100000
set_option linter.unusedVariables false
theorem Same_any (v u : Value) (l m : List Int) (w : World) (HR : Rd w v l) (HS : Rd w u m) :
    Calls Try.prog 29 #[v, u] w fun e w' => e = .returned (.bool (decide (l = m))) ∧ w = w' := by
  have h1 := HR.str (P := Try.prog) 34 5 9 Try.underlying34 Try.underlying5 Try.underlying9
  have h2 := HS.str (P := Try.prog) 34 5 9 Try.underlying34 Try.underlying5 Try.underlying9
  have he := str_eq HR.1 HS.1
  go_enter Try.func29, Try.ntmps29
  go_wp2
  go_ret
  exact ⟨rfl, rfl⟩
/-- a list in a longer one, whose other places are marked -/
def markL (n : Nat) : Nat → List Int
  | 0 => []
  | k + 1 => markL n k ++ [((201 + n + k : Nat) : Int) % 256]
theorem markL_length (n : Nat) : ∀ k, (markL n k).length = k
  | 0 => rfl
  | k + 1 => by rw [markL, List.length_append, markL_length n k]; rfl
theorem markL_bytes (n : Nat) : ∀ k, IsBytes (markL n k)
  | 0 => fun b hb => absurd hb (by simp [markL])
  | k + 1 => bytes_append (markL_bytes n k) (one_bytes (by omega) (by omega))
theorem markL_getD (n : Nat) : ∀ (k j : Nat), j < k → (markL n k).getD j 0 = ((201 + n + j : Nat) : Int) % 256
  | k + 1, j, h => by
    rw [markL]
    by_cases hj : j < k
    · rw [getD_left (by rw [markL_length]; exact hj), markL_getD n k j hj]
    · obtain rfl : j = k := by omega
      rw [getD_mid (markL_length n j).symm]
def lendL (l : List Int) : List Int := l ++ markL l.length 9
theorem lendL_length (l : List Int) : (lendL l).length = l.length + 9 := by unfold lendL; rw [List.length_append, markL_length]
/-- the marks alone, k of n places laid -/
def fillM (n k : Nat) : List Int := (List.range k).map (fun j => ((201 + j : Nat) : Int) % 256) ++ List.replicate (n - k) 0
theorem fillM_length {n k : Nat} (h : k ≤ n) : (fillM n k).length = n := by unfold fillM; rw [List.length_append, List.length_map, List.length_range, List.length_replicate]; omega
theorem fillM_zero (n : Nat) : fillM n 0 = List.replicate n 0 := rfl
theorem fillM_set {n k : Nat} (h : k < n) : (fillM n k).set k (((201 + k : Nat) : Int) % 256) = fillM n (k + 1) := by
  unfold fillM
  have hl : ((List.range k).map (fun j => ((201 + j : Nat) : Int) % 256)).length = k := by rw [List.length_map, List.length_range]
  rw [List.set_append_right _ _ (by omega), hl, Nat.sub_self, show n - k = (n - (k + 1)) + 1 by omega, List.replicate_succ, List.set_cons_zero, List.range_succ, List.map_append, List.append_assoc]
  rfl
theorem fillM_getD {n : Nat} (j : Nat) (h : j < n) : (fillM n n).getD j 0 = ((201 + j : Nat) : Int) % 256 := by
  unfold fillM
  rw [Nat.sub_self, List.replicate_zero, List.append_nil, List.getD_eq_getElem?_getD, List.getElem?_map, List.getElem?_range h]
  rfl
theorem list_ext {a b : List Int} (hl : a.length = b.length) (h : ∀ j, j < a.length → a.getD j 0 = b.getD j 0) : a = b := by
  refine List.ext_getElem hl fun j h1 h2 => ?_
  have := h j h1
  rw [List.getD_eq_getElem?_getD, List.getD_eq_getElem?_getD, List.getElem?_eq_getElem h1, List.getElem?_eq_getElem h2] at this
  exact this
theorem fillM_drop (n : Nat) : (fillM (n + 9) (n + 9)).drop n = markL n 9 := by
  have hl : ((fillM (n + 9) (n + 9)).drop n).length = 9 := by rw [List.length_drop, fillM_length (Nat.le_refl _)]; omega
  refine list_ext (by rw [hl, markL_length]) fun j hj => ?_
  rw [hl] at hj
  rw [markL_getD n 9 j hj, List.getD_eq_getElem?_getD, List.getElem?_drop, ← List.getD_eq_getElem?_getD, fillM_getD _ (by omega), Nat.add_assoc]
theorem fillM_byte (k : Nat) : 0 ≤ ((201 + k : Nat) : Int) % 256 ∧ ((201 + k : Nat) : Int) % 256 < 256 := by omega
/-- the front of a row of one's own -/
theorem sl_front {P : Program} {t e : TypeId} (ht : P.underlying t = some (.slice e)) (hinfo : (P.info? e).map (fun i => (i.zero, i.size, i.bytes)) = some (some (.int .u8 0), 1, 1)) {w : World} {g n cap : Nat} {xs : List Int} (h : Rd w (.slice (some ⟨g, 0, none⟩) n cap) xs) (hn : xs.length = n) (k : Nat) (hk : k ≤ n) :
    ∃ u, (∀ W, (Instr.slice t (.slice (some ⟨g, 0, none⟩) n cap) none (some (.int .i64 (k : Int))) none).run P W = .ok u W) ∧ Rd w u (xs.take k) ∧ u.ownBlock = some g := by
  subst hn
  obtain ⟨A, cap', hv, h1, h2, h3, h4⟩ := h.form
  injection hv with e1 e2 e3
  subst e1; subst e3
  have hel : P.elem t = e := by simp [Program.elem, ht]
  have hc := h.cut 0 k cap (Nat.zero_le _) hk (by omega) (Nat.le_refl _)
  rw [List.drop_zero] at hc
  refine ⟨sliced (some ⟨g, 0, none⟩) 0 k cap 1, fun W => ?_, hc, ?_⟩
  · rw [run_slice_h (P := P) W t _ xs.length cap (by rw [hel]; exact ht) .i64 k (by omega) (by omega), hel, run_size hinfo]
    simp
  · unfold sliced
    split <;> simp [Value.ownBlock, Addr.add]
def LendRet (w : World) (l : List Int) (e : Ending) (w' : World) : Prop :=
  ∃ g cap p, e = .returned (.tuple #[.slice (some ⟨g, 0, none⟩) (l.length + 9) cap, p]) ∧ Own w' w.heap.size 5 (.slice (some ⟨g, 0, none⟩) (l.length + 9) cap) (lendL l) ∧ Rd w' p l ∧ p.ownBlock = some g ∧ Below w.heap.size w w'
set_option maxHeartbeats 2000000 in
theorem Lend_any (v : Value) (l : List Int) (w : World) (HR : Rd w v l) (hl : l.length ≤ 140737488351232) :
    Calls Try.prog 16 #[v] w (LendRet w l) := by
  have hlen := HR.2.len (P := Try.prog) 34 5 3 Try.underlying34
  have hm0 : (markL 0 0 ++ List.replicate (l.length + 9) (0 : Int)) = List.replicate (l.length + 9) 0 := rfl
  have HRR := hd_ HR
  have HLL := hd_ hl
  clear HR
  go_enter Try.func16, Try.ntmps16
  go_wp2_with (at_make; refine make_bytes (w0 := w) w.heap.size rfl _ _ 34 5 rfl Try.underlying34 infoB _ _ _ _ (l.length + 9) rfl rfl (by omega) (by omega) (by omega) (Below.refl _ _) (Nat.le_refl _) ?_; intro v1 w1 HO1 HB1 hg1 hat1)
  obtain ⟨gb, cap, rfl, hgb⟩ := HO1.block hat1
  rw [List.length_replicate] at HO1 ⊢
  have hcap : l.length + 9 ≤ cap ∧ cap ≤ 9223372036854775807 := by
    obtain ⟨_, _, hcv, h1, h2, _⟩ := HO1.rd.form
    rw [List.length_replicate] at hcv h1
    injection hcv with _ _ e3
    subst e3
    unfold maxLen at h2
    omega
  rw [← fillM_zero] at HO1
  have HGB := hd_ hgb
  clear hat1 hg1 hgb
  obtain ⟨n, hn⟩ : ∃ n, l.length + 9 = n := ⟨_, rfl⟩
  have hn2 : (l.length : Int) + 9 = (n : Int) := by omega
  have HN := hd_ hn
  rw [hn] at HO1 hcap ⊢
  clear hn
  obtain ⟨V, hV⟩ : ∃ V, V = Value.slice (some ⟨gb, 0, none⟩) n cap := ⟨_, rfl⟩
  have hlenV : ∀ W : World, Sem.run Try.prog (Builtin.len_ #[34] 3 #[V]) W = .ok (.int .i64 n) W := fun W => by
    have := HO1.rd.2.len (P := Try.prog) 34 5 3 Try.underlying34 W
    rw [fillM_length (Nat.zero_le _)] at this
    rw [hV]; exact this
  rw [← hV] at HO1 ⊢
  have HV := hd_ hV
  clear hV
  go_wp2
  rw [hlenV]
  simp only [Result.andThen_ok]
  go_wp2
  go_loopw [12] (fun vi wr => ∃ k : Nat, k ≤ n ∧ vi = .int .i64 k ∧ Own wr w.heap.size 5 V (fillM n k) ∧ Below w.heap.size w wr) (fun i _ => n - (intOf i).toNat)
  case atStart => exact ⟨0, Nat.zero_le _, rfl, HO1, HB1⟩
  case round =>
    clear HO1 HB1
    obtain ⟨k, hk, rfl, HO, HB⟩ := hrel
    by_cases hlt : k < n
    · obtain ⟨bl, off, hat0, hcell⟩ := HO.rd.at Try.underlying34 infoB .i64 k (by rw [fillM_length hk]; exact hlt)
      obtain ⟨g9, cap9, hvv, hb9, hc9, hm9, hcl9, hz9⟩ := HO.slot (by intro h; have := fillM_length hk; rw [h] at this; simp at this; omega)
      have hbo : bl = gb ∧ off = k := by
        have h1 := hat0 w
        rw [HV.out] at h1
        have hel : Try.prog.elem 34 = 5 := by simp [Program.elem, Try.underlying34]
        rw [run_indexAt_slice (P := Try.prog) w 34 _ _ _ .i64 _ (by rw [hel]; exact Try.underlying34), hel, if_pos (by omega), run_size infoB] at h1
        simp [Result.andThen, Addr.add_lit] at h1
        omega
      obtain ⟨rfl, rfl⟩ := hbo
      have hat : ∀ W, Sem.run Try.prog (Instr.indexAt 34 V (Value.int IntKind.i64 (off : Int))) W = .ok (.pointer (some ⟨bl, off, none⟩)) W := hat0
      have hz : wr.frozen? ⟨bl, off, none⟩ = false := by
        rw [HV.out] at hvv
        injection hvv with e1 _ _
        injection e1 with e1
        injection e1 with e1
        subst e1
        exact hz9 off
      have hput := (show Own wr w.heap.size 5 (.slice (some ⟨bl, 0, none⟩) n cap) (fillM n off) from HV.out ▸ HO)
      obtain ⟨x0, x1⟩ := fillM_byte off
      have hw1 : ((201 : Int) + (off : Int)) % 256 = ((201 + off : Nat) : Int) % 256 := by omega
      have hP := hput.put off (((201 + off : Nat) : Int) % 256) x0 x1
      rw [fillM_set hlt] at hP
      have HP := hd_ (HV.out ▸ hP.1 : Own _ w.heap.size 5 V (fillM n (off + 1)))
      have HBP := hd_ (below_put hput HB HB.size off (.int .u8 (((201 + off : Nat) : Int) % 256)))
      generalize ((201 + off : Nat) : Int) % 256 = x at *
      clear hvv hb9 hc9 hm9 hcl9 hz9 hat0 HO HB hput hP
      go_wp2
      go_roundw
      case rel => exact ⟨off + 1, by omega, by go_num, HP.out, HBP.out⟩
      case measure => (simp [intOf]; try omega)
    · obtain rfl : k = n := by omega
      have hput := (show Own wr w.heap.size 5 (.slice (some ⟨gb, 0, none⟩) k cap) (fillM k k) from HV.out ▸ HO)
      have hRl := HRR.out.keep HB
      have hfl := fillM_length (Nat.le_refl k)
      have hcp : Hid ((fillM k k).take 0 ++ (l ++ (fillM k k).drop (0 + l.length)) = lendL l) := hd_ (by
        rw [List.take_zero, List.nil_append, Nat.zero_add, ← HN.out, fillM_drop]
        rfl)
      go_wp2_with (refine copy_own (w0 := w) w.heap.size rfl _ _ 34 5 rfl Try.underlying34 infoB gb cap 0 k (fillM k k) l hfl _ k cap v HV.out (fun _ => rfl) (by omega) rfl hput hRl (by omega) HB HB.size ?_; intro w2 HO2 HB2 hg2; rw [hcp.out] at HO2)
      obtain ⟨p, hs0, hRp, hpb⟩ := sl_front Try.underlying34 infoB HO2.rd (by rw [lendL_length]; exact HN.out) l.length (by omega)
      have hs : ∀ W : World, Sem.run Try.prog (Instr.slice 34 V none (some (Value.int IntKind.i64 (l.length : Int))) none) W = .ok p W := fun W => by rw [HV.out]; exact hs0 W
      have hRp : Rd w2 p l := by
        have e : (lendL l).take l.length = l := by unfold lendL; rw [List.take_left]
        rwa [e] at hRp
      clear hs0 HO hput hRl hfl hcp
      go_upto_region 8 with fail
      go_quiet (fail)
      go_wp2
      go_ret2
      refine ⟨gb, cap, p, ?_, by rw [HN.out]; exact HO2.keep (below_drewN (Below.refl _ _) _), hRp.keep (below_drewN (Below.refl _ _) _), hpb, below_drewN HB2 _⟩
      rw [HN.out, ← HV.out]
      rfl
set_option maxHeartbeats 2000000 in
/-- what was lent is as it was -/
theorem Kept_true (v u : Value) (l : List Int) (w : World) (HW : Rd w v (lendL l)) (HR : Rd w u l) (hl : l.length ≤ 140737488351232) :
    Calls Try.prog 19 #[v, u] w fun e w' => e = .returned (.bool true) ∧ Below w.heap.size w w' := by
  have hlen1 := HW.2.len (P := Try.prog) 34 5 3 Try.underlying34
  have hlen2 := HR.2.len (P := Try.prog) 34 5 3 Try.underlying34
  have hlt := HW.lt63
  rw [lendL_length] at hlen1 hlt
  obtain ⟨n, hn⟩ : ∃ n, l.length + 9 = n := ⟨_, rfl⟩
  have hn2 : (l.length : Int) + 9 = (n : Int) := by omega
  have HN := hd_ hn
  rw [hn] at hlen1 hlt
  have HWW := hd_ HW
  have HRR := hd_ HR
  clear HW HR hn
  go_enter Try.func19, Try.ntmps19
  go_wp2
  go_loopw [14] (fun vi wr => ∃ k : Nat, k ≤ n ∧ vi = .int .i64 k ∧ Below w.heap.size w wr) (fun i _ => n - (intOf i).toNat)
  case atStart => exact ⟨0, Nat.zero_le _, rfl, Below.refl _ _⟩
  case round =>
    obtain ⟨k, hk, rfl, HB⟩ := hrel
    by_cases hlt2 : k < n
    · obtain ⟨b1, o1, hat10, hc10⟩ := HWW.out.at Try.underlying34 infoB .i64 k (by rw [lendL_length, HN.out]; exact hlt2)
      have hat1 : ∀ W, Sem.run Try.prog (Instr.indexAt 34 v (Value.int IntKind.i64 (k : Int))) W = .ok (.pointer (some ⟨b1, o1, none⟩)) W := hat10
      have hc1 := cell_keep HB hc10
      clear hat10 hc10
      by_cases hin : k < l.length
      · obtain ⟨b2, o2, hat20, hc20⟩ := HRR.out.at Try.underlying34 infoB .i64 k hin
        have hat2 : ∀ W, Sem.run Try.prog (Instr.indexAt 34 u (Value.int IntKind.i64 (k : Int))) W = .ok (.pointer (some ⟨b2, o2, none⟩)) W := hat20
        have hc2 := cell_keep HB hc20
        have e : (lendL l).getD k 0 = l.getD k 0 := by unfold lendL; exact getD_left hin
        rw [e] at hc1
        have hi : (k : Int) < (l.length : Int) := by omega
        have hi2 : decide ((k : Int) < (l.length : Int)) = true := decide_eq_true hi
        have hi3 : decide (l.length ≤ k) = false := decide_eq_false (by omega)
        have hi4 : decide (k < l.length) = true := decide_eq_true hin
        generalize l.getD k 0 = x at *
        clear hat20 hc20 e
        go_upto_region 6 with fail
        go_quiet (fail)
        go_wp2
        go_roundw
        case rel => exact ⟨k + 1, by omega, by go_num, below_drewN HB _⟩
        case measure => (simp [intOf]; try omega)
      · have e : (lendL l).getD k 0 = ((201 + k : Nat) : Int) % 256 := by
          unfold lendL
          rw [List.getD_eq_getElem?_getD, List.getElem?_append_right (by omega), ← List.getD_eq_getElem?_getD, markL_getD _ _ _ (by have := HN.out; omega)]
          congr 2
          omega
        rw [e] at hc1
        have hi : ¬ (k : Int) < (l.length : Int) := by omega
        have hi2 : decide ((k : Int) < (l.length : Int)) = false := decide_eq_false hi
        have hi3 : decide (l.length ≤ k) = true := decide_eq_true (by omega)
        have hi4 : decide (k < l.length) = false := decide_eq_false hin
        have hw1 : IntKind.i64.wrap ((201 : Int) + (k : Int)) = (201 : Int) + (k : Int) := by rw [IntKind.wrap_i64]; omega
        have hw2 : IntKind.u8.wrap ((201 : Int) + (k : Int)) = ((201 + k : Nat) : Int) % 256 := by rw [IntKind.wrap_u8]; omega
        have hw3 : ((201 : Int) + (k : Int)) % 256 = ((201 + k : Nat) : Int) % 256 := by omega
        generalize ((201 + k : Nat) : Int) % 256 = x at *
        clear e
        go_upto_region 6 with fail
        go_quiet (fail)
        go_wp2
        go_roundw
        case rel => exact ⟨k + 1, by omega, by go_num, below_drewN HB _⟩
        case measure => (simp [intOf]; try omega)
    · obtain rfl : k = n := by omega
      go_wp2
      go_ret
      exact ⟨rfl, HB⟩
theorem rdl_built {w : World} {t : TypeId} {vs : List Value} {cs : Array Value} {n : Nat} (xss : List (List Int)) (hc : cs = vs.toArray) (hn : xss.length = n) (hv : vs.length = n) (h1 : ∀ u ∈ vs, u.oneCell' = true) (hm : n ≤ maxLen) (h : ∀ j, j < xss.length → Rd w (vs.getD j undef) (xss.getD j [])) :
    RdL (w.alloc (.cells cs t)) (.slice (some ⟨w.heap.size, 0, none⟩) n n) xss := by
  subst hc
  subst hn
  have hb : Below w.heap.size w (w.alloc (.cells vs.toArray t)) := (Below.refl _ _).alloc (Nat.le_refl _) _
  refine ⟨vs, hv, ⟨by omega, _, _, rfl, Nat.le_refl _, hm, (fun h => by cases h), fun j hj => ⟨_, 0, rfl, ?_⟩⟩, h1, fun j hj => (h j hj).keep hb⟩
  rw [Nat.zero_add, World.cell?_alloc_new]
  simp
theorem rdl_one {w : World} {t : TypeId} {v : Value} {xs : List Int} (HR : Rd w v xs) : RdL (w.alloc (.cells #[v] t)) (.slice (some ⟨w.heap.size, 0, none⟩) 1 1) [xs] := by
  obtain ⟨A, c, rfl, _⟩ := HR.form
  exact rdl_built [xs] (vs := [_]) rfl rfl rfl (by intro u hu; simp at hu; subst hu; rfl) (by decide) (fun j hj => by
    have : j = 0 := by simp at hj; exact hj
    subst this
    exact HR)
theorem rdl_three {w : World} {t : TypeId} {v v2 v3 : Value} {xs xs2 xs3 : List Int} (HR : Rd w v xs) (HR2 : Rd w v2 xs2) (HR3 : Rd w v3 xs3) : RdL (w.alloc (.cells #[v, v2, v3] t)) (.slice (some ⟨w.heap.size, 0, none⟩) 3 3) [xs, xs2, xs3] := by
  obtain ⟨A, c, rfl, _⟩ := HR.form
  obtain ⟨A2, c2, rfl, _⟩ := HR2.form
  obtain ⟨A3, c3, rfl, _⟩ := HR3.form
  exact rdl_built [xs, xs2, xs3] (vs := [_, _, _]) rfl rfl rfl (by intro u hu; simp at hu; rcases hu with rfl | rfl | rfl <;> rfl) (by decide) (fun j hj => by
    have : j = 0 ∨ j = 1 ∨ j = 2 := by simp at hj; omega
    rcases this with rfl | rfl | rfl
    · exact HR
    · exact HR2
    · exact HR3)
def abcD : List Int := [186, 120, 22, 191, 143, 1, 207, 234, 65, 65, 64, 222, 93, 174, 34, 35, 176, 3, 97, 163, 150, 23, 122, 156, 180, 16, 255, 97, 242, 0, 21, 173]
theorem dig_abc : digL [97, 98, 99] = abcD := by kernel_rfl
theorem dig_nil : digL [] = [227, 176, 196, 66, 152, 252, 28, 20, 154, 251, 244, 200, 153, 111, 185, 36, 39, 174, 65, 228, 100, 155, 147, 76, 164, 149, 153, 27, 120, 82, 184, 85] := by kernel_rfl
theorem abc_text : strOfNums (hexL abcD) = { data := #[98, 97, 55, 56, 49, 54, 98, 102, 56, 102, 48, 49, 99, 102, 101, 97, 52, 49, 52, 49, 52, 48, 100, 101, 53, 100, 97, 101, 50, 50, 50, 51, 98, 48, 48, 51, 54, 49, 97, 51, 57, 54, 49, 55, 55, 97, 57, 99, 98, 52, 49, 48, 102, 102, 54, 49, 102, 50, 48, 48, 49, 53, 97, 100] } := by kernel_rfl
theorem rdl_nil (W : World) : RdL W (.slice none 0 0) [] := ⟨[], rfl, ⟨rfl, none, 0, rfl, Nat.le_refl _, by decide, fun _ => rfl, fun j hj => absurd hj (by simp)⟩, fun u hu => absurd hu (by simp), fun j hj => absurd hj (by simp)⟩
theorem dig_nil_bytes : IsBytes (digL []) := by rw [dig_nil]; intro b hb; simp at hb; omega
theorem dig_abc_bytes : IsBytes (digL [97, 98, 99]) := by rw [dig_abc]; unfold abcD; intro b hb; simp at hb; omega
theorem nil_text : strOfNums (hexL (digL [])) = { data := #[101, 51, 98, 48, 99, 52, 52, 50, 57, 56, 102, 99, 49, 99, 49, 52, 57, 97, 102, 98, 102, 52, 99, 56, 57, 57, 54, 102, 98, 57, 50, 52, 50, 55, 97, 101, 52, 49, 101, 52, 54, 52, 57, 98, 57, 51, 52, 99, 97, 52, 57, 53, 57, 57, 49, 98, 55, 56, 53, 50, 98, 56, 53, 53] } := by rw [dig_nil]; exact empty_text
theorem abc_text2 : strOfNums (hexL (digL [97, 98, 99])) = { data := #[98, 97, 55, 56, 49, 54, 98, 102, 56, 102, 48, 49, 99, 102, 101, 97, 52, 49, 52, 49, 52, 48, 100, 101, 53, 100, 97, 101, 50, 50, 50, 51, 98, 48, 48, 51, 54, 49, 97, 51, 57, 54, 49, 55, 55, 97, 57, 99, 98, 52, 49, 48, 102, 102, 54, 49, 102, 50, 48, 48, 49, 53, 97, 100] } := by rw [dig_abc]; exact abc_text
theorem sha_Sum_none (w : World) : Calls Try.prog 17 #[.slice none 0 0] w fun e w' => e = .returned (.agg (u8A (digL []))) ∧ Below w.heap.size w w' :=
  sha_Sum_any _ [] w (rdl_nil w) (fun xs h => absurd h (by simp))
theorem Print_nil (w : World) : Calls Try.prog 12 #[.agg (u8A (digL []))] w fun e w' => e = .returned (.string { data := #[101, 51, 98, 48, 99, 52, 52, 50, 57, 56, 102, 99, 49, 99, 49, 52, 57, 97, 102, 98, 102, 52, 99, 56, 57, 57, 54, 102, 98, 57, 50, 52, 50, 55, 97, 101, 52, 49, 101, 52, 54, 52, 57, 98, 57, 51, 52, 99, 97, 52, 57, 53, 57, 57, 49, 98, 55, 56, 53, 50, 98, 56, 53, 53] }) ∧ Below w.heap.size w w' := by
  refine (sha_Print_any (digL []) (digL_length _) dig_nil_bytes w).mono ?_
  rintro e w1 ⟨rfl, hb⟩
  rw [nil_text]
  exact ⟨rfl, hb⟩
theorem Print_abc (w : World) : Calls Try.prog 12 #[.agg (u8A (digL [97, 98, 99]))] w fun e w' => e = .returned (.string { data := #[98, 97, 55, 56, 49, 54, 98, 102, 56, 102, 48, 49, 99, 102, 101, 97, 52, 49, 52, 49, 52, 48, 100, 101, 53, 100, 97, 101, 50, 50, 50, 51, 98, 48, 48, 51, 54, 49, 97, 51, 57, 54, 49, 55, 55, 97, 57, 99, 98, 52, 49, 48, 102, 102, 54, 49, 102, 50, 48, 48, 49, 53, 97, 100] }) ∧ Below w.heap.size w w' := by
  refine (sha_Print_any (digL [97, 98, 99]) (digL_length _) dig_abc_bytes w).mono ?_
  rintro e w1 ⟨rfl, hb⟩
  rw [abc_text2]
  exact ⟨rfl, hb⟩
theorem abc_rdl (w : World) : RdL (((w.alloc (.cells #[.int .u8 97] 5 (1, 2))).alloc (.cells #[.int .u8 98, .int .u8 99] 5 (2, 3))).alloc (.cells #[.slice (some ⟨w.heap.size, 0, none⟩) 1 1, .slice none 0 0, .slice (some ⟨w.heap.size + 1, 0, none⟩) 2 2] 34)) (.slice (some ⟨w.heap.size + 2, 0, none⟩) 3 3) [[97], [], [98, 99]] ∧
    Below w.heap.size w (((w.alloc (.cells #[.int .u8 97] 5 (1, 2))).alloc (.cells #[.int .u8 98, .int .u8 99] 5 (2, 3))).alloc (.cells #[.slice (some ⟨w.heap.size, 0, none⟩) 1 1, .slice none 0 0, .slice (some ⟨w.heap.size + 1, 0, none⟩) 2 2] 34)) := by
  have h1 : Rd (w.alloc (.cells #[.int .u8 97] 5 (1, 2))) (.slice (some ⟨w.heap.size, 0, none⟩) 1 1) [97] := rd_new [97] rfl rfl (by intro b hb; simp at hb; omega) (by decide)
  have h2 : Rd ((w.alloc (.cells #[.int .u8 97] 5 (1, 2))).alloc (.cells #[.int .u8 98, .int .u8 99] 5 (2, 3))) (.slice (some ⟨(w.alloc (.cells #[.int .u8 97] 5 (1, 2))).heap.size, 0, none⟩) 2 2) [98, 99] := rd_new [98, 99] rfl rfl (by intro b hb; simp at hb; omega) (by decide)
  have e1 : (w.alloc (.cells #[.int .u8 97] 5 (1, 2))).heap.size = w.heap.size + 1 := by simp
  rw [e1] at h2
  have h3 := rdl_three (t := 34) (h1.keep (al1 (Below.refl _ _) (.cells #[.int .u8 98, .int .u8 99] 5 (2, 3)))) (own_nil8 _ 0 0).rd h2
  have e2 : ((w.alloc (.cells #[.int .u8 97] 5 (1, 2))).alloc (.cells #[.int .u8 98, .int .u8 99] 5 (2, 3))).heap.size = w.heap.size + 2 := by simp
  rw [e2] at h3
  exact ⟨h3, al1 (al1 (al1 (Below.refl _ _) _) _) _⟩
theorem sha_Sum_abc (w : World) : Calls Try.prog 17 #[.slice (some ⟨w.heap.size + 2, 0, none⟩) 3 3] (((w.alloc (.cells #[.int .u8 97] 5 (1, 2))).alloc (.cells #[.int .u8 98, .int .u8 99] 5 (2, 3))).alloc (.cells #[.slice (some ⟨w.heap.size, 0, none⟩) 1 1, .slice none 0 0, .slice (some ⟨w.heap.size + 1, 0, none⟩) 2 2] 34)) fun e w' => e = .returned (.agg (u8A (digL [97, 98, 99]))) ∧ Below w.heap.size w w' := by
  obtain ⟨h, hb⟩ := abc_rdl w
  refine (sha_Sum_any _ _ _ h (by intro xs hx; simp at hx; rcases hx with rfl | rfl | rfl <;> decide)).mono ?_
  rintro e w1 ⟨rfl, hb1⟩
  exact ⟨rfl, bel_trans hb hb1⟩
set_option maxHeartbeats 1000000 in
theorem law_ShaKnown (w : World) :
    Calls Try.prog 7 #[] w fun e w' => e = .returned (.bool true) ∧ Below w.heap.size w w' := by
  have kc := fun (w : World) (C : Array Value) (n c : Nat) => Lib.run_convert_bytes_const (P := Try.prog) w 34 5 C n c Try.underlying34 Try.underlying5
  have kc2 : ∀ (w : World) (o : Obj) (C : Array Value) (n c : Nat), (convert 34 34 (.slice (some ⟨w.heap.size + 1, 0, none⟩) n c)).run Try.prog ((w.alloc o).alloc (.cells C 5)) = .ok (.slice (some ⟨w.heap.size + 1, 0, none⟩) n c) ((w.alloc o).alloc (.cells C 5 (C.size, C.size + 1))) := fun w o C n c => by
    have := kc (w.alloc o) C n c
    rw [show (w.alloc o).heap.size = w.heap.size + 1 by simp] at this
    exact this
  go_enter Try.func7, Try.ntmps7
  go_wp2_with (first
    | (go_at_call 17; with_reducible refine (sha_Sum_none _).mono ?_; rintro e w1 ⟨rfl, HB1⟩)
    | (go_at_call 17; with_reducible refine (sha_Sum_abc _).mono ?_; rintro e w3 ⟨rfl, HB3⟩)
    | (go_at_call 12; with_reducible refine (Print_abc _).mono ?_; rintro e w4 ⟨rfl, HB4⟩)
    | (go_at_call 20; with_reducible refine (HsL.new _).mono ?_; rintro e w5 ⟨g, rfl, hH, hg, HB5⟩)
    | (go_at_call 21; with_reducible refine (hH.sum).mono ?_; rintro e w6 ⟨rfl, HB6⟩)
    | (go_at_call 12; with_reducible refine (Print_nil _).mono ?_; rintro e w7 ⟨rfl, HB7⟩))
  go_ret
  exact ⟨rfl, bel_trans HB1 (bel_trans (by assumption) (bel_trans HB3 (bel_trans HB4 (bel_trans HB5 (bel_trans HB6 HB7)))))⟩
set_option linter.unusedSimpArgs false
def byI (s : List W32) (j : Nat) : Int := I (s.getD (j / 4) 0#32) / 2 ^ (24 - 8 * (j % 4)) % 256
theorem byI_eight (a b c d e f g i : W32) : (List.range 32).map (byI [a, b, c, d, e, f, g, i]) = [I a / 2 ^ 24 % 256, I a / 2 ^ 16 % 256, I a / 2 ^ 8 % 256, I a / 2 ^ 0 % 256, I b / 2 ^ 24 % 256, I b / 2 ^ 16 % 256, I b / 2 ^ 8 % 256, I b / 2 ^ 0 % 256, I c / 2 ^ 24 % 256, I c / 2 ^ 16 % 256, I c / 2 ^ 8 % 256, I c / 2 ^ 0 % 256, I d / 2 ^ 24 % 256, I d / 2 ^ 16 % 256, I d / 2 ^ 8 % 256, I d / 2 ^ 0 % 256, I e / 2 ^ 24 % 256, I e / 2 ^ 16 % 256, I e / 2 ^ 8 % 256, I e / 2 ^ 0 % 256, I f / 2 ^ 24 % 256, I f / 2 ^ 16 % 256, I f / 2 ^ 8 % 256, I f / 2 ^ 0 % 256, I g / 2 ^ 24 % 256, I g / 2 ^ 16 % 256, I g / 2 ^ 8 % 256, I g / 2 ^ 0 % 256, I i / 2 ^ 24 % 256, I i / 2 ^ 16 % 256, I i / 2 ^ 8 % 256, I i / 2 ^ 0 % 256] := by kernel_rfl
theorem byI_layS {s : List W32} (h : s.length = 8) : (List.range 32).map (byI s) = layS s 8 := by
  obtain ⟨a, b, c, d, e, f, g, k, rfl⟩ := eight h
  rw [byI_eight, layS_eight]
  simp only [by0_m, by1_m, by2_m, by3_m]
set_option maxHeartbeats 2000000 in
theorem ref_Save_any (g : Nat) (s : List W32) (v : Value) (rest : List Int) (n : Nat) (w : World) (h : Hr w g s v rest n) (hl : rest.length < 64) :
    Calls Try.prog 30 #[.pointer (some ⟨g, 0, none⟩)] w (RetF w (saveL s rest (n % 18446744073709551616))) := by
  have q8 := h.1.cell 8 (hr8 h.2.2.1)
  have kc := fun (w : World) (C : Array Value) (n c : Nat) => Lib.run_convert_bytes_const (P := Try.prog) w 34 5 C n c Try.underlying34 Try.underlying5
  have hB1 := al1 (Below.refl w.heap.size w) (.cells #[.int .u8 104, .int .u8 115] 5 (2, 3))
  have hF1 := litF w w.heap.size (Nat.le_refl _) [104, 115] (by intro b hb; simp at hb; omega) 2 3 5 rfl (by decide)
  have e1 : u8A [104, 115] = #[.int .u8 104, .int .u8 115] := rfl
  rw [e1] at hF1
  clear e1
  have r8 := cell_keep hB1 q8
  have hH := hd_ h
  obtain ⟨m, hm⟩ : ∃ m, m = n % 18446744073709551616 := ⟨_, rfl⟩
  have hbI : IntKind.u64.wrap (IntKind.i64.wrap (n : Int)) = (m : Int) := by rw [hm]; exact len_u64 n
  rw [← hm]
  have hnl := hd_ (And.intro (show m < 18446744073709551616 by omega) hl)
  have hr2 := hd_ (And.intro hB1 hF1)
  generalize IntKind.i64.wrap (n : Int) = z at *
  clear h hl q8 hm hB1 hF1
  go_enter Try.func30, Try.ntmps30
  go_upto_region 2 with (first
    | (go_at_call 42; (with_reducible refine (ref_Bytes_any m hnl.out.1 _).mono ?_); rintro e w1 ⟨v1, rfl, HO1, HB1⟩; have hF1 := hr2.out.2.keep HB1; have hBW1 := bel_trans hr2.out.1 HB1)
    | (at_builtin; (refine app_bytesF (w0 := w) w.heap.size rfl _ _ 34 5 rfl Try.underlying34 infoB _ v1 [104, 115] (lebB m) rfl rfl hF1 HO1.rd hBW1 hBW1.size (by have := lebB_10 hnl.out.1; simp only [List.length_cons, List.length_nil]; omega) ?_); intro v2 w2 HF2 HB2 HC2))
  have hlen := hd_ (show ([104, 115] ++ lebB m).length ≤ 20 by have := lebB_10 hnl.out.1; rw [List.length_append]; simp only [List.length_cons, List.length_nil]; omega)
  obtain ⟨M, hM⟩ : ∃ M, M = [104, 115] ++ lebB m := ⟨_, rfl⟩
  rw [← hM] at HF2 hlen
  have hMH := hd_ hM
  have hst := hd_ (And.intro HF2 HB2)
  clear hM HF2 HB2 HC2 hr2 HO1 HB1 hF1 hBW1 r8 hbI kc
  go_wp2
  go_loopw [3, 4] (fun vb vi wr => ∃ i : Nat, i ≤ 32 ∧ vi = .int .i64 (i : Int) ∧ OwnF wr w.heap.size vb (M ++ (List.range i).map (byI s)) ∧ Below w.heap.size w wr) (fun _ vi _ => 32 - (intOf vi).toNat)
  case atStart => exact ⟨0, Nat.zero_le _, rfl, by simpa using hst.out.1, hst.out.2⟩
  case round =>
    clear hst
    obtain ⟨i, hi, rfl, HO, HB⟩ := hrel
    by_cases hlt : i < 32
    · obtain ⟨f1, f2, f3, f4, f5, f6, f7, f8⟩ := lay_facts i hlt
      have hiI : (i : Int) < 32 := by omega
      have hS := hH.out.keep HB
      have cw : wr.cell? ⟨g, i / 4, none⟩ = some (.int .u32 (I (s.getD (i / 4) 0#32))) := hS.1.cell (i / 4) (by unfold hrC; rw [Array.getElem?_append_left (by rw [wA_size, hS.2.2.1]; omega)]; exact wA_get s _ (by have := hS.2.2.1; omega))
      obtain ⟨L, hL⟩ : ∃ L, L = M ++ (List.range i).map (byI s) := ⟨_, rfl⟩
      rw [← hL] at HO
      have hNx := hd_ (show L ++ [byI s i] = M ++ (List.range (i + 1)).map (byI s) by rw [hL, List.range_succ, List.map_append, List.append_assoc]; rfl)
      have hlB : Hid (L.length + ([byI s i] : List Int).length ≤ 140737488355328) := hd_ (by rw [hL, List.length_append, List.length_map, List.length_range]; have := hlen.out; simp only [List.length_cons, List.length_nil]; omega)
      have hx := hd_ (show 0 ≤ byI s i ∧ byI s i < 256 by unfold byI; omega)
      have hbe : I (s.getD (i / 4) 0#32) / 2 ^ (24 - 8 * (i % 4)) % 256 = byI s i := rfl
      clear hL hS
      generalize byI s i = y at *
      generalize s.getD (i / 4) 0#32 = x at *
      generalize i / 4 = q at *
      generalize i % 4 = r at *
      go_wp2_with (at_builtin; (refine app_bytesF (w0 := w) w.heap.size rfl _ _ 34 5 rfl Try.underlying34 infoB _ (.slice (some ⟨wr.heap.size, 0, none⟩) 1 1) L [y] rfl rfl (HO.keep (al1 (Below.refl _ _) _)) (rd_new (w := wr) [y] rfl rfl (one_bytes hx.out.1 hx.out.2) (show 1 ≤ maxLen by decide)) (al1 HB _) (Nat.le_trans HB.size (size_al _ _)) hlB.out ?_); intro v5 w5 HO5 HB5 hC5)
      rw [hNx.out] at HO5
      go_wp2
      exact ⟨⟨i + 1, hlt, by go_num, HO5, HB5⟩, by simp [intOf]; omega⟩
    · obtain rfl : i = 32 := by omega
      rw [byI_layS hH.out.2.2.1] at HO
      have hS6 := hH.out.keep HB
      have q9 := hS6.1.cell 9 (hr9 hS6.2.2.1)
      have hR6 := hd_ hS6.2.1.rd
      have hl6 := hd_ (show (M ++ layS s 8).length ≤ 52 by have := hlen.out; rw [List.length_append, layS_length]; omega)
      have hF6 := hd_ (And.intro HO HB)
      clear hS6 HO HB hlt hi
      go_wp2_with (first
        | (at_builtin; (refine app_bytesF (w0 := w) w.heap.size rfl _ _ 34 5 rfl Try.underlying34 infoB _ v (M ++ layS s 8) rest rfl rfl hF6.out.1 hR6.out hF6.out.2 hF6.out.2.size (by have := hl6.out; have := hnl.out.2; omega) ?_); intro v7 w7 HF7 HB7 HC7))
      go_ret
      rw [hMH.out] at HF7
      exact ⟨_, rfl, HF7, HB7⟩
set_option linter.unusedSimpArgs false
theorem ld_add (x : W32) {yb : Int} (y0 : 0 ≤ yb) (y1 : yb < 256) : (I x * 256 % 4294967296 + yb % 4294967296) % 4294967296 = I ((x <<< 8) ||| b32 yb) := by
  obtain ⟨y, rfl⟩ := Int.eq_ofNat_of_zero_le y0
  have hy : y < 256 := by omega
  have h1 : (b32 (y : Int)).toNat = y := by
    unfold b32
    rw [BitVec.ofInt_natCast, BitVec.toNat_ofNat]
    omega
  have h2 : (x <<< 8).toNat = 2 ^ 8 * (x.toNat % 16777216) := by
    rw [BitVec.toNat_shiftLeft, Nat.shiftLeft_eq]
    omega
  have h3 : ((x <<< 8) ||| b32 (y : Int)).toNat = 2 ^ 8 * (x.toNat % 16777216) + y := by
    rw [BitVec.toNat_or, h1, h2, ← Nat.two_pow_add_eq_or_of_lt (show y < 2 ^ 8 by omega)]
  unfold I
  rw [h3]
  omega
theorem hrC_word {s : List W32} (h : s.length = 8) {v : Value} {n : Int} {i : Nat} (hi : i < 8) : (hrC s n v)[i]? = some (wv (s.getD i 0#32)) := by
  unfold hrC
  rw [Array.getElem?_append_left (by rw [wA_size, h]; exact hi)]
  exact wA_get s i (by omega)
theorem hrC_set {s : List W32} (h : s.length = 8) {v : Value} {n : Int} {i : Nat} (hi : i < 8) (x : W32) : (hrC s n v).setIfInBounds i (wv x) = hrC (s.set i x) n v := by
  unfold hrC
  rw [Array.setIfInBounds_append_left (by rw [wA_size, h]; exact hi), wA_set]
def LoadRetR (w : World) (l : List Int) (e : Ending) (w' : World) : Prop :=
  (loadR l = none ∧ e = .returned (.tuple #[.pointer none, .int .i64 51]) ∧ Below w.heap.size w w') ∨
  ∃ s rest n g v, loadR l = some (s, rest, n) ∧ e = .returned (.tuple #[.pointer (some ⟨g, 0, none⟩), .int .i64 0]) ∧ Hr w' g s v rest n ∧ w.heap.size ≤ g ∧ (∀ k, v.ownBlock = some k → w.heap.size ≤ k) ∧ Below w.heap.size w w'
theorem wq_all (q : Nat) (h : q ≤ 1152921504606846976) : IntKind.i64.wrap (q : Int) = (q : Int) ∧ IntKind.i64.wrap ((q : Int) % 64) = (q : Int) % 64 ∧ wrap64 (32 + (q : Int) % 64) = 32 + (q : Int) % 64 ∧ wrap64 ((q : Int) % 64) = (q : Int) % 64 ∧ wrap64 (q : Int) = (q : Int) := by
  have w : ∀ x : Int, 0 ≤ x → x ≤ 1152921504606846976 → wrap64 x = x := fun x h0 h1 => by
    unfold wrap64
    omega
  have h64 : 0 ≤ (q : Int) % 64 ∧ (q : Int) % 64 < 64 := ⟨Int.emod_nonneg _ (by decide), Int.emod_lt_of_pos _ (by decide)⟩
  exact ⟨by rw [wrap_i64_64]; exact w _ (by omega) (by omega), by rw [wrap_i64_64]; exact w _ h64.1 (by omega), w _ (by omega) (by omega), w _ h64.1 (by omega), w _ (by omega) (by omega)⟩
theorem load_short {l : List Int} (h : l.length < 3) : loadR l = none := by
  by_cases h2 : l.length < 2
  · exact load_no1 (.inl h2)
  · have e : l.drop 2 = [] := List.drop_eq_nil_of_le (by omega)
    have hD : lebD (l.drop 2) 10 0 = (0, 0, 10) := by rw [e]; rfl
    exact load_no2 hD (.inl (by decide))
set_option maxHeartbeats 4000000 in
theorem ref_Load_any (y : Value) (l : List Int) (w : World) (HR : Rd w y l) (hl : l.length ≤ 140737488351232) :
    Calls Try.prog 33 #[y] w (LoadRetR w l) := by
  have HRH := hd_ HR
  obtain ⟨A, cap, rfl, _, _, _, hc⟩ := HR.form
  clear HR
  by_cases h2 : l.length < 3
  · have h2I : (l.length : Int) < 3 := by omega
    have hno := hd_ (load_short h2)
    clear hc h2
    go_enter Try.func33, Try.ntmps33
    go_wp2
    exact bodyPost_ret (results_tmp2 rfl _ _ _) rfl (.inl ⟨hno.out, rfl, Below.refl _ _⟩)
  have h2I : ¬ ((l.length : Int) < 3) := by omega
  have i0 : (0 : Int) < (l.length : Int) := by omega
  have i1 : (1 : Int) < (l.length : Int) := by omega
  obtain ⟨b, off, rfl, c0⟩ := hc 0 (by omega)
  obtain ⟨b', off', e', c1⟩ := hc 1 (by omega)
  injection e' with e'
  injection e' with e1 e2
  subst e1; subst e2
  rw [Nat.add_zero] at c0
  have hLH := hd_ (And.intro h2 hl)
  clear hc h2 hl
  obtain ⟨x0, hx0⟩ : ∃ x, x = l.getD 0 0 := ⟨_, rfl⟩
  obtain ⟨x1, hx1⟩ : ∃ x, x = l.getD 1 0 := ⟨_, rfl⟩
  rw [← hx0] at c0
  rw [← hx1] at c1
  have hxH := hd_ (And.intro hx0 hx1)
  clear hx0 hx1
  by_cases h0 : x0 = 104
  · subst h0
    by_cases h1 : x1 = 115
    · subst h1
      have hok := hd_ (show ¬ (l.length < 2 ∨ l.getD 0 0 ≠ 104 ∨ l.getD 1 0 ≠ 115) from fun h => by
        rcases h with h | h | h
        · have := hLH.out.1; omega
        · exact h hxH.out.1.symm
        · exact h hxH.out.2.symm)
      obtain ⟨u, hu0, hRu⟩ := HRH.out.sl_l Try.underlying34 infoB 2 (by have := hLH.out.1; omega)
      have hu : ∀ W, (Instr.slice 34 (.slice (some ⟨b, off, none⟩) l.length cap) (some (.int .i64 2)) none none).run Try.prog W = .ok u W := hu0
      obtain ⟨q, k, er, hD, hk, hq, her⟩ := lebD_nat (l.drop 2) hRu.1
      have hkl : 2 + k ≤ l.length := by rw [List.length_drop] at hk; have := hLH.out.1; omega
      obtain ⟨u2, hu20, hRu2⟩ := HRH.out.sl_l Try.underlying34 infoB (2 + k) hkl
      rw [← List.drop_drop] at hRu2
      have hw2k : wrap64 (2 + (k : Int)) = 2 + (k : Int) := by unfold wrap64; have := hLH.out.2; omega
      have hu2 : ∀ W, (Instr.slice 34 (.slice (some ⟨b, off, none⟩) l.length cap) (some (.int .i64 (2 + (k : Int)))) none none).run Try.prog W = .ok u2 W := fun W => by
        have := hu20 W
        rw [show ((2 + k : Nat) : Int) = 2 + (k : Int) by omega] at this
        exact this
      obtain ⟨R, hR⟩ : ∃ R, R = (l.drop 2).drop k := ⟨_, rfl⟩
      rw [← hR] at hRu2
      have hRl : R.length = l.length - 2 - k := by rw [hR, List.length_drop, List.length_drop]
      have hRR := hd_ (And.intro hRu2 (And.intro hR hRl))
      have hDH := hd_ hD
      have hRuH := hd_ hRu
      obtain ⟨A2, cap2, rfl, _⟩ := hRu2.form
      clear hu0 hu20 hR hRl hRu hRu2 hD
      by_cases hc1 : er = 0
      · subst hc1
        by_cases hc2 : 1152921504606846976 < q
        · have hc2I : (1152921504606846976 : Int) < (q : Int) := by omega
          have hno := hd_ (load_no2 hDH.out (.inr (.inl hc2I)))
          go_enter Try.func33, Try.ntmps33
          go_wp2_with (go_at_call 45; (with_reducible refine (ref_Read_any _ _ _ hRuH.out).mono ?_); rintro e w1 ⟨rfl, rfl⟩; rw [hDH.out])
          exact bodyPost_ret (results_tmp2 rfl _ _ _) rfl (.inl ⟨hno.out, rfl, Below.refl _ _⟩)
        · have hc2I : ¬ ((1152921504606846976 : Int) < (q : Int)) := by omega
          have hwq := hd_ (wq_all q (by omega))
          by_cases hc3 : R.length = 32 + q % 64
          · have hc3I : 32 + (q : Int) % 64 = (R.length : Int) := by omega
            have h32 := hd_ (show 32 ≤ R.length by omega)
            have hyes := load_yes hok.out hDH.out (by
              rw [Int.toNat_natCast, Int.toNat_natCast, ← hRR.out.2.1]
              rintro (h | h)
              · exact hc2I h
              · exact h hc3)
            rw [Int.toNat_natCast, Int.toNat_natCast, ← hRR.out.2.1] at hyes
            have hY := hd_ hyes
            obtain ⟨u3, hu30, hRu3⟩ := hRR.out.1.sl_l Try.underlying34 infoB 32 h32.out
            have hu3 : ∀ W, (Instr.slice 34 (.slice A2 R.length cap2) (some (.int .i64 32)) none none).run Try.prog W = .ok u3 W := hu30
            have hR3 := hd_ hRu3
            have hc3H := hd_ hc3
            clear hu30 hRu3 hyes hc3
            have hc3Q := hd_ hc3I
            clear hc3I
            generalize R.drop 32 = R3 at *
            have wq4 := hwq.out.2.2.2.1
            go_enter Try.func33, Try.ntmps33
            go_upto_region 4 with (go_at_call 45; (with_reducible refine (ref_Read_any _ _ _ hRuH.out).mono ?_); rintro e w1 ⟨rfl, rfl⟩; rw [hDH.out])
            go_upto_region 6 with fail
            go_upto_region 7 with fail
            have hc3I := hc3Q.out
            go_upto_region 9 with fail
            clear hc3I
            go_upto_region 10 with (go_at_call 41; (with_reducible refine (Copy_any _ _ _ hR3.out).mono ?_); rintro e w3 ⟨v3, rfl, HF3, HB3⟩; obtain ⟨A3, c3, rfl, hx3⟩ := HF3.rd.form; clear hx3)
            have hE : ∀ cs, cs = hrC (ldW R 0) (IntKind.i64.wrap (q : Int)) (.slice A3 R3.length c3) → Hr (w3.alloc (.cells cs 64)) w3.heap.size (ldW R 0) (.slice A3 R3.length c3) R3 q := fun cs h => by
              subst h
              exact ⟨Box.new _ _ _, (show OwnN w3 _ _ from .inr (HF3.low (Nat.zero_le _))).keep (al1 (Below.refl _ _) _), ldW_length R 0, fun e => by have := (HF3.lt _ e).2; omega⟩
            rw [hwq.out.1] at hE
            have hH0 := hd_ (hE _ rfl)
            have hB0 := hd_ (al1 HB3 (.cells (hrC (ldW R 0) (q : Int) (.slice A3 R3.length c3)) 64))
            have hg0 := hd_ HB3.size
            have hvo := hd_ (fun k (e : (Value.slice A3 R3.length c3).ownBlock = some k) => (HF3.lt k e).1)
            have hEq : hrC (ldW R 0) (q : Int) (.slice A3 R3.length c3) = #[.int .u32 0, .int .u32 0, .int .u32 0, .int .u32 0, .int .u32 0, .int .u32 0, .int .u32 0, .int .u32 0, .int .i64 (q : Int), .slice A3 R3.length c3] := rfl
            rw [← hEq]
            generalize w3.alloc (.cells (hrC (ldW R 0) (q : Int) (.slice A3 R3.length c3)) 64) = W0 at *
            have hHs := hH0.out
            obtain ⟨g, hg⟩ : ∃ g, g = w3.heap.size := ⟨_, rfl⟩
            rw [← hg] at hHs hg0 ⊢
            have hq := hd_ (And.intro hHs (And.intro hB0.out hg0.out))
            clear hE HF3 HB3 hEq hH0 hB0 hg0 hg hHs
            generalize (Value.slice A3 R3.length c3) = v3 at *
            go_wp2
            go_loopw [9] (fun vi wr => ∃ i : Nat, i ≤ 32 ∧ vi = .int .i64 (i : Int) ∧ Hr wr g (ldW R i) v3 R3 q ∧ Below w.heap.size w wr) (fun vi _ => 32 - (intOf vi).toNat)
            case atStart => exact ⟨0, Nat.zero_le _, rfl, hq.out.1, hq.out.2.1⟩
            case round =>
              obtain ⟨i, hi, rfl, hHi, hBi⟩ := hrel
              by_cases hlt : i < 32
              · obtain ⟨f1, f2, f3, f4, f5, f6, f7, f8⟩ := lay_facts i hlt
                have hiI : (i : Int) < 32 := by omega
                have hiR : (i : Int) < (R.length : Int) := by have := h32.out; omega
                obtain ⟨A5, c5, h5, _, _, _, h6⟩ := (hRR.out.1.keep hBi).form
                injection h5 with e1 e2 e3
                obtain ⟨b4, o4, hA4, hc4⟩ := h6 i (by have := h32.out; omega)
                rw [← e1] at hA4
                obtain ⟨y0, y1⟩ := byte_at hRR.out.1.1 (show i < R.length by have := h32.out; omega)
                have hst := hd_ (show ldW R (i + 1) = (ldW R i).set (i / 4) ((((ldW R i).getD (i / 4) 0#32) <<< 8) ||| b32 (R.getD i 0)) from rfl)
                have h8 := hHi.2.2.1
                have hq8 : i / 4 < 8 := by omega
                have hwqq : IntKind.i64.wrap ((i / 4 : Nat) : Int) = ((i / 4 : Nat) : Int) := by rw [wrap_i64_64]; exact wrap64_id (by omega) (by omega)
                have cw := hHi.1.cell (i / 4) (hrC_word h8 hq8)
                unfold wv at cw
                have hHB := hd_ (And.intro hHi hBi)
                have hla := hd_ (ld_add ((ldW R i).getD (i / 4) 0#32) y0 y1)
                clear hHi hBi h6 e1 e2 e3 f3 f4 f6 f8 f2
                subst hA4
                generalize (ldW R i).getD (i / 4) 0#32 = x at *
                generalize R.getD i 0 = yb at *
                have hyy := hd_ (And.intro y0 y1)
                clear y0 y1
                generalize i / 4 = qq at *
                go_upto_region 13 with fail
                go_still_tail 20, (by kernel_rfl)
                have HB3 := hd_ (Below.drew (Below.refl wr.heap.size wr))
                change wpList _ _ _ _ _ wr.drew
                generalize wr.drew = W3 at *
                have hH3 := hHB.out.1.keep HB3.out
                have f3 := hH3.1.frozen qq
                have cw3 := hH3.1.cell qq (hrC_word h8 hq8)
                unfold wv at cw3
                go_wp2
                have hv : (I x * (256 : Int) + yb) % (4294967296 : Int) = I ((x <<< 8) ||| b32 yb) := by rw [Int.add_emod]; exact hla.out
                rw [hv]
                obtain ⟨p4, g4⟩ := hH3.1.put qq (wv ((x <<< 8) ||| b32 yb))
                rw [hrC_set h8 hq8, ← hst.out] at p4
                have hgne : ∀ kk, v3.ownBlock = some kk → ¬ (some kk = some g) := fun kk hkk e => hH3.2.2.2 (by rw [hkk, e])
                exact ⟨⟨i + 1, hlt, by go_num, ⟨p4, hH3.2.1.chg (Chg.of g4) hgne, ldW_length _ _, hH3.2.2.2⟩, below_row (bel_trans hHB.out.2 HB3.out) g4 hq.out.2.2 (Nat.le_trans hHB.out.2.size HB3.out.size)⟩, by simp [intOf]; omega⟩
              · obtain rfl : i = 32 := by omega
                have hHB := hd_ (And.intro hHi hBi)
                clear hHi hBi
                go_wp2
                refine bodyPost_ret (results_tmp2 rfl _ _ _) rfl (.inr ⟨_, _, _, g, v3, hY.out, rfl, hHB.out.1, hq.out.2.2, fun k e => hvo.out k e, hHB.out.2⟩)
          · have hc3I : ¬ ((R.length : Int) = 32 + (q : Int) % 64) := by omega
            have hc3B : ((R.length : Int) == 32 + (q : Int) % 64) = false := beq_false_of_ne hc3I
            have hcN : ((R.length : Int) != 32 + (q : Int) % 64) = true := by unfold bne; rw [hc3B]; rfl
            have hno := hd_ (load_no2 hDH.out (.inr (.inr (by rw [Int.toNat_natCast, Int.toNat_natCast, ← hRR.out.2.1]; exact hc3))))
            clear hc3
            have wq4 := hwq.out.2.2.2.1
            go_enter Try.func33, Try.ntmps33
            go_upto_region 7 with (go_at_call 45; (with_reducible refine (ref_Read_any _ _ _ hRuH.out).mono ?_); rintro e w1 ⟨rfl, rfl⟩; rw [hDH.out])
            go_upto_region 8 with fail
            go_wp2
            exact bodyPost_ret (results_tmp2 rfl _ _ _) rfl (.inl ⟨hno.out, rfl, Below.refl _ _⟩)
      · have hno := hd_ (load_no2 hDH.out (.inl hc1))
        go_enter Try.func33, Try.ntmps33
        go_wp2_with (go_at_call 45; (with_reducible refine (ref_Read_any _ _ _ hRuH.out).mono ?_); rintro e w1 ⟨rfl, rfl⟩; rw [hDH.out])
        exact bodyPost_ret (results_tmp2 rfl _ _ _) rfl (.inl ⟨hno.out, rfl, Below.refl _ _⟩)
    · have hno := hd_ (load_no1 (l := l) (.inr (.inr (by rw [← hxH.out.2]; exact h1))))
      go_enter Try.func33, Try.ntmps33
      go_wp2
      exact bodyPost_ret (results_tmp2 rfl _ _ _) rfl (.inl ⟨hno.out, rfl, Below.refl _ _⟩)
  · have hno := hd_ (load_no1 (l := l) (.inr (.inl (by rw [← hxH.out.1]; exact h0))))
    go_enter Try.func33, Try.ntmps33
    go_wp2
    exact bodyPost_ret (results_tmp2 rfl _ _ _) rfl (.inl ⟨hno.out, rfl, Below.refl _ _⟩)
theorem take32 (R : List Int) (h : 32 ≤ R.length) : R.take 32 = (List.range 32).map (fun j => R.getD j 0) := by
  refine List.ext_getElem (by rw [List.length_take, List.length_map, List.length_range]; omega) fun i h1 h2 => ?_
  have hi : i < R.length := by rw [List.length_take] at h1; omega
  rw [List.getElem_take, List.getElem_map, List.getElem_range, List.getD_eq_getElem?_getD, List.getElem?_eq_getElem hi]
  rfl
theorem range32 (f : Nat → Int) : (List.range 32).map f = [f 0, f 1, f 2, f 3, f 4, f 5, f 6, f 7, f 8, f 9, f 10, f 11, f 12, f 13, f 14, f 15, f 16, f 17, f 18, f 19, f 20, f 21, f 22, f 23, f 24, f 25, f 26, f 27, f 28, f 29, f 30, f 31] := by kernel_rfl
theorem layS_ldW (R : List Int) (hb : IsBytes R) (h : 32 ≤ R.length) : layS (ldW R 32) 8 = R.take 32 := by
  have hs : ldW R 32 = [wordB R 0, wordB R 1, wordB R 2, wordB R 3, wordB R 4, wordB R 5, wordB R 6, wordB R 7] := by
    refine eight_ext (ldW_length _ _) rfl fun i hi => ?_
    rw [ldW_get _ i hi]
    have : i = 0 ∨ i = 1 ∨ i = 2 ∨ i = 3 ∨ i = 4 ∨ i = 5 ∨ i = 6 ∨ i = 7 := by omega
    rcases this with rfl | rfl | rfl | rfl | rfl | rfl | rfl | rfl <;> rfl
  have hw : ∀ i, 4 * i + 3 < 32 → by0 (wordB R i) = R.getD (4 * i) 0 ∧ by1 (wordB R i) = R.getD (4 * i + 1) 0 ∧ by2 (wordB R i) = R.getD (4 * i + 2) 0 ∧ by3 (wordB R i) = R.getD (4 * i + 3) 0 := fun i hi => by
    obtain ⟨a0, a1⟩ := byte_at hb (show 4 * i < R.length by omega)
    obtain ⟨b0, b1⟩ := byte_at hb (show 4 * i + 1 < R.length by omega)
    obtain ⟨c0, c1⟩ := byte_at hb (show 4 * i + 2 < R.length by omega)
    obtain ⟨d0, d1⟩ := byte_at hb (show 4 * i + 3 < R.length by omega)
    exact by_beW a0 a1 b0 b1 c0 c1 d0 d1
  rw [hs, layS_eight, take32 R h, range32]
  obtain ⟨a0, a1, a2, a3⟩ := hw 0 (by omega)
  obtain ⟨b0, b1, b2, b3⟩ := hw 1 (by omega)
  obtain ⟨c0, c1, c2, c3⟩ := hw 2 (by omega)
  obtain ⟨d0, d1, d2, d3⟩ := hw 3 (by omega)
  obtain ⟨e0, e1, e2, e3⟩ := hw 4 (by omega)
  obtain ⟨f0, f1, f2, f3⟩ := hw 5 (by omega)
  obtain ⟨g0, g1, g2, g3⟩ := hw 6 (by omega)
  obtain ⟨h0, h1, h2, h3⟩ := hw 7 (by omega)
  rw [a0, a1, a2, a3, b0, b1, b2, b3, c0, c1, c2, c3, d0, d1, d2, d3, e0, e1, e2, e3, f0, f1, f2, f3, g0, g1, g2, g3, h0, h1, h2, h3]
theorem save_load {l : List Int} (hb : IsBytes l) {s : List W32} {rest : List Int} {n : Nat} (h : loadR l = some (s, rest, n)) : saveL s rest n = l ∧ rest.length = n % 64 ∧ n ≤ 1152921504606846976 ∧ s.length = 8 := by
  unfold loadR at h
  split at h
  · cases h
  · rename_i h1
    obtain ⟨q, k, er, hD, hk, hq, her⟩ := lebD_nat (l.drop 2) (bytes_drop hb 2)
    split at h
    · cases h
    · rename_i h2
      rw [hD] at h h2
      simp only [Int.toNat_natCast] at h h2
      injection h with h
      injection h with h3 h4
      injection h4 with h4 h5
      subst h3; subst h4; subst h5
      have he : er = 0 := Decidable.byContradiction fun hne => h2 (.inl hne)
      subst he
      have hq2 : q ≤ 1152921504606846976 := by
        refine Decidable.byContradiction fun hne => h2 (.inr (.inl (by omega)))
      have hR : ((l.drop 2).drop k).length = 32 + q % 64 := Decidable.byContradiction fun hne => h2 (.inr (.inr hne))
      refine ⟨?_, by rw [List.length_drop, hR]; omega, hq2, ldW_length _ _⟩
      have hbR : IsBytes ((l.drop 2).drop k) := bytes_drop (bytes_drop hb 2) k
      have htk : (l.drop 2).take k = lebB q := by
        rcases lebD_cases (l.drop 2) (bytes_drop hb 2) with h6 | h6 | h6 | ⟨u, k', h6, _, _, _, h7, _⟩
        · rw [hD] at h6; injection h6 with _ h6; injection h6 with _ h6; cases h6
        · rw [hD] at h6; injection h6 with _ h6; injection h6 with _ h6; cases h6
        · rw [hD] at h6; injection h6 with _ h6; injection h6 with _ h6; cases h6
        · rw [hD] at h6
          injection h6 with h8 h6
          injection h6 with h9 _
          have e1 : u = q := by omega
          have e2 : k' = k := by omega
          subst e1; subst e2
          exact h7
      unfold saveL
      rw [layS_ldW _ hbR (by omega), ← htk, List.append_assoc, List.append_assoc, List.take_append_drop, List.take_append_drop]
      have hl2 : ¬ l.length < 2 := fun h => h1 (.inl h)
      have hx0 : l.getD 0 0 = 104 := Decidable.byContradiction fun h => h1 (.inr (.inl h))
      have hx1 : l.getD 1 0 = 115 := Decidable.byContradiction fun h => h1 (.inr (.inr h))
      match l, hl2, hx0, hx1 with
      | a :: b :: tl, _, hx0, hx1 =>
        have e0 : a = 104 := hx0
        have e1 : b = 115 := hx1
        subst e0; subst e1
        rfl
set_option linter.unusedSimpArgs false
theorem Hs.chg {S : Nat → Prop} {w w1 : World} {g : Nat} {s : List W32} {v : Value} {rest : List Int} {n : Nat} (h : Hs w g s v rest n) (hc : Chg S w w1) (hg : ¬ S g) (hv : ∀ k, v.ownBlock = some k → ¬ S k) : Hs w1 g s v rest n := ⟨h.1.chg hc hg, h.2.1.chg hc hv, h.2.2⟩
theorem Hr.chg {S : Nat → Prop} {w w1 : World} {g : Nat} {s : List W32} {v : Value} {rest : List Int} {n : Nat} (h : Hr w g s v rest n) (hc : Chg S w w1) (hg : ¬ S g) (hv : ∀ k, v.ownBlock = some k → ¬ S k) : Hr w1 g s v rest n := ⟨h.1.chg hc hg, h.2.1.chg hc hv, h.2.2⟩
theorem Hr.len8 {w : World} {g : Nat} {s : List W32} {v : Value} {rest : List Int} {n : Nat} (h : Hr w g s v rest n) (hn : n ≤ 1152921504606846976) : w.cell? ⟨g, 8, none⟩ = some (.int .i64 (n : Int)) := by
  have := h.1.cell 8 (hr8 h.2.2.1)
  rw [(wq_all n hn).1] at this
  exact this
theorem sha_load_no {l : List Int} (h : loadR l = none) (y : Value) (w : World) (HR : Rd w y l) (hl : l.length ≤ 140737488351232) : Calls Try.prog 31 #[y] w fun e w' => e = .returned (.tuple #[.pointer none, .int .i64 51]) ∧ Below w.heap.size w w' := by
  refine (sha_Load_any y l w HR hl).mono ?_
  rintro e w' (⟨_, he, hb⟩ | ⟨s, rest, n, g, v, h2, _⟩)
  · exact ⟨he, hb⟩
  · rw [h] at h2; cases h2
theorem ref_load_no {l : List Int} (h : loadR l = none) (y : Value) (w : World) (HR : Rd w y l) (hl : l.length ≤ 140737488351232) : Calls Try.prog 33 #[y] w fun e w' => e = .returned (.tuple #[.pointer none, .int .i64 51]) ∧ Below w.heap.size w w' := by
  refine (ref_Load_any y l w HR hl).mono ?_
  rintro e w' (⟨_, he, hb⟩ | ⟨s, rest, n, g, v, h2, _⟩)
  · exact ⟨he, hb⟩
  · rw [h] at h2; cases h2
theorem sha_load_yes {l : List Int} {s : List W32} {rest : List Int} {n : Nat} (h : loadR l = some (s, rest, n)) (y : Value) (w : World) (HR : Rd w y l) (hl : l.length ≤ 140737488351232) : Calls Try.prog 31 #[y] w fun e w' => ∃ g v, e = .returned (.tuple #[.pointer (some ⟨g, 0, none⟩), .int .i64 0]) ∧ Hs w' g s v rest n ∧ w.heap.size ≤ g ∧ (∀ k, v.ownBlock = some k → w.heap.size ≤ k) ∧ Below w.heap.size w w' := by
  refine (sha_Load_any y l w HR hl).mono ?_
  rintro e w' (⟨h2, _⟩ | ⟨s2, rest2, n2, g, v, h2, he, h3⟩)
  · rw [h] at h2; cases h2
  · rw [h] at h2
    injection h2 with h2
    injection h2 with e1 h2
    injection h2 with e2 e3
    subst e1; subst e2; subst e3
    exact ⟨g, v, he, h3⟩
theorem ref_load_yes {l : List Int} {s : List W32} {rest : List Int} {n : Nat} (h : loadR l = some (s, rest, n)) (y : Value) (w : World) (HR : Rd w y l) (hl : l.length ≤ 140737488351232) : Calls Try.prog 33 #[y] w fun e w' => ∃ g v, e = .returned (.tuple #[.pointer (some ⟨g, 0, none⟩), .int .i64 0]) ∧ Hr w' g s v rest n ∧ w.heap.size ≤ g ∧ (∀ k, v.ownBlock = some k → w.heap.size ≤ k) ∧ Below w.heap.size w w' := by
  refine (ref_Load_any y l w HR hl).mono ?_
  rintro e w' (⟨h2, _⟩ | ⟨s2, rest2, n2, g, v, h2, he, h3⟩)
  · rw [h] at h2; cases h2
  · rw [h] at h2
    injection h2 with h2
    injection h2 with e1 h2
    injection h2 with e2 e3
    subst e1; subst e2; subst e3
    exact ⟨g, v, he, h3⟩
set_option maxHeartbeats 4000000 in
theorem law_ShaLoads (w : World) (v : Value) (B : List Int) (HR : Rd w v B) (hl : B.length ≤ 140737488351232) (y : Value) (M : List Int) (HM : Rd w y M) (hlm : M.length ≤ 140737488351232) :
    Calls Try.prog 10 #[v, y] w fun e w' => e = .returned (.bool true) ∧ Below w.heap.size w w' := by
  have hIn := hd_ (And.intro HR (And.intro hl (And.intro HM hlm)))
  rcases hlr : loadR B with _ | ⟨s, rest, n⟩
  · have hN := hd_ hlr
    clear HR hl HM hlm hlr
    go_enter Try.func10, Try.ntmps10
    go_upto_region 7 with (first
      | (go_at_call 16; (with_reducible refine (Lend_any v B _ hIn.out.1 hIn.out.2.1).mono ?_); rintro e w1 ⟨g1, c1, q1, rfl, HOw, HRq, hqb, HB1⟩; obtain ⟨Aq, cq, rfl, _⟩ := HRq.form)
      | (go_at_call 31; (with_reducible refine (sha_load_no hN.out _ _ HRq hIn.out.2.1).mono ?_); rintro e w2 ⟨rfl, HB2⟩)
      | (go_at_call 33; (with_reducible refine (ref_load_no hN.out v _ (hIn.out.1.keep (bel_trans HB1 HB2)) hIn.out.2.1).mono ?_); rintro e w3 ⟨rfl, HB3⟩)
      | (go_at_call 19; (with_reducible refine (Kept_true _ v B _ ((HOw.keep (bel_trans HB2 HB3)).rd) ((hIn.out.1.keep (bel_trans HB1 (bel_trans HB2 HB3)))) hIn.out.2.1).mono ?_); rintro e w4 ⟨rfl, HB4⟩))
    have HBw4 := hd_ (bel_trans HB1 (bel_trans HB2 (bel_trans HB3 HB4)))
    have HOw4 := hd_ (HOw.keep (bel_trans HB2 (bel_trans HB3 HB4)))
    have hg1 := hd_ (own_lt HOw g1 rfl)
    obtain ⟨NN, hNN⟩ : ∃ NN, NN = B.length + 9 := ⟨_, rfl⟩
    have hLn := hd_ (show (lendL B).length = NN by rw [lendL_length, hNN])
    have hNl := hd_ (show NN ≤ 140737488351241 by have := hIn.out.2.1; omega)
    rw [← hNN] at HOw4
    have hNI : (B.length : Int) + 9 = (NN : Int) := by omega
    simp only [← hNN]
    try rw [hNI]
    clear hNI
    clear hNN HOw HRq hqb HB1 HB2 HB3 HB4
    go_loopw [45] (fun vi wr => ∃ (k : Nat) (L : List Int), k ≤ NN ∧ vi = .int .i64 (k : Int) ∧ L.length = NN ∧ Own wr w.heap.size 5 (.slice (some ⟨g1, 0, none⟩) NN c1) L ∧ Chg (fun b => b = g1) w4 wr) (fun vi _ => NN - (intOf vi).toNat)
    case atStart => exact ⟨0, _, Nat.zero_le _, rfl, hLn.out, HOw4.out, Chg.refl _ _⟩
    case round =>
      clear HOw4
      obtain ⟨k, L, hk, rfl, hL, HO, hC⟩ := hrel
      by_cases hlt : k < NN
      · have hkI : (k : Int) < (NN : Int) := by omega
        obtain ⟨_, _, hfm, _, _, _, hcf⟩ := HO.rd.form
        obtain ⟨b7, o7, hA7, hc7⟩ := hcf k (by omega)
        injection hfm with e1 e2 e3
        rw [← e1] at hA7
        injection hA7 with hA7
        injection hA7 with e4 e5
        subst e4; subst e5
        rw [Nat.zero_add] at hc7
        have hNb := hNl.out
        have hO2 := HO.2
        rw [hL] at hO2
        have hf7 := hO2.frozenAt k
        clear hO2
        obtain ⟨p7, g7⟩ := HO.put k 3 (by decide) (by decide)
        have hst := hd_ (And.intro p7 (And.intro (hC.trans (Chg.of g7) (fun b _ (e : some b = some g1) => by injection e)) (show (L.set k 3).length = NN by rw [List.length_set]; exact hL)))
        clear p7 g7 HO hC e1 e2 e3 hL hcf
        go_wp2
        go_roundw
        case rel => exact ⟨k + 1, _, hlt, by go_num, hst.out.2.2, hst.out.1, hst.out.2.1⟩
        case measure => (simp [intOf]; try omega)
      · obtain rfl : k = NN := by omega
        have HBr := hd_ (Chg.then HBw4.out hC (fun b hb => by subst hb; exact hg1.out.1) HBw4.out.size)
        have hCr := hd_ hC
        clear HO hC hlt hk hL
        go_wp2_with (first
          | (go_at_call 17; with_reducible refine (sha_Sum_none _).mono ?_; rintro e wg ⟨rfl, HBg⟩)
          | (go_at_call 12; with_reducible refine (Print_nil _).mono ?_; rintro e wh ⟨rfl, HBh⟩))
        go_ret
        exact ⟨rfl, bel_trans HBr.out (bel_trans HBg HBh)⟩
  · have hY := hd_ hlr
    obtain ⟨hs1, hs2, hs3, hs4⟩ := save_load HR.1 hlr
    have hSB := hd_ hs1
    have hn60 := hd_ hs3
    have hn64 := hd_ (show n < 18446744073709551616 by omega)
    have hr64 := hd_ (show rest.length ≤ 64 by omega)
    have hr63 := hd_ (show rest.length < 64 by omega)
    have hwn := hd_ ((wq_all n hs3).2.2.2.2)
    clear HR hl HM hlm hlr hs1 hs2 hs3 hs4
    go_enter Try.func10, Try.ntmps10
    go_upto_region 7 with (first
      | (go_at_call 16; (with_reducible refine (Lend_any v B _ hIn.out.1 hIn.out.2.1).mono ?_); rintro e w1 ⟨g1, c1, q1, rfl, HOw, HRq, hqb, HB1⟩; obtain ⟨Aq, cq, rfl, _⟩ := HRq.form)
      | (go_at_call 31; (with_reducible refine (sha_load_yes hY.out _ _ HRq hIn.out.2.1).mono ?_); rintro e w2 ⟨g, vh, rfl, hHs, hgn, hvn, HB2⟩)
      | (go_at_call 33; (with_reducible refine (ref_load_yes hY.out v _ (hIn.out.1.keep (bel_trans HB1 HB2)) hIn.out.2.1).mono ?_); rintro e w3 ⟨gx, vx, rfl, hHr, hgxn, hvxn, HB3⟩)
      | (go_at_call 19; (with_reducible refine (Kept_true _ v B _ ((HOw.keep (bel_trans HB2 HB3)).rd) ((hIn.out.1.keep (bel_trans HB1 (bel_trans HB2 HB3)))) hIn.out.2.1).mono ?_); rintro e w4 ⟨rfl, HB4⟩))
    have HBw4 := hd_ (bel_trans HB1 (bel_trans HB2 (bel_trans HB3 HB4)))
    have HOw4 := hd_ (HOw.keep (bel_trans HB2 (bel_trans HB3 HB4)))
    have hg1 := hd_ (own_lt HOw g1 rfl)
    have hf := hd_ (And.intro (hHs.keep (bel_trans HB3 HB4)) (And.intro (hHr.keep HB4) (And.intro (show g1 < g from Nat.lt_of_lt_of_le (own_lt HOw g1 rfl).2 hgn) (And.intro (fun k e => Nat.lt_of_lt_of_le (own_lt HOw g1 rfl).2 (hvn k e) : ∀ k, vh.ownBlock = some k → g1 < k) (And.intro (show g < gx from Nat.lt_of_lt_of_le (hHs.1.lt) hgxn) (And.intro (fun k e => Nat.lt_of_lt_of_le hHs.1.lt (hvxn k e) : ∀ k, vx.ownBlock = some k → g < k) (fun k e => Nat.lt_of_lt_of_le (own_lt hHs.2.1 k e).2 hgxn : ∀ k, vh.ownBlock = some k → k < gx)))))))
    clear hHs hHr hgn hvn hgxn hvxn
    obtain ⟨NN, hNN⟩ : ∃ NN, NN = B.length + 9 := ⟨_, rfl⟩
    have hLn := hd_ (show (lendL B).length = NN by rw [lendL_length, hNN])
    have hNl := hd_ (show NN ≤ 140737488351241 by have := hIn.out.2.1; omega)
    rw [← hNN] at HOw4
    have hNI : (B.length : Int) + 9 = (NN : Int) := by omega
    simp only [← hNN]
    try rw [hNI]
    clear hNI
    clear hNN HOw HRq hqb HB1 HB2 HB3 HB4
    go_loopw [45] (fun vi wr => ∃ (k : Nat) (L : List Int), k ≤ NN ∧ vi = .int .i64 (k : Int) ∧ L.length = NN ∧ Own wr w.heap.size 5 (.slice (some ⟨g1, 0, none⟩) NN c1) L ∧ Chg (fun b => b = g1) w4 wr) (fun vi _ => NN - (intOf vi).toNat)
    case atStart => exact ⟨0, _, Nat.zero_le _, rfl, hLn.out, HOw4.out, Chg.refl _ _⟩
    case round =>
      clear HOw4
      obtain ⟨k, L, hk, rfl, hL, HO, hC⟩ := hrel
      by_cases hlt : k < NN
      · have hkI : (k : Int) < (NN : Int) := by omega
        obtain ⟨_, _, hfm, _, _, _, hcf⟩ := HO.rd.form
        obtain ⟨b7, o7, hA7, hc7⟩ := hcf k (by omega)
        injection hfm with e1 e2 e3
        rw [← e1] at hA7
        injection hA7 with hA7
        injection hA7 with e4 e5
        subst e4; subst e5
        rw [Nat.zero_add] at hc7
        have hNb := hNl.out
        have hO2 := HO.2
        rw [hL] at hO2
        have hf7 := hO2.frozenAt k
        clear hO2
        obtain ⟨p7, g7⟩ := HO.put k 3 (by decide) (by decide)
        have hst := hd_ (And.intro p7 (And.intro (hC.trans (Chg.of g7) (fun b _ (e : some b = some g1) => by injection e)) (show (L.set k 3).length = NN by rw [List.length_set]; exact hL)))
        clear p7 g7 HO hC e1 e2 e3 hL hcf
        go_wp2
        go_roundw
        case rel => exact ⟨k + 1, _, hlt, by go_num, hst.out.2.2, hst.out.1, hst.out.2.1⟩
        case measure => (simp [intOf]; try omega)
      · obtain rfl : k = NN := by omega
        have HBr := hd_ (Chg.then HBw4.out hC (fun b hb => by subst hb; exact hg1.out.1) HBw4.out.size)
        have hCr := hd_ hC
        clear HO hC hlt hk hL
        obtain ⟨hS4, hR4, hg1g, hg1v, hgx, hgvx, hvgx⟩ := hf.out
        have hHs5 := hd_ (hS4.chg hCr.out (fun e => by omega) (fun k e e2 => by have := hg1v k e; omega))
        have hHr5 := hd_ (hR4.chg hCr.out (fun e => by omega) (fun k e e2 => by have := hgvx k e; omega))
        have hor := hd_ (And.intro hgx hgvx)
        have hg1H := hd_ hg1g
        clear hS4 hR4 hg1g hg1v hgx hgvx hvgx hf hCr
        go_upto_region 12 with fail
        have hC0 : (fun W : World => W.cell? ⟨gx, 8, none⟩ = some (.int .i64 (n : Int))) wr.drew := cell_keep (Below.refl wr.heap.size wr).drew ((hHr5.out).len8 hn60.out)
        refine region_J [] (fun W : World => W.cell? ⟨gx, 8, none⟩ = some (.int .i64 (n : Int))) (by kernel_rfl) ?_
        refine take_J 0 _ _ (v := ?_) rfl (by kernel_rfl) (by kernel_rfl) (by kernel_rfl) (by kernel_rfl) (fun _ _ _ h => h) rfl hC0 ?_ ?_
        rotate_left
        · intro W hC; go_simp; try with_reducible rfl
        simp only [Act.put, List.setIfInBounds_toArray, List.set_cons_zero, List.set_cons_succ]
        refine take_J 2 _ _ (v := ?_) rfl (by kernel_rfl) (by kernel_rfl) (by kernel_rfl) (by kernel_rfl) (fun _ _ _ h => h) rfl hC0 ?_ ?_
        rotate_left
        · intro W hC; go_simp; try with_reducible rfl
        simp only [Act.put, List.setIfInBounds_toArray, List.set_cons_zero, List.set_cons_succ]
        refine ready_J 1 _ _ rfl (by kernel_rfl) rfl (fun K hK => ?_)
        go_simp
        with_reducible refine (sha_Save_any g s vh rest n _ (hHs5.out.keep (Below.refl wr.heap.size wr).drew) hn64.out hr64.out).mono ?_
        rintro e wa ⟨va, rfl, HFa, HBa⟩
        have HBA := hd_ (bel_trans (Below.refl wr.heap.size wr).drew HBa)
        have hC1 := cell_keep HBa hC0
        clear hC0
        have hC0 := hC1
        clear hC1
        rw [hSB.out] at HFa
        have hFa := hd_ HFa.rd
        obtain ⟨Aa, ca, rfl, _⟩ := HFa.rd.form
        clear HFa HBa
        refine hK _ _ (fun _ => hC0) ?_
        clear hK K
        refine ready_J 3 _ _ rfl (by kernel_rfl) rfl (fun K hK => ?_)
        go_simp
        with_reducible refine (Same_any _ v B B _ hFa.out ((hIn.out.1.keep HBr.out).keep HBA.out)).mono ?_
        rintro e wb ⟨rfl, rfl⟩
        rw [decide_eq_true rfl]
        refine hK _ _ (fun _ => hC0) ?_
        clear hK K
        refine take_J 4 _ _ (v := ?_) rfl (by kernel_rfl) (by kernel_rfl) (by kernel_rfl) (by kernel_rfl) (fun _ _ _ h => h) rfl hC0 ?_ ?_
        rotate_left
        · intro W hC; go_simp; try with_reducible rfl
        simp only [Act.put, List.setIfInBounds_toArray, List.set_cons_zero, List.set_cons_succ]
        refine take_J 5 _ _ (v := ?_) rfl (by kernel_rfl) (by kernel_rfl) (by kernel_rfl) (by kernel_rfl) (fun _ _ _ h => h) rfl hC0 ?_ ?_
        rotate_left
        · intro W hC; go_simp; try with_reducible rfl
        simp only [Act.put, List.setIfInBounds_toArray, List.set_cons_zero, List.set_cons_succ]
        refine take_JW 6 _ _ (v := ?_) rfl (by kernel_rfl) (by kernel_rfl) (by kernel_rfl) (by kernel_rfl) (fun _ _ _ h => h) rfl hC0 ?_ ?_
        rotate_left
        · intro W hC; go_simp; try with_reducible rfl
        simp only [Act.put, List.setIfInBounds_toArray, List.set_cons_zero, List.set_cons_succ]
        refine take_JW 8 _ _ (v := ?_) rfl (by kernel_rfl) (by kernel_rfl) (by kernel_rfl) (by kernel_rfl) (fun _ _ _ h => h) rfl hC0 ?_ ?_
        rotate_left
        · intro W hC; go_simp; try with_reducible rfl
        simp only [Act.put, List.setIfInBounds_toArray, List.set_cons_zero, List.set_cons_succ]
        refine take_JW 9 _ _ (v := ?_) rfl (by kernel_rfl) (by kernel_rfl) (by kernel_rfl) (by kernel_rfl) (fun _ _ _ h => h) rfl hC0 ?_ ?_
        rotate_left
        · intro W hC; go_simp; try with_reducible rfl
        simp only [Act.put, List.setIfInBounds_toArray, List.set_cons_zero, List.set_cons_succ]
        refine take_JW 10 _ _ (v := ?_) rfl (by kernel_rfl) (by kernel_rfl) (by kernel_rfl) (by kernel_rfl) (fun _ _ _ h => h) rfl hC0 ?_ ?_
        rotate_left
        · intro W hC; go_simp; try with_reducible rfl
        simp only [Act.put, List.setIfInBounds_toArray, List.set_cons_zero, List.set_cons_succ]
        refine take_JW 11 _ _ (v := ?_) rfl (by kernel_rfl) (by kernel_rfl) (by kernel_rfl) (by kernel_rfl) (fun _ _ _ h => h) rfl hC0 ?_ ?_
        rotate_left
        · intro W hC; have hc8 := hC; go_simp; try with_reducible rfl
        simp only [Act.put, List.setIfInBounds_toArray, List.set_cons_zero, List.set_cons_succ]
        refine ready_JW 7 _ _ rfl (by kernel_rfl) rfl (fun K hK => ?_)
        go_simp
        with_reducible refine (sha_Len_any g s vh rest n _ (hHs5.out.keep HBA.out)).mono ?_
        rintro e wb ⟨rfl, rfl⟩
        rw [hwn.out]
        refine hK _ _ (fun _ => hC0) ?_
        clear hK K
        refine take_JW 12 _ _ (v := ?_) rfl (by kernel_rfl) (by kernel_rfl) (by kernel_rfl) (by kernel_rfl) (fun _ _ _ h => h) rfl hC0 ?_ ?_
        rotate_left
        · intro W hC; go_simp; try with_reducible rfl
        simp only [Act.put, List.setIfInBounds_toArray, List.set_cons_zero, List.set_cons_succ]
        refine take_J 13 _ _ (v := ?_) rfl (by kernel_rfl) (by kernel_rfl) (by kernel_rfl) (by kernel_rfl) (fun _ _ _ h => h) rfl hC0 ?_ ?_
        rotate_left
        · intro W hC; go_simp; try with_reducible rfl
        simp only [Act.put, List.setIfInBounds_toArray, List.set_cons_zero, List.set_cons_succ]
        refine wpAnyJ_done (by kernel_rfl) ?_ _
        have HBs := hd_ (bel_trans HBr.out HBA.out)
        have hHs6 := hd_ (hHs5.out.keep HBA.out)
        have hHr6 := hd_ (hHr5.out.keep HBA.out)
        have hC9 := hC0
        clear hC0 hFa
        generalize wa = wz at *
        have hMl := hIn.out.2.2.2
        have hwm : wrap64 (1152921504606846976 - (M.length : Int)) = 1152921504606846976 - (M.length : Int) := by unfold wrap64; omega
        obtain ⟨Ay, cy, rfl, _⟩ := hIn.out.2.2.1.form
        by_cases hle : n + M.length ≤ 1152921504606846976
        · have hleI : (n : Int) ≤ 1152921504606846976 - (M.length : Int) := by omega
          have hleH := hd_ hle
          have hMH := hd_ (And.intro (hIn.out.2.2.1.keep HBs.out) hMl)
          have hMw := hd_ (show M ≠ [] → ∀ k, (Value.slice Ay M.length cy).ownBlock = some k → k < w.heap.size from fun hne k e => rd_lt hIn.out.2.2.1 hne k e)
          have hgw := hd_ (show w.heap.size ≤ g1 ∧ g1 < g ∧ g < gx from ⟨hg1.out.1, hg1H.out, hor.out.1⟩)
          have hyg := hd_ (show M ≠ [] → (Value.slice Ay M.length cy).ownBlock ≠ some g from fun hne e => by have := hMw.out hne g e; have := hgw.out; omega)
          have hyx := hd_ (show M ≠ [] → ∀ k, (Value.slice Ay M.length cy).ownBlock = some k → k ≠ gx ∧ vx.ownBlock ≠ some k from fun hne k e => by
            have h1 := hMw.out hne k e
            have h2 := hgw.out
            exact ⟨by omega, fun e2 => by have := hor.out.2 k e2; omega⟩)
          clear hle hMl
          go_upto_region 16 with (go_at_call 22; (with_reducible refine (sha_Write_any g s vh rest n _ M _ hHs6.out hn64.out hr64.out hMH.out.1 hMH.out.2 hyg.out).mono ?_); rintro e wp ⟨rfl, vh2, hHs7, hCh, hnew⟩)
          have hHr7 := hd_ (hHr6.out.chg hCh (fun e => by have := hgw.out; omega) (fun k e e2 => by have := hor.out.2 k e; omega))
          have HBp := hd_ (Chg.then HBs.out hCh (fun b hb => by subst hb; have := hgw.out; omega) HBs.out.size)
          have hHq := hd_ (And.intro hHs7 hnew)
          clear hHs7 hnew hCh
          go_upto_region 17 with (go_at_call 27; (with_reducible refine (ref_Write_any gx s vx rest n _ M _ hHr7.out hr63.out (hIn.out.2.2.1.keep HBp.out) hMH.out.2 hyx.out).mono ?_); rintro e wq ⟨rfl, vx2, hHr8, hCx, hownx⟩)
          have hHs8 := hHq.out.1.chg hCx (fun e => by
            rcases e with e | e
            · have := hgw.out; omega
            · have := hor.out.2 g e; omega) (fun k e e2 => by
            have h1 := hHq.out.2 k e
            have h2 := hHr6.out.1.lt
            rcases e2 with e2 | e2
            · omega
            · have := hHr6.out.2.1.lt k e2; omega)
          have HBq2 := hd_ (Chg.then HBp.out hCx (fun b hb => by
            have := hgw.out
            rcases hb with hb | hb
            · omega
            · have := hor.out.2 b hb; omega) HBp.out.size)
          rw [Nat.mod_eq_of_lt (by have := hleH.out; omega)] at hHs8
          have hN2 := hd_ hleH.out
          have hR2 := hd_ (show (wrR (rest ++ M)).length < 64 by rw [wrR_length]; omega)
          have hHsH := hd_ hHs8
          have hHrH := hd_ hHr8
          clear hHs8 hHr8 hCx hownx hHq hyg hyx hMw hMH hHr7 hHs6 hHr6
          generalize wrS s (rest ++ M) = S2 at *
          generalize wrR (rest ++ M) = R2 at *
          generalize n + M.length = N2 at *
          have heq := eqDg (sumL S2 R2 N2) (sumL S2 R2 N2) (by unfold sumL; rw [layS_length]) (by unfold sumL; rw [layS_length])
          rw [decide_eq_true rfl] at heq
          have hN64 := hd_ (show N2 < 18446744073709551616 by have := hN2.out; omega)
          have hwN := hd_ ((wq_all N2 hN2.out).2.2.2.2)
          have hC0 : (fun W : World => W.cell? ⟨gx, 8, none⟩ = some (.int .i64 ((N2 : Nat) : Int))) wq.drew := cell_keep (Below.refl wq.heap.size wq).drew ((hHrH.out).len8 hN2.out)
          refine region_J [] (fun W : World => W.cell? ⟨gx, 8, none⟩ = some (.int .i64 ((N2 : Nat) : Int))) (by kernel_rfl) ?_
          refine take_J 0 _ _ (v := ?_) rfl (by kernel_rfl) (by kernel_rfl) (by kernel_rfl) (by kernel_rfl) (fun _ _ _ h => h) rfl hC0 ?_ ?_
          rotate_left
          · intro W hC; go_simp; try with_reducible rfl
          simp only [Act.put, List.setIfInBounds_toArray, List.set_cons_zero, List.set_cons_succ]
          refine take_J 2 _ _ (v := ?_) rfl (by kernel_rfl) (by kernel_rfl) (by kernel_rfl) (by kernel_rfl) (fun _ _ _ h => h) rfl hC0 ?_ ?_
          rotate_left
          · intro W hC; go_simp; try with_reducible rfl
          simp only [Act.put, List.setIfInBounds_toArray, List.set_cons_zero, List.set_cons_succ]
          refine ready_J 1 _ _ rfl (by kernel_rfl) rfl (fun K hK => ?_)
          go_simp
          with_reducible refine (sha_HSum_any g S2 vh2 R2 N2 _ (hHsH.out.keep (Below.refl wq.heap.size wq).drew) hN64.out (Nat.le_of_lt hR2.out)).mono ?_
          rintro e wa ⟨rfl, HBa⟩
          have HB1a := hd_ (bel_trans (Below.refl wq.heap.size wq).drew HBa)
          have hC1 := cell_keep HBa hC0
          clear hC0 HBa
          have hC0 := hC1
          clear hC1
          refine hK _ _ (fun _ => hC0) ?_
          clear hK K
          refine ready_J 3 _ _ rfl (by kernel_rfl) rfl (fun K hK => ?_)
          go_simp
          with_reducible refine (ref_HSum_any gx S2 vx2 R2 N2 _ (hHrH.out.keep HB1a.out) hR2.out).mono ?_
          rintro e wb ⟨rfl, HBb⟩
          have HB1b := hd_ (bel_trans HB1a.out HBb)
          have hC1 := cell_keep HBb hC0
          clear hC0 HBb
          have hC0 := hC1
          clear hC1
          refine hK _ _ (fun _ => hC0) ?_
          clear hK K
          refine take_J 4 _ _ (v := ?_) rfl (by kernel_rfl) (by kernel_rfl) (by kernel_rfl) (by kernel_rfl) (fun _ _ _ h => h) rfl hC0 ?_ ?_
          rotate_left
          · intro W hC; go_simp; try with_reducible rfl
          simp only [Act.put, List.setIfInBounds_toArray, List.set_cons_zero, List.set_cons_succ]
          refine take_J 5 _ _ (v := ?_) rfl (by kernel_rfl) (by kernel_rfl) (by kernel_rfl) (by kernel_rfl) (fun _ _ _ h => h) rfl hC0 ?_ ?_
          rotate_left
          · intro W hC; go_simp; try with_reducible rfl
          simp only [Act.put, List.setIfInBounds_toArray, List.set_cons_zero, List.set_cons_succ]
          refine take_JW 6 _ _ (v := ?_) rfl (by kernel_rfl) (by kernel_rfl) (by kernel_rfl) (by kernel_rfl) (fun _ _ _ h => h) rfl hC0 ?_ ?_
          rotate_left
          · intro W hC; go_simp; try with_reducible rfl
          simp only [Act.put, List.setIfInBounds_toArray, List.set_cons_zero, List.set_cons_succ]
          refine take_JW 8 _ _ (v := ?_) rfl (by kernel_rfl) (by kernel_rfl) (by kernel_rfl) (by kernel_rfl) (fun _ _ _ h => h) rfl hC0 ?_ ?_
          rotate_left
          · intro W hC; go_simp; try with_reducible rfl
          simp only [Act.put, List.setIfInBounds_toArray, List.set_cons_zero, List.set_cons_succ]
          refine take_JW 9 _ _ (v := ?_) rfl (by kernel_rfl) (by kernel_rfl) (by kernel_rfl) (by kernel_rfl) (fun _ _ _ h => h) rfl hC0 ?_ ?_
          rotate_left
          · intro W hC; go_simp; try with_reducible rfl
          simp only [Act.put, List.setIfInBounds_toArray, List.set_cons_zero, List.set_cons_succ]
          refine take_JW 10 _ _ (v := ?_) rfl (by kernel_rfl) (by kernel_rfl) (by kernel_rfl) (by kernel_rfl) (fun _ _ _ h => h) rfl hC0 ?_ ?_
          rotate_left
          · intro W hC; go_simp; try with_reducible rfl
          simp only [Act.put, List.setIfInBounds_toArray, List.set_cons_zero, List.set_cons_succ]
          refine take_JW 11 _ _ (v := ?_) rfl (by kernel_rfl) (by kernel_rfl) (by kernel_rfl) (by kernel_rfl) (fun _ _ _ h => h) rfl hC0 ?_ ?_
          rotate_left
          · intro W hC; have hc8 := hC; go_simp; try with_reducible rfl
          simp only [Act.put, List.setIfInBounds_toArray, List.set_cons_zero, List.set_cons_succ]
          refine ready_JW 7 _ _ rfl (by kernel_rfl) rfl (fun K hK => ?_)
          go_simp
          with_reducible refine (sha_Len_any g S2 vh2 R2 N2 _ (hHsH.out.keep HB1b.out)).mono ?_
          rintro e wc ⟨rfl, rfl⟩
          rw [hwN.out]
          refine hK _ _ (fun _ => hC0) ?_
          clear hK K
          refine take_JW 12 _ _ (v := ?_) rfl (by kernel_rfl) (by kernel_rfl) (by kernel_rfl) (by kernel_rfl) (fun _ _ _ h => h) rfl hC0 ?_ ?_
          rotate_left
          · intro W hC; go_simp; try with_reducible rfl
          simp only [Act.put, List.setIfInBounds_toArray, List.set_cons_zero, List.set_cons_succ]
          refine take_J 13 _ _ (v := ?_) rfl (by kernel_rfl) (by kernel_rfl) (by kernel_rfl) (by kernel_rfl) (fun _ _ _ h => h) rfl hC0 ?_ ?_
          rotate_left
          · intro W hC; go_simp; try with_reducible rfl
          simp only [Act.put, List.setIfInBounds_toArray, List.set_cons_zero, List.set_cons_succ]
          refine take_J 14 _ _ (v := ?_) rfl (by kernel_rfl) (by kernel_rfl) (by kernel_rfl) (by kernel_rfl) (fun _ _ _ h => h) rfl hC0 ?_ ?_
          rotate_left
          · intro W hC; go_simp; try with_reducible rfl
          simp only [Act.put, List.setIfInBounds_toArray, List.set_cons_zero, List.set_cons_succ]
          refine take_JW 15 _ _ (v := ?_) rfl (by kernel_rfl) (by kernel_rfl) (by kernel_rfl) (by kernel_rfl) (fun _ _ _ h => h) rfl hC0 ?_ ?_
          rotate_left
          · intro W hC; go_simp; try with_reducible rfl
          simp only [Act.put, List.setIfInBounds_toArray, List.set_cons_zero, List.set_cons_succ]
          refine take_JW 17 _ _ (v := ?_) rfl (by kernel_rfl) (by kernel_rfl) (by kernel_rfl) (by kernel_rfl) (fun _ _ _ h => h) rfl hC0 ?_ ?_
          rotate_left
          · intro W hC; go_simp; try with_reducible rfl
          simp only [Act.put, List.setIfInBounds_toArray, List.set_cons_zero, List.set_cons_succ]
          refine ready_JW 16 _ _ rfl (by kernel_rfl) rfl (fun K hK => ?_)
          go_simp
          with_reducible refine (sha_Save_any g S2 vh2 R2 N2 _ (hHsH.out.keep HB1b.out) hN64.out (Nat.le_of_lt hR2.out)).mono ?_
          rintro e wd ⟨vd, rfl, HFd, HBd⟩
          have HB1d := hd_ (bel_trans HB1b.out HBd)
          have hC1 := cell_keep HBd hC0
          clear hC0 HBd
          have hC0 := hC1
          clear hC1
          have hFd := hd_ HFd.rd
          obtain ⟨Ad, cd, rfl, _⟩ := HFd.rd.form
          clear HFd
          refine hK _ _ (fun _ => hC0) ?_
          clear hK K
          refine ready_JW 18 _ _ rfl (by kernel_rfl) rfl (fun K hK => ?_)
          go_simp
          with_reducible refine (ref_Save_any gx S2 vx2 R2 N2 _ (hHrH.out.keep HB1d.out) hR2.out).mono ?_
          rintro e we ⟨ve, rfl, HFe, HBe⟩
          have HB1e := hd_ (bel_trans HB1d.out HBe)
          have hC1 := cell_keep HBe hC0
          have hFd2 := hd_ (hFd.out.keep HBe)
          clear hC0 HBe
          have hC0 := hC1
          clear hC1
          rw [Nat.mod_eq_of_lt hN64.out] at HFe
          have hFe := hd_ HFe.rd
          obtain ⟨Ae, ce, rfl, _⟩ := HFe.rd.form
          clear HFe
          refine hK _ _ (fun _ => hC0) ?_
          clear hK K
          refine ready_JW 19 _ _ rfl (by kernel_rfl) rfl (fun K hK => ?_)
          go_simp
          with_reducible refine (Same_any _ _ _ _ _ hFd2.out hFe.out).mono ?_
          rintro e wf ⟨rfl, rfl⟩
          rw [decide_eq_true rfl]
          refine hK _ _ (fun _ => hC0) ?_
          clear hK K
          refine take_JW 20 _ _ (v := ?_) rfl (by kernel_rfl) (by kernel_rfl) (by kernel_rfl) (by kernel_rfl) (fun _ _ _ h => h) rfl hC0 ?_ ?_
          rotate_left
          · intro W hC; go_simp; try with_reducible rfl
          simp only [Act.put, List.setIfInBounds_toArray, List.set_cons_zero, List.set_cons_succ]
          refine take_J 21 _ _ (v := ?_) rfl (by kernel_rfl) (by kernel_rfl) (by kernel_rfl) (by kernel_rfl) (fun _ _ _ h => h) rfl hC0 ?_ ?_
          rotate_left
          · intro W hC; go_simp; try with_reducible rfl
          simp only [Act.put, List.setIfInBounds_toArray, List.set_cons_zero, List.set_cons_succ]
          refine wpAnyJ_done (by kernel_rfl) ?_ _
          have HBend := hd_ (bel_trans HBq2.out HB1e.out)
          clear hC0 heq
          go_wp2_with (first
            | (go_at_call 17; with_reducible refine (sha_Sum_none _).mono ?_; rintro e wg ⟨rfl, HBg⟩)
            | (go_at_call 12; with_reducible refine (Print_nil _).mono ?_; rintro e wh ⟨rfl, HBh⟩))
          go_ret
          exact ⟨rfl, bel_trans HBend.out (bel_trans HBg HBh)⟩
        · have hleI : ¬ ((n : Int) ≤ 1152921504606846976 - (M.length : Int)) := by omega
          clear hle hMl
          go_upto_region 17 with fail
          have heq := eqDg (sumL s rest n) (sumL s rest n) (by unfold sumL; rw [layS_length]) (by unfold sumL; rw [layS_length])
          rw [decide_eq_true rfl] at heq
          have hN64 := hd_ (show n < 18446744073709551616 by have := hn60.out; omega)
          have hwN := hd_ ((wq_all n hn60.out).2.2.2.2)
          have hC0 : (fun W : World => W.cell? ⟨gx, 8, none⟩ = some (.int .i64 ((n : Nat) : Int))) wz.drew := cell_keep (Below.refl wz.heap.size wz).drew ((hHr6.out).len8 hn60.out)
          refine region_J [] (fun W : World => W.cell? ⟨gx, 8, none⟩ = some (.int .i64 ((n : Nat) : Int))) (by kernel_rfl) ?_
          refine take_J 0 _ _ (v := ?_) rfl (by kernel_rfl) (by kernel_rfl) (by kernel_rfl) (by kernel_rfl) (fun _ _ _ h => h) rfl hC0 ?_ ?_
          rotate_left
          · intro W hC; go_simp; try with_reducible rfl
          simp only [Act.put, List.setIfInBounds_toArray, List.set_cons_zero, List.set_cons_succ]
          refine take_J 2 _ _ (v := ?_) rfl (by kernel_rfl) (by kernel_rfl) (by kernel_rfl) (by kernel_rfl) (fun _ _ _ h => h) rfl hC0 ?_ ?_
          rotate_left
          · intro W hC; go_simp; try with_reducible rfl
          simp only [Act.put, List.setIfInBounds_toArray, List.set_cons_zero, List.set_cons_succ]
          refine ready_J 1 _ _ rfl (by kernel_rfl) rfl (fun K hK => ?_)
          go_simp
          with_reducible refine (sha_HSum_any g s vh rest n _ (hHs6.out.keep (Below.refl wz.heap.size wz).drew) hN64.out (Nat.le_of_lt hr63.out)).mono ?_
          rintro e wa ⟨rfl, HBa⟩
          have HB1a := hd_ (bel_trans (Below.refl wz.heap.size wz).drew HBa)
          have hC1 := cell_keep HBa hC0
          clear hC0 HBa
          have hC0 := hC1
          clear hC1
          refine hK _ _ (fun _ => hC0) ?_
          clear hK K
          refine ready_J 3 _ _ rfl (by kernel_rfl) rfl (fun K hK => ?_)
          go_simp
          with_reducible refine (ref_HSum_any gx s vx rest n _ (hHr6.out.keep HB1a.out) hr63.out).mono ?_
          rintro e wb ⟨rfl, HBb⟩
          have HB1b := hd_ (bel_trans HB1a.out HBb)
          have hC1 := cell_keep HBb hC0
          clear hC0 HBb
          have hC0 := hC1
          clear hC1
          refine hK _ _ (fun _ => hC0) ?_
          clear hK K
          refine take_J 4 _ _ (v := ?_) rfl (by kernel_rfl) (by kernel_rfl) (by kernel_rfl) (by kernel_rfl) (fun _ _ _ h => h) rfl hC0 ?_ ?_
          rotate_left
          · intro W hC; go_simp; try with_reducible rfl
          simp only [Act.put, List.setIfInBounds_toArray, List.set_cons_zero, List.set_cons_succ]
          refine take_J 5 _ _ (v := ?_) rfl (by kernel_rfl) (by kernel_rfl) (by kernel_rfl) (by kernel_rfl) (fun _ _ _ h => h) rfl hC0 ?_ ?_
          rotate_left
          · intro W hC; go_simp; try with_reducible rfl
          simp only [Act.put, List.setIfInBounds_toArray, List.set_cons_zero, List.set_cons_succ]
          refine take_JW 6 _ _ (v := ?_) rfl (by kernel_rfl) (by kernel_rfl) (by kernel_rfl) (by kernel_rfl) (fun _ _ _ h => h) rfl hC0 ?_ ?_
          rotate_left
          · intro W hC; go_simp; try with_reducible rfl
          simp only [Act.put, List.setIfInBounds_toArray, List.set_cons_zero, List.set_cons_succ]
          refine take_JW 8 _ _ (v := ?_) rfl (by kernel_rfl) (by kernel_rfl) (by kernel_rfl) (by kernel_rfl) (fun _ _ _ h => h) rfl hC0 ?_ ?_
          rotate_left
          · intro W hC; go_simp; try with_reducible rfl
          simp only [Act.put, List.setIfInBounds_toArray, List.set_cons_zero, List.set_cons_succ]
          refine take_JW 9 _ _ (v := ?_) rfl (by kernel_rfl) (by kernel_rfl) (by kernel_rfl) (by kernel_rfl) (fun _ _ _ h => h) rfl hC0 ?_ ?_
          rotate_left
          · intro W hC; go_simp; try with_reducible rfl
          simp only [Act.put, List.setIfInBounds_toArray, List.set_cons_zero, List.set_cons_succ]
          refine take_JW 10 _ _ (v := ?_) rfl (by kernel_rfl) (by kernel_rfl) (by kernel_rfl) (by kernel_rfl) (fun _ _ _ h => h) rfl hC0 ?_ ?_
          rotate_left
          · intro W hC; go_simp; try with_reducible rfl
          simp only [Act.put, List.setIfInBounds_toArray, List.set_cons_zero, List.set_cons_succ]
          refine take_JW 11 _ _ (v := ?_) rfl (by kernel_rfl) (by kernel_rfl) (by kernel_rfl) (by kernel_rfl) (fun _ _ _ h => h) rfl hC0 ?_ ?_
          rotate_left
          · intro W hC; have hc8 := hC; go_simp; try with_reducible rfl
          simp only [Act.put, List.setIfInBounds_toArray, List.set_cons_zero, List.set_cons_succ]
          refine ready_JW 7 _ _ rfl (by kernel_rfl) rfl (fun K hK => ?_)
          go_simp
          with_reducible refine (sha_Len_any g s vh rest n _ (hHs6.out.keep HB1b.out)).mono ?_
          rintro e wc ⟨rfl, rfl⟩
          rw [hwN.out]
          refine hK _ _ (fun _ => hC0) ?_
          clear hK K
          refine take_JW 12 _ _ (v := ?_) rfl (by kernel_rfl) (by kernel_rfl) (by kernel_rfl) (by kernel_rfl) (fun _ _ _ h => h) rfl hC0 ?_ ?_
          rotate_left
          · intro W hC; go_simp; try with_reducible rfl
          simp only [Act.put, List.setIfInBounds_toArray, List.set_cons_zero, List.set_cons_succ]
          refine take_J 13 _ _ (v := ?_) rfl (by kernel_rfl) (by kernel_rfl) (by kernel_rfl) (by kernel_rfl) (fun _ _ _ h => h) rfl hC0 ?_ ?_
          rotate_left
          · intro W hC; go_simp; try with_reducible rfl
          simp only [Act.put, List.setIfInBounds_toArray, List.set_cons_zero, List.set_cons_succ]
          refine take_J 14 _ _ (v := ?_) rfl (by kernel_rfl) (by kernel_rfl) (by kernel_rfl) (by kernel_rfl) (fun _ _ _ h => h) rfl hC0 ?_ ?_
          rotate_left
          · intro W hC; go_simp; try with_reducible rfl
          simp only [Act.put, List.setIfInBounds_toArray, List.set_cons_zero, List.set_cons_succ]
          refine take_JW 15 _ _ (v := ?_) rfl (by kernel_rfl) (by kernel_rfl) (by kernel_rfl) (by kernel_rfl) (fun _ _ _ h => h) rfl hC0 ?_ ?_
          rotate_left
          · intro W hC; go_simp; try with_reducible rfl
          simp only [Act.put, List.setIfInBounds_toArray, List.set_cons_zero, List.set_cons_succ]
          refine take_JW 17 _ _ (v := ?_) rfl (by kernel_rfl) (by kernel_rfl) (by kernel_rfl) (by kernel_rfl) (fun _ _ _ h => h) rfl hC0 ?_ ?_
          rotate_left
          · intro W hC; go_simp; try with_reducible rfl
          simp only [Act.put, List.setIfInBounds_toArray, List.set_cons_zero, List.set_cons_succ]
          refine ready_JW 16 _ _ rfl (by kernel_rfl) rfl (fun K hK => ?_)
          go_simp
          with_reducible refine (sha_Save_any g s vh rest n _ (hHs6.out.keep HB1b.out) hN64.out (Nat.le_of_lt hr63.out)).mono ?_
          rintro e wd ⟨vd, rfl, HFd, HBd⟩
          have HB1d := hd_ (bel_trans HB1b.out HBd)
          have hC1 := cell_keep HBd hC0
          clear hC0 HBd
          have hC0 := hC1
          clear hC1
          have hFd := hd_ HFd.rd
          obtain ⟨Ad, cd, rfl, _⟩ := HFd.rd.form
          clear HFd
          refine hK _ _ (fun _ => hC0) ?_
          clear hK K
          refine ready_JW 18 _ _ rfl (by kernel_rfl) rfl (fun K hK => ?_)
          go_simp
          with_reducible refine (ref_Save_any gx s vx rest n _ (hHr6.out.keep HB1d.out) hr63.out).mono ?_
          rintro e we ⟨ve, rfl, HFe, HBe⟩
          have HB1e := hd_ (bel_trans HB1d.out HBe)
          have hC1 := cell_keep HBe hC0
          have hFd2 := hd_ (hFd.out.keep HBe)
          clear hC0 HBe
          have hC0 := hC1
          clear hC1
          rw [Nat.mod_eq_of_lt hN64.out] at HFe
          have hFe := hd_ HFe.rd
          obtain ⟨Ae, ce, rfl, _⟩ := HFe.rd.form
          clear HFe
          refine hK _ _ (fun _ => hC0) ?_
          clear hK K
          refine ready_JW 19 _ _ rfl (by kernel_rfl) rfl (fun K hK => ?_)
          go_simp
          with_reducible refine (Same_any _ _ _ _ _ hFd2.out hFe.out).mono ?_
          rintro e wf ⟨rfl, rfl⟩
          rw [decide_eq_true rfl]
          refine hK _ _ (fun _ => hC0) ?_
          clear hK K
          refine take_JW 20 _ _ (v := ?_) rfl (by kernel_rfl) (by kernel_rfl) (by kernel_rfl) (by kernel_rfl) (fun _ _ _ h => h) rfl hC0 ?_ ?_
          rotate_left
          · intro W hC; go_simp; try with_reducible rfl
          simp only [Act.put, List.setIfInBounds_toArray, List.set_cons_zero, List.set_cons_succ]
          refine take_J 21 _ _ (v := ?_) rfl (by kernel_rfl) (by kernel_rfl) (by kernel_rfl) (by kernel_rfl) (fun _ _ _ h => h) rfl hC0 ?_ ?_
          rotate_left
          · intro W hC; go_simp; try with_reducible rfl
          simp only [Act.put, List.setIfInBounds_toArray, List.set_cons_zero, List.set_cons_succ]
          refine wpAnyJ_done (by kernel_rfl) ?_ _
          have HBend := hd_ (bel_trans HBs.out HB1e.out)
          clear hC0 heq
          go_wp2_with (first
            | (go_at_call 17; with_reducible refine (sha_Sum_none _).mono ?_; rintro e wg ⟨rfl, HBg⟩)
            | (go_at_call 12; with_reducible refine (Print_nil _).mono ?_; rintro e wh ⟨rfl, HBh⟩))
          go_ret
          exact ⟨rfl, bel_trans HBend.out (bel_trans HBg HBh)⟩
theorem cell_put (W : World) (g j i : Nat) (u : Value) (hj : (W.cell? ⟨g, j, none⟩).isSome = true) : (W.setCell ⟨g, j, none⟩ u).cell? ⟨g, i, none⟩ = if i = j then some u else W.cell? ⟨g, i, none⟩ := by
  by_cases h : i = j
  · subst h
    obtain ⟨x, hx⟩ := Option.isSome_iff_exists.1 hj
    rw [if_pos rfl, World.cell?_setCell_same _ _ _ hx]
  · rw [if_neg h, World.cell?_setCell_other _ _ _ _ (fun e => by injection e with _ e; exact h e.symm)]
theorem frozen_put (W : World) (g j i : Nat) (u : Value) : (W.setCell ⟨g, j, none⟩ u).frozen? ⟨g, i, none⟩ = W.frozen? ⟨g, i, none⟩ := World.frozen?_setCells g [u] j W ⟨g, i, none⟩
theorem chg_put (W : World) (g j : Nat) (u : Value) : Chg (fun k => k = g) W (W.setCell ⟨g, j, none⟩ u) := chg_setCells g [u] j W
theorem OwnF.put {W : World} {base g n cap : Nat} {xs : List Int} (h : OwnF W base (.slice (some ⟨g, 0, none⟩) n cap) xs) (j : Nat) (hj : j < xs.length) (b : Int) (h0 : 0 ≤ b) (h1 : b < 256) :
    OwnF (W.setCell ⟨g, j, none⟩ (.int .u8 b)) base (.slice (some ⟨g, 0, none⟩) n cap) (xs.set j b) := by
  obtain ⟨hb, g', cap', hv, k1, k2, k3, k4, k5, k6, k7⟩ := h
  injection hv with e1 e2 e3
  injection e1 with e1
  injection e1 with e1
  subst e1; subst e3; subst e2
  have hc := chg_put W g j (.int .u8 b)
  refine ⟨?_, g, cap, by rw [List.length_set], k1, Nat.lt_of_lt_of_le k2 hc.size, by rw [List.length_set]; exact k3, k4, fun i hi => ?_, fun i hi => ?_, fun i hi => ?_⟩
  · intro x hx
    rcases List.mem_or_eq_of_mem_set hx with h3 | h3
    · exact hb x h3
    · subst h3; exact ⟨h0, h1⟩
  · rw [List.length_set] at hi
    rw [cell_put W g j i _ (k6 j (by omega))]
    by_cases e : i = j
    · subst e
      rw [if_pos rfl, List.getD_eq_getElem?_getD, List.getElem?_set_self hi]
      rfl
    · rw [if_neg e, k5 i hi, List.getD_eq_getElem?_getD, List.getD_eq_getElem?_getD, List.getElem?_set_ne (fun h => e h.symm)]
  · rw [cell_put W g j i _ (k6 j (by omega))]
    split
    · rfl
    · exact k6 i hi
  · rw [frozen_put]; exact k7 i hi
/-- append onto such a row: in place, or into a new one -/
theorem run_appG {P : Program} {W : World} (t ty e : TypeId) (ht : P.underlying t = some (.slice e)) (hinfo : (P.info? e).map (fun i => (i.zero, i.size, i.bytes)) = some (some (.int .u8 0), 1, 1))
    {v y : Value} {xs ys : List Int} (HO : OwnN W v xs) (HR : Rd W y ys) (hl : xs.length + ys.length ≤ 140737488355328) :
    ∃ v1 w1, (Builtin.append_ #[t, t] ty #[v, y]).run P W = .ok v1 w1 ∧ OwnN w1 v1 (xs ++ ys) ∧ ((v1.ownBlock = v.ownBlock ∧ Chg (fun k => v.ownBlock = some k) W w1) ∨ ((∀ k, v1.ownBlock = some k → W.heap.size ≤ k) ∧ Below W.heap.size W w1)) := by
  rcases HO with ⟨rfl, rfl⟩ | HO
  · obtain ⟨v1, w1, hr, h2, h3, h5⟩ := run_app (P := P) W.heap.size t ty e (.int .u8 0) 1 1 ht hinfo rfl (by omega) (World.ownsRow_nil W W.heap.size e 1) HR.2 (nums8_one ys) (Nat.le_refl _) (by omega) (by simp at hl; omega)
    have hO : Own w1 W.heap.size e v1 ys := ⟨HR.1, by simpa using h2⟩
    refine ⟨v1, w1, hr, ?_, .inr ⟨fun k hk => (h2.lt k hk).1, ((Chg.of h3).mono (S' := fun _ => False) (fun b _ e => by cases e)).to_below (fun b h => h.elim) (Nat.le_refl _)⟩⟩
    rw [List.nil_append]
    by_cases hv : v1 = .slice none 0 0
    · subst hv
      obtain ⟨A, c, he, _⟩ := hO.rd.form
      injection he with _ e2 _
      exact .inl ⟨rfl, List.eq_nil_of_length_eq_zero e2.symm⟩
    · exact .inr ((hO.toF hv).low (Nat.zero_le _))
  · obtain ⟨v1, w1, hr, h2, h3, h5⟩ := run_appF (P := P) 0 t ty e ht hinfo HO HR (Nat.zero_le _) hl
    refine ⟨v1, w1, hr, .inr h2, ?_⟩
    rcases h5 with h5 | h5
    · exact .inl ⟨h5, h3⟩
    · obtain ⟨i0, hi, hz0, hz1, hz2⟩ := info_parts hinfo
      have hb0 : (∀ k, v1.ownBlock = some k → W.heap.size ≤ k) := h5
      refine .inr ⟨h5, ?_⟩
      -- a new row leaves all that was there
      obtain ⟨hb, g, cap, rfl, k1, k2, k3, k4, k5, k6, k7⟩ := HO
      obtain ⟨hby, hlen, A, capy, rfl, hc1, hc2, hc3, hc4⟩ := HR
      rw [nums8_length, Nat.mul_one] at hlen
      obtain ⟨_, g2, cap2, hv2, _, hg2, _⟩ := h2
      have hge := h5 g2 (by rw [hv2]; rfl)
      cases A with
      | none =>
        have hcap := hc3 rfl
        subst hcap
        obtain rfl : ys = [] := List.eq_nil_of_length_eq_zero (by omega)
        have hr2 : (Builtin.append_ #[t, t] ty #[.slice (some ⟨g, 0, none⟩) xs.length cap, .slice none 0 0]).run P W = .ok (.slice (some ⟨g, 0, none⟩) xs.length cap) W := by
          simp [Builtin.append_, run_underlying ht, sizeOf, typeInfo, hi, Builtin.lenOf, Builtin.firstCells, k3, storeCells]
        have := hr.symm.trans hr2
        injection this with e1 e2
        subst e2
        exact Below.refl _ _
      | some ad =>
        have hcells : ∀ j u, (nums8 ys)[j]? = some u → W.cell? (ad.add j) = some u := by
          intro j u hu
          have hj := (List.getElem?_eq_some_iff.1 hu).1
          obtain ⟨b, off, ha, hc⟩ := hc4 j hj
          injection ha with ha
          subst ha
          rw [Addr.add_lit, hc, hu]
        by_cases hroom : xs.length + ys.length ≤ cap
        · have hr2 := run_append_room_cells (P := P) W t ty e i0 ht hi g 0 xs.length cap ad ys.length capy (nums8 ys) (by rw [nums8_length, hz1, Nat.mul_one]) hcells (nums8_one ys) hroom
            (fun j hj => by rw [nums8_length] at hj; rw [hz1]; exact k6 _ (by omega)) (fun j hj => by rw [nums8_length] at hj; rw [hz1]; exact k7 _ (by omega))
          have := hr.symm.trans hr2
          injection this with e1 e2
          rw [hv2] at e1
          injection e1 with e1
          injection e1 with e1
          injection e1 with e1
          omega
        · obtain ⟨v', w', hr2, ho, hg⟩ := run_append_arg_grows (P := P) W t ty e i0 (.int .u8 0) 1 1 ht hi hz0 hz1 hz2 rfl (by omega) ⟨g, 0, none⟩ xs.length cap (nums8 xs) (by rw [nums8_length, Nat.mul_one])
            (fun j u hu => by
              have hj := (List.getElem?_eq_some_iff.1 hu).1
              rw [nums8_length] at hj
              rw [Addr.add_lit, Nat.zero_add, k5 j hj, ← hu, nums8_get xs j hj])
            ad ys.length capy (nums8 ys) (by rw [nums8_length, Nat.mul_one]) hcells (by omega) (by simp only [maxLen]; omega) (by omega)
          have := hr.symm.trans hr2
          injection this with e1 e2
          subst e2
          exact ((Chg.of hg).mono (S' := fun _ => False) (fun b _ e => by cases e)).to_below (fun b h => h.elim) (Nat.le_refl _)
/-- append onto what has no room left: a new row -/
theorem run_app_full {P : Program} {W : World} (t ty e : TypeId) (ht : P.underlying t = some (.slice e)) (hinfo : (P.info? e).map (fun i => (i.zero, i.size, i.bytes)) = some (some (.int .u8 0), 1, 1))
    {A : Option Addr} {n : Nat} {y : Value} {xs ys : List Int} (HX : Rd W (.slice A n n) xs) (HR : Rd W y ys) (hy : ys ≠ []) (hl : xs.length + ys.length ≤ 140737488355328) :
    ∃ v1 w1, (Builtin.append_ #[t, t] ty #[.slice A n n, y]).run P W = .ok v1 w1 ∧ OwnN w1 v1 (xs ++ ys) ∧ (∀ k, v1.ownBlock = some k → W.heap.size ≤ k) ∧ Below W.heap.size W w1 := by
  have hy1 : 0 < ys.length := List.length_pos_iff.2 hy
  cases A with
  | none =>
    obtain ⟨A, c, he, h1, h2, h3, _⟩ := HX.form
    injection he with e1 e2 e3
    have hc := h3 e1.symm
    obtain rfl : xs = [] := List.eq_nil_of_length_eq_zero (by omega)
    have hn0 : n = 0 := by simpa using e2
    subst hn0
    obtain ⟨v1, w1, hr, k1, k2⟩ := run_appG (P := P) (W := W) t ty e ht hinfo (v := .slice none 0 0) (xs := []) (OwnN.nil W) HR hl
    refine ⟨v1, w1, hr, k1, ?_⟩
    rcases k2 with ⟨k2, k3⟩ | k2
    · exact ⟨fun k hk => absurd (k2.symm.trans hk) (by simp [Value.ownBlock]), (k3.mono (S' := fun _ => False) (fun b _ e => by cases e)).to_below (fun b h => h.elim) (Nat.le_refl _)⟩
    · exact k2
  | some ad0 =>
    obtain ⟨i0, hi, hz0, hz1, hz2⟩ := info_parts hinfo
    obtain ⟨hbx, hlx, Ax, capx, hvx, q1, q2, q3, q4⟩ := HX
    obtain ⟨hby, hlen, A, capy, rfl, hc1, hc2, hc3, hc4⟩ := HR
    injection hvx with e1 e2 e3
    subst e1; subst e3
    rw [nums8_length, Nat.mul_one] at hlen hlx
    cases A with
    | none => have := hc3 rfl; omega
    | some ad =>
      have hcells : ∀ j u, (nums8 ys)[j]? = some u → W.cell? (ad.add j) = some u := by
        intro j u hu
        have hj := (List.getElem?_eq_some_iff.1 hu).1
        obtain ⟨b, off, ha, hc⟩ := hc4 j hj
        injection ha with ha
        subst ha
        rw [Addr.add_lit, hc, hu]
      have hcellx : ∀ j u, (nums8 xs)[j]? = some u → W.cell? (ad0.add j) = some u := by
        intro j u hu
        have hj := (List.getElem?_eq_some_iff.1 hu).1
        obtain ⟨b, off, ha, hc⟩ := q4 j hj
        injection ha with ha
        subst ha
        rw [Addr.add_lit, hc, hu]
      have hn : n = xs.length := e2
      subst hn
      obtain ⟨v', w', hr2, ho, hg⟩ := run_append_arg_grows (P := P) W t ty e i0 (.int .u8 0) 1 1 ht hi hz0 hz1 hz2 rfl (by omega) ad0 xs.length xs.length (nums8 xs) (by rw [nums8_length, Nat.mul_one]) hcellx
        ad ys.length capy (nums8 ys) (by rw [nums8_length, Nat.mul_one]) hcells (by omega) (by simp only [maxLen]; omega) (by omega)
      have hO : Own w' W.heap.size e v' (xs ++ ys) := ⟨bytes_append hbx hby, by rw [nums8_append, List.length_append]; exact ho⟩
      have hv : v' ≠ .slice none 0 0 := fun e => by
        obtain ⟨A, c, hv, h8, _⟩ := hO.rd.form
        rw [e] at hv
        injection hv with _ e2 _
        rw [List.length_append] at e2
        omega
      have hF := (hO.toF hv)
      exact ⟨v', w', hr2, .inr (hF.low (Nat.zero_le _)), fun k hk => (hF.lt k hk).1, ((Chg.of hg).mono (S' := fun _ => False) (fun b _ e => by cases e)).to_below (fun b h => h.elim) (Nat.le_refl _)⟩
/-- a row of one-cell values, by cells -/
structure CRow (W : World) (g n : Nat) (gs : Nat → Value) : Prop where
  lt : g < W.heap.size
  cell : ∀ j, j < n → W.cell? ⟨g, j, none⟩ = some (gs j)
  free : ∀ j, j < n → W.frozen? ⟨g, j, none⟩ = false
theorem CRow.chg {S : Nat → Prop} {w w1 : World} {g n : Nat} {gs : Nat → Value} (h : CRow w g n gs) (hc : Chg S w w1) (hn : ¬ S g) : CRow w1 g n gs := by
  have hg := hc.block g h.lt hn
  exact ⟨Nat.lt_of_lt_of_le h.lt hc.size, fun j hj => by rw [World.cell?_of_block (w := w) (a := ⟨g, j, none⟩) hg]; exact h.cell j hj, fun j hj => by rw [World.frozen?_of_block (w := w) (a := ⟨g, j, none⟩) hg]; exact h.free j hj⟩
theorem CRow.keep {w w1 : World} {g n : Nat} {gs : Nat → Value} (h : CRow w g n gs) (hb : Below w.heap.size w w1) : CRow w1 g n gs := h.chg (Chg.below (S := fun _ => False) hb) (fun h => h)
def upd (f : Nat → Value) (i : Nat) (v : Value) : Nat → Value := fun j => if j = i then v else f j
def updL (f : Nat → List Int) (i : Nat) (v : List Int) : Nat → List Int := fun j => if j = i then v else f j
theorem upd_self (f : Nat → Value) (i : Nat) (v : Value) : upd f i v i = v := if_pos rfl
theorem upd_ne (f : Nat → Value) (i j : Nat) (v : Value) (h : j ≠ i) : upd f i v j = f j := if_neg h
theorem updL_self (f : Nat → List Int) (i : Nat) (v : List Int) : updL f i v i = v := if_pos rfl
theorem updL_ne (f : Nat → List Int) (i j : Nat) (v : List Int) (h : j ≠ i) : updL f i v j = f j := if_neg h
theorem CRow.put {w : World} {g n : Nat} {gs : Nat → Value} (h : CRow w g n gs) (i : Nat) (hi : i < n) (u : Value) : CRow (w.setCell ⟨g, i, none⟩ u) g n (upd gs i u) := by
  have hs : (w.cell? ⟨g, i, none⟩).isSome = true := by rw [h.cell i hi]; rfl
  refine ⟨Nat.lt_of_lt_of_le h.lt (chg_put w g i u).size, fun j hj => ?_, fun j hj => by rw [frozen_put]; exact h.free j hj⟩
  rw [cell_put w g i j u hs]
  unfold upd
  split
  · rfl
  · exact h.cell j hj
def mkB (i k : Nat) : Int := ((i * 37 + k * 11 + 5 : Nat) : Int) % 256
def mkL (i n : Nat) : List Int := (List.range n).map (mkB i)
theorem mkB_byte (i k : Nat) : 0 ≤ mkB i k ∧ mkB i k < 256 := by unfold mkB; omega
theorem mkL_length (i n : Nat) : (mkL i n).length = n := by unfold mkL; simp
theorem mkL_bytes (i n : Nat) : IsBytes (mkL i n) := by
  intro b hb
  unfold mkL at hb
  obtain ⟨k, _, rfl⟩ := List.mem_map.1 hb
  exact mkB_byte i k
theorem mkL_succ (i n : Nat) : mkL i (n + 1) = mkL i n ++ [mkB i n] := by unfold mkL; rw [List.range_succ, List.map_append]; rfl
theorem mkL_getD (i n k : Nat) (h : k < n) : (mkL i n).getD k 0 = mkB i k := by
  unfold mkL
  rw [List.getD_eq_getElem?_getD, List.getElem?_map, List.getElem?_range h]
  rfl
theorem mkL_set (i k : Nat) (L : List Int) (h : k < L.length) : (mkL i k ++ L.drop k).set k (mkB i k) = mkL i (k + 1) ++ L.drop (k + 1) := by
  rw [List.set_append_right _ _ (by rw [mkL_length]; exact Nat.le_refl _), mkL_length, Nat.sub_self, List.drop_eq_getElem_cons h, List.set_cons_zero, mkL_succ, List.append_assoc]
  rfl
theorem mark_any (a b : Nat) (ha : a ≤ 1000000) (hb : b ≤ 281474976710656) (w : World) : Calls Try.prog 44 #[.int .i64 (a : Int), .int .i64 (b : Int)] w fun e w' => e = .returned (.int .u8 (mkB a b)) ∧ w = w' := by
  have w1 : wrap64 ((a : Int) * 37) = (a : Int) * 37 := by unfold wrap64; omega
  have w2 : wrap64 ((b : Int) * 11) = (b : Int) * 11 := by unfold wrap64; omega
  have w3 : wrap64 ((a : Int) * 37 + (b : Int) * 11) = (a : Int) * 37 + (b : Int) * 11 := by unfold wrap64; omega
  have w4 : wrap64 ((a : Int) * 37 + (b : Int) * 11 + 5) = (a : Int) * 37 + (b : Int) * 11 + 5 := by unfold wrap64; omega
  have w5 : IntKind.u8.wrap ((a : Int) * 37 + (b : Int) * 11 + 5) = mkB a b := by rw [IntKind.wrap_u8]; unfold mkB; omega
  go_enter Try.func44, Try.ntmps44
  go_wp2
  go_ret
  exact ⟨by first | rfl | (simp [w1, w2, w3, w4, w5]) | (congr 2; unfold mkB; omega), rfl⟩
/-- the lists' forms: nil, or the beginning of a variable that was there -/
def VF (w0 : World) (n : Nat) (vs : Nat → Value) (ls : Nat → Nat) : Prop :=
  ∀ j, j < n → (vs j = .slice none 0 0 ∧ ls j = 0) ∨ ∃ g cap, vs j = .slice (some ⟨g, 0, none⟩) (ls j) cap ∧ ls j ≤ cap ∧ cap ≤ maxLen ∧ g < w0.heap.size
theorem VF.lt {w0 : World} {n : Nat} {vs : Nat → Value} {ls : Nat → Nat} (F : VF w0 n vs ls) (j : Nat) (hj : j < n) (b : Nat) (hb : (vs j).ownBlock = some b) : b < w0.heap.size := by
  rcases F j hj with ⟨h, _⟩ | ⟨g, cap, h, _, _, h4⟩
  · rw [h] at hb; cases hb
  · rw [h] at hb
    have : some g = some b := hb
    injection this with this
    omega
structure OwS (w0 W : World) (n : Nat) (vs : Nat → Value) (ls : Nat → Nat) (ws : Nat → Value) (ys : Nat → List Int) : Prop where
  own : ∀ j, j < n → OwnN W (ws j) (ys j)
  rd : ∀ j, j < n → Rd W (vs j) (mkL j (ls j))
  apart : ∀ i j, i < n → j < n → i ≠ j → ∀ b, (ws i).ownBlock = some b → (ws j).ownBlock ≠ some b ∧ (vs j).ownBlock ≠ some b
  old : ∀ j, j < n → ∀ b, (ws j).ownBlock = some b → (vs j).ownBlock = some b ∨ w0.heap.size ≤ b
  pre : ∀ j, j < n → ∀ b, (ws j).ownBlock = some b → (vs j).ownBlock = some b → ∃ zs, ys j = mkL j (ls j) ++ zs
  chg : Chg (fun b => ∃ j, j < n ∧ (vs j).ownBlock = some b) w0 W
section
variable {w0 W W1 : World} {n : Nat} {vs : Nat → Value} {ls : Nat → Nat} {ws : Nat → Value} {ys : Nat → List Int}
theorem OwS.other (F : VF w0 n vs ls) (h : OwS w0 W n vs ls ws ys) {T : Nat → Prop} (hc : Chg T W W1) (hT : ∀ b, T b → w0.heap.size ≤ b) (h1 : ∀ j, j < n → ∀ b, (ws j).ownBlock = some b → ¬ T b) : OwS w0 W1 n vs ls ws ys :=
  ⟨fun j hj => (h.own j hj).chg hc (h1 j hj), fun j hj => (h.rd j hj).chg hc (fun b hb ht => by have := F.lt j hj b hb; have := hT b ht; omega), h.apart, h.old, h.pre, h.chg.trans hc (fun b hb ht => by have := hT b ht; omega)⟩
theorem OwS.keep (h : OwS w0 W n vs ls ws ys) (hb : Below W.heap.size W W1) : OwS w0 W1 n vs ls ws ys :=
  ⟨fun j hj => (h.own j hj).keep hb, fun j hj => (h.rd j hj).keep hb, h.apart, h.old, h.pre, h.chg.trans (Chg.below (S := fun _ => False) hb) (fun _ _ h => h.elim)⟩
theorem OwS.fresh (F : VF w0 n vs ls) (h : OwS w0 W n vs ls ws ys) (i : Nat) (hi : i < n) (v1 : Value) (L : List Int) (hO : OwnN W1 v1 L) (hf : ∀ k, v1.ownBlock = some k → W.heap.size ≤ k) (hb : Below W.heap.size W W1) : OwS w0 W1 n vs ls (upd ws i v1) (updL ys i L) := by
  have hs := h.chg.size
  refine ⟨fun j hj => ?_, fun j hj => (h.rd j hj).keep hb, fun a b ha hb2 hab c hc => ?_, fun j hj c hc => ?_, fun j hj c hc hv => ?_, h.chg.trans (Chg.below (S := fun _ => False) hb) (fun _ _ h => h.elim)⟩
  · by_cases e : j = i
    · subst e; rw [upd_self, updL_self]; exact hO
    · rw [upd_ne _ _ _ _ e, updL_ne _ _ _ _ e]; exact (h.own j hj).keep hb
  · by_cases e : a = i
    · subst e
      rw [upd_self] at hc
      have hge := hf c hc
      rw [upd_ne _ _ _ _ (fun x => hab x.symm)]
      exact ⟨fun h2 => by have := (h.own b hb2).lt c h2; omega, fun h2 => by have := F.lt b hb2 c h2; omega⟩
    · rw [upd_ne _ _ _ _ e] at hc
      by_cases e2 : b = i
      · subst e2
        rw [upd_self]
        have hlt := (h.own a ha).lt c hc
        exact ⟨fun h2 => by have := hf c h2; omega, (h.apart a b ha hb2 hab c hc).2⟩
      · rw [upd_ne _ _ _ _ e2]; exact h.apart a b ha hb2 hab c hc
  · by_cases e : j = i
    · subst e
      rw [upd_self] at hc
      exact .inr (Nat.le_trans hs (hf c hc))
    · rw [upd_ne _ _ _ _ e] at hc; exact h.old j hj c hc
  · by_cases e : j = i
    · subst e
      rw [upd_self] at hc
      have := hf c hc
      have := F.lt j hj c hv
      omega
    · rw [upd_ne _ _ _ _ e] at hc; rw [updL_ne _ _ _ _ e]; exact h.pre j hj c hc hv
theorem rd_alias {W : World} {v v1 : Value} {b cap : Nat} {M Z : List Int} (hv : v = .slice (some ⟨b, 0, none⟩) M.length cap) (hO : OwnN W v1 (M ++ Z)) (hb : v1.ownBlock = some b) (h1 : M.length ≤ cap) (h2 : cap ≤ maxLen) : Rd W v M := by
  rcases hO with ⟨h, _⟩ | ⟨k0, g, c, hv1, _, _, _, _, k5, _, _⟩
  · rw [h] at hb; cases hb
  · rw [hv1] at hb
    have hgb : some g = some b := hb
    injection hgb with hgb
    subst hgb
    subst hv
    refine ⟨fun x hx => k0 x (List.mem_append_left _ hx), by rw [nums8_length, Nat.mul_one], _, _, rfl, h1, h2, (fun h => by cases h), fun j hj => ⟨g, 0, rfl, ?_⟩⟩
    rw [nums8_length] at hj
    rw [Nat.zero_add, k5 j (by rw [List.length_append]; omega), nums8_get M j hj, List.getD_eq_getElem?_getD, List.getElem?_append_left hj, List.getD_eq_getElem?_getD]
theorem OwS.app (F : VF w0 n vs ls) (h : OwS w0 W n vs ls ws ys) (i : Nat) (hi : i < n) (v1 : Value) (zs : List Int) (hO : OwnN W1 v1 (ys i ++ zs))
    (hc : (v1.ownBlock = (ws i).ownBlock ∧ Chg (fun k => (ws i).ownBlock = some k) W W1) ∨ ((∀ k, v1.ownBlock = some k → W.heap.size ≤ k) ∧ Below W.heap.size W W1)) : OwS w0 W1 n vs ls (upd ws i v1) (updL ys i (ys i ++ zs)) := by
  rcases hc with ⟨hs, hc⟩ | ⟨hf, hb⟩
  · refine ⟨fun j hj => ?_, fun j hj => ?_, fun a b ha hb2 hab c hc2 => ?_, fun j hj c hc2 => ?_, fun j hj c hc2 hv => ?_, h.chg.trans hc (fun b hb e => ?_)⟩
    · by_cases e : j = i
      · subst e; rw [upd_self, updL_self]; exact hO
      · rw [upd_ne _ _ _ _ e, updL_ne _ _ _ _ e]
        exact (h.own j hj).chg hc (fun k hk e2 => (h.apart i j hi hj (fun x => e x.symm) k e2).1 hk)
    · by_cases e : j = i
      · subst e
        by_cases hal : ∃ b, (ws j).ownBlock = some b ∧ (vs j).ownBlock = some b
        · obtain ⟨b, hb1, hb2⟩ := hal
          obtain ⟨Z, hZ⟩ := h.pre j hj b hb1 hb2
          rcases F j hj with ⟨hn, _⟩ | ⟨g, cap, hv, k1, k2, _⟩
          · rw [hn] at hb2; cases hb2
          · rw [hv] at hb2
            have hgb : some g = some b := hb2
            injection hgb with hgb
            subst hgb
            rw [hZ, List.append_assoc] at hO
            have hml := mkL_length j (ls j)
            exact rd_alias (by rw [hml]; exact hv) hO (hs.trans hb1) (by rw [hml]; exact k1) k2
        · exact (h.rd j hj).chg hc (fun k hk e2 => hal ⟨k, e2, hk⟩)
      · exact (h.rd j hj).chg hc (fun k hk e2 => (h.apart i j hi hj (fun x => e x.symm) k e2).2 hk)
    · have e0 : ∀ a, ((upd ws i v1) a).ownBlock = (ws a).ownBlock := fun a => by
        by_cases e : a = i
        · subst e; rw [upd_self]; exact hs
        · rw [upd_ne _ _ _ _ e]
      rw [e0] at hc2 ⊢
      exact h.apart a b ha hb2 hab c hc2
    · by_cases e : j = i
      · subst e; rw [upd_self, hs] at hc2; exact h.old j hj c hc2
      · rw [upd_ne _ _ _ _ e] at hc2; exact h.old j hj c hc2
    · by_cases e : j = i
      · subst e
        rw [upd_self, hs] at hc2
        rw [updL_self]
        obtain ⟨Z, hZ⟩ := h.pre j hj c hc2 hv
        exact ⟨Z ++ zs, by rw [hZ, List.append_assoc]⟩
      · rw [upd_ne _ _ _ _ e] at hc2; rw [updL_ne _ _ _ _ e]; exact h.pre j hj c hc2 hv
    · rcases h.old i hi b e with e2 | e2
      · exact ⟨i, hi, e2⟩
      · omega
  · exact h.fresh F i hi v1 _ hO hf hb
end
/-- the first part: the lists are written over, one byte at a time -/
structure OwP (w0 W : World) (n : Nat) (vs : Nat → Value) (ls : Nat → Nat) (ys : Nat → List Int) : Prop where
  own : ∀ j, j < n → OwnN W (vs j) (ys j)
  len : ∀ j, j < n → (ys j).length = ls j
  chg : Chg (fun b => ∃ j, j < n ∧ (vs j).ownBlock = some b) w0 W
section
variable {w0 W W1 : World} {n : Nat} {vs : Nat → Value} {ls : Nat → Nat} {ys : Nat → List Int}
theorem OwP.keep (h : OwP w0 W n vs ls ys) (hb : Below W.heap.size W W1) : OwP w0 W1 n vs ls ys :=
  ⟨fun j hj => (h.own j hj).keep hb, h.len, h.chg.trans (Chg.below (S := fun _ => False) hb) (fun _ _ h => h.elim)⟩
theorem OwP.put (h : OwP w0 W n vs ls ys) (hd : ∀ i j, i < n → j < n → i ≠ j → ∀ b, (vs i).ownBlock = some b → (vs j).ownBlock ≠ some b) (i : Nat) (hi : i < n) (g len cap : Nat) (hv : vs i = .slice (some ⟨g, 0, none⟩) len cap) (k : Nat) (hk : k < (ys i).length) (b : Int) (h0 : 0 ≤ b) (h1 : b < 256) :
    OwP w0 (W.setCell ⟨g, k, none⟩ (.int .u8 b)) n vs ls (updL ys i ((ys i).set k b)) := by
  have hc := chg_put W g k (.int .u8 b)
  have hown : (vs i).ownBlock = some g := by rw [hv]; rfl
  refine ⟨fun j hj => ?_, fun j hj => ?_, h.chg.trans hc (fun c _ e => ⟨i, hi, by rw [e]; exact hown⟩)⟩
  · by_cases e : j = i
    · subst e
      rw [updL_self]
      rcases h.own j hj with ⟨h2, _⟩ | h2
      · rw [h2] at hown; cases hown
      · rw [hv] at h2 ⊢
        exact .inr (h2.put k hk b h0 h1)
    · rw [updL_ne _ _ _ _ e]
      exact (h.own j hj).chg hc (fun c hc2 e2 => hd j i hj hi e c hc2 (by rw [e2]; exact hown))
  · by_cases e : j = i
    · subst e; rw [updL_self, List.length_set]; exact h.len j hj
    · rw [updL_ne _ _ _ _ e]; exact h.len j hj
/-- all are written over -/
theorem OwP.done (h : OwP w0 W n vs ls ys) (hd : ∀ i j, i < n → j < n → i ≠ j → ∀ b, (vs i).ownBlock = some b → (vs j).ownBlock ≠ some b) (hm : ∀ j, j < n → ys j = mkL j (ls j)) : OwS w0 W n vs ls vs ys :=
  ⟨h.own, fun j hj => by rw [← hm j hj]; exact (h.own j hj).rd, fun i j hi hj hij b hb => ⟨hd i j hi hj hij b hb, hd i j hi hj hij b hb⟩, fun j hj b hb => .inl hb, fun j hj b _ _ => ⟨[], by rw [hm j hj, List.append_nil]⟩, h.chg⟩
end
section
variable {P : Program} {ops : Array Oper} {rest : List Oper} {o : Oper} {a : Act} {K : Act → World → Prop} {Q : Exit → Act → World → Prop}
theorem make_crow {W : World} (hg : o.guard = none) (l c : Operand) (t e : TypeId) (hop : o.op = Op.makeSlice t l c)
    (ht : P.underlying t = some (.slice e)) (hinfo : (P.info? e).map (fun i => (i.zero, i.size, i.bytes)) = some (some (.slice none 0 0), 1, 24)) (n : Nat) (hl : a.eval l = .int .i64 (n : Int)) (hc : a.eval c = .int .i64 (n : Int)) (hn : n ≤ 1000)
    (h : ∀ w1, CRow w1 W.heap.size n (fun _ => .slice none 0 0) → Below W.heap.size W w1 → wpList P ops Q rest (a.put o.dst (.slice (some ⟨W.heap.size, 0, none⟩) n n)) w1) :
    wpList P ops Q (o :: rest) a W := by
  obtain ⟨i0, hi, hz0, hz1, hz2⟩ := info_parts hinfo
  refine wpList_make_full W hg l c t hop W.heap.size e i0 (.slice none 0 0) 1 ht hi hz0 hz1 .i64 .i64 n n n hl hc rfl rfl (by rw [hz2]; omega) (by unfold maxLen; omega) (Nat.le_refl _) ?_
  intro w1 h1 h2
  have hb : Below W.heap.size W w1 := (Below.refl W.heap.size W).grown h2 (Nat.le_refl _) (fun k hk => by cases hk)
  refine h w1 ⟨(h1.lt W.heap.size rfl).2, fun j hj => ?_, fun j hj => h1.frozenAt j⟩ hb
  have := h1.cells (g := W.heap.size) rfl j (.slice none 0 0) (by
    rw [Nat.mul_one]
    show (madeCells #[Value.slice none 0 0] n).toList[j]? = _
    rw [toList_madeCells_one, List.getElem?_replicate, if_pos hj])
  rw [← this]
  unfold Addr.add
  split <;> simp_all
theorem wp_app_G {W : World} (s x : Operand) (t e : TypeId)
    (ho : o.op = .call { callee := .builtin .append, args := #[s, x], argTypes := #[t, t] })
    (ht : P.underlying t = some (.slice e)) (hinfo : (P.info? e).map (fun i => (i.zero, i.size, i.bytes)) = some (some (.int .u8 0), 1, 1))
    (v y : Value) (xs ys : List Int) (hs : a.eval s = v) (hx : a.eval x = y)
    (HO : OwnN W v xs) (HR : Rd W y ys) (hl : xs.length + ys.length ≤ 140737488355328)
    (h : ∀ v1 w1, OwnN w1 v1 (xs ++ ys) → ((v1.ownBlock = v.ownBlock ∧ Chg (fun k => v.ownBlock = some k) W w1) ∨ ((∀ k, v1.ownBlock = some k → W.heap.size ≤ k) ∧ Below W.heap.size W w1)) → K (a.put o.dst v1) w1) :
    Oper.wp P o a W K Q := by
  obtain ⟨v1, w1, hr, h2, h3⟩ := run_appG (P := P) t o.type e ht hinfo HO HR hl
  unfold Oper.wp execOp
  simp only [ho, resolve, invoke, builtin, Sem.run_bind, Sem.run_pure, Result.andThen_ok, List.map_toArray, List.map_cons, List.map_nil, hs, hx, hr]
  exact h v1 w1 h2 h3
theorem app_G {W : World} (hgd : o.guard = none) (s x : Operand) (t e : TypeId)
    (ho : o.op = .call { callee := .builtin .append, args := #[s, x], argTypes := #[t, t] })
    (ht : P.underlying t = some (.slice e)) (hinfo : (P.info? e).map (fun i => (i.zero, i.size, i.bytes)) = some (some (.int .u8 0), 1, 1))
    (v y : Value) (xs ys : List Int) (hs : a.eval s = v) (hx : a.eval x = y)
    (HO : OwnN W v xs) (HR : Rd W y ys) (hl : xs.length + ys.length ≤ 140737488355328)
    (h : ∀ v1 w1, OwnN w1 v1 (xs ++ ys) → ((v1.ownBlock = v.ownBlock ∧ Chg (fun k => v.ownBlock = some k) W w1) ∨ ((∀ k, v1.ownBlock = some k → W.heap.size ≤ k) ∧ Below W.heap.size W w1)) → wpList P ops Q rest (a.put o.dst v1) w1) :
    wpList P ops Q (o :: rest) a W := by
  unfold wpList
  rw [if_pos (by simp [Region.wanted, hgd])]
  exact .inl (wp_app_G s x t e ho ht hinfo v y xs ys hs hx HO HR hl h)
theorem wp_app_full {W : World} (s x : Operand) (t e : TypeId)
    (ho : o.op = .call { callee := .builtin .append, args := #[s, x], argTypes := #[t, t] })
    (ht : P.underlying t = some (.slice e)) (hinfo : (P.info? e).map (fun i => (i.zero, i.size, i.bytes)) = some (some (.int .u8 0), 1, 1))
    (A : Option Addr) (n : Nat) (y : Value) (xs ys : List Int) (hs : a.eval s = .slice A n n) (hx : a.eval x = y)
    (HX : Rd W (.slice A n n) xs) (HR : Rd W y ys) (hy : ys ≠ []) (hl : xs.length + ys.length ≤ 140737488355328)
    (h : ∀ v1 w1, OwnN w1 v1 (xs ++ ys) → (∀ k, v1.ownBlock = some k → W.heap.size ≤ k) → Below W.heap.size W w1 → K (a.put o.dst v1) w1) :
    Oper.wp P o a W K Q := by
  obtain ⟨v1, w1, hr, h2, h3, h4⟩ := run_app_full (P := P) t o.type e ht hinfo HX HR hy hl
  unfold Oper.wp execOp
  simp only [ho, resolve, invoke, builtin, Sem.run_bind, Sem.run_pure, Result.andThen_ok, List.map_toArray, List.map_cons, List.map_nil, hs, hx, hr]
  exact h v1 w1 h2 h3 h4
theorem Rd.sl_full {t e : TypeId} (ht : P.underlying t = some (.slice e)) (hinfo : (P.info? e).map (fun i => (i.zero, i.size, i.bytes)) = some (some (.int .u8 0), 1, 1)) {w : World} {v : Value} {xs : List Int} (h : Rd w v xs) (k : Nat) (hkn : k ≤ xs.length) :
    ∃ A, (∀ W, (Instr.slice t v none (some (.int .i64 k)) (some (.int .i64 k))).run P W = .ok (.slice A k k) W) ∧ Rd w (.slice A k k) (xs.take k) := by
  obtain ⟨A, cap, rfl, h1, h2, h3, h4⟩ := h.form
  have hel : P.elem t = e := by simp [Program.elem, ht]
  have hc := h.cut 0 k k (Nat.zero_le _) hkn (Nat.le_refl _) (by omega)
  rw [List.drop_zero] at hc
  obtain ⟨A2, hA2⟩ : ∃ A2, sliced A 0 k k 1 = .slice A2 k k := ⟨(if k = 0 then A else A.map (fun x => x.add (0 * 1))), by unfold sliced; simp only [Nat.sub_zero]⟩
  rw [hA2] at hc
  refine ⟨A2, fun W => ?_, hc⟩
  rw [run_slice_hm (P := P) W t A xs.length cap (by rw [hel]; exact ht) .i64 .i64 k k (by omega) (by omega) (by omega), hel, run_size hinfo, ← hA2]
  simp
end
theorem own_forms {w : World} {n : Nat} {vs : Nat → Value} {xs : Nat → List Int} (h : ∀ j, j < n → OwnN w (vs j) (xs j)) : VF w n vs (fun j => (xs j).length) := fun j hj => by
  rcases h j hj with ⟨h1, h2⟩ | ⟨_, g, cap, h1, _, h3, h4, h5, _⟩
  · exact .inl ⟨h1, by simp only [h2]; rfl⟩
  · exact .inr ⟨g, cap, h1, h4, h5, h3⟩
theorem infoSl : (Try.prog.info? 34).map (fun i => (i.zero, i.size, i.bytes)) = some (some (.slice none 0 0), 1, 24) := by kernel_rfl
theorem own_slice {w : World} {v : Value} {xs : List Int} (h : OwnN w v xs) : ∃ A c, v = .slice A xs.length c := by
  rcases h with ⟨h1, h2⟩ | ⟨_, g, cap, h1, _⟩
  · exact ⟨none, 0, by rw [h1, h2]; rfl⟩
  · exact ⟨_, _, h1⟩
theorem meas_k1x (k n : Nat) (h : k < n) : n - ((k : Int) + 1).toNat < n - k := by omega
theorem own_at (i k l : Nat) (h : k < l + 96) : (mkL i l ++ mkL (i + 7) 16 ++ mkL (i + 13) 80).getD k 0 = if k < l then mkB i k else if k < l + 16 then mkB (i + 7) (k - l) else mkB (i + 13) (k - l - 16) := by
  rw [List.getD_eq_getElem?_getD]
  by_cases h1 : k < l
  · rw [if_pos h1, List.append_assoc, List.getElem?_append_left (by rw [mkL_length]; exact h1), ← List.getD_eq_getElem?_getD, mkL_getD _ _ _ h1]
  rw [if_neg h1]
  by_cases h2 : k < l + 16
  · rw [if_pos h2, List.append_assoc, List.getElem?_append_right (by rw [mkL_length]; omega), mkL_length, List.getElem?_append_left (by rw [mkL_length]; omega), ← List.getD_eq_getElem?_getD, mkL_getD _ _ _ (by omega)]
  · rw [if_neg h2, List.getElem?_append_right (by rw [List.length_append, mkL_length, mkL_length]; omega), List.length_append, mkL_length, mkL_length, ← List.getD_eq_getElem?_getD, mkL_getD _ _ _ (by omega), Nat.sub_sub]
theorem mk_int (i c : Nat) (h : i ≤ 1000) (hc : c ≤ 1000) : wrap64 ((i : Int) + (c : Int)) = ((i + c : Nat) : Int) := by unfold wrap64; omega
set_option maxHeartbeats 8000000 in
theorem Own_any (n : Nat) (hn : n ≤ 1000) (gl cap0 : Nat) (hcap : n ≤ cap0) (hcm : cap0 ≤ maxLen) (vs : Nat → Value) (xs : Nat → List Int) (w : World) (hcell : ∀ j, j < n → w.cell? ⟨gl, j, none⟩ = some (vs j)) (hown : ∀ j, j < n → OwnN w (vs j) (xs j)) (hlen : ∀ j, j < n → (xs j).length ≤ 70368744177664)
    (hd : ∀ i j, i < n → j < n → i ≠ j → ∀ b, (vs i).ownBlock = some b → (vs j).ownBlock ≠ some b) (hgl : ∀ j, j < n → (vs j).ownBlock ≠ some gl) :
    Calls Try.prog 32 #[.slice (some ⟨gl, 0, none⟩) n cap0] w fun e w' => e = .returned (.bool true) ∧ Chg (fun b => ∃ j, j < n ∧ (vs j).ownBlock = some b) w w' := by
  obtain ⟨ls, hls⟩ : ∃ ls : Nat → Nat, ls = fun j => (xs j).length := ⟨_, rfl⟩
  have F := own_forms hown
  rw [← hls] at F
  have hF := hd_ F
  have hL := hd_ (show ∀ j, j < n → ls j ≤ 70368744177664 from fun j hj => by rw [hls]; exact hlen j hj)
  have hDs := hd_ hd
  have hP0 := hd_ (show OwP w w n vs ls xs from ⟨hown, fun j hj => by rw [hls], Chg.refl _ _⟩)
  have hgH := hd_ hgl
  have hcl := hd_ (fun W (hC : Chg (fun b => ∃ j, j < n ∧ (vs j).ownBlock = some b) w W) j (hj : j < n) => hC.cell (hcell j hj) (fun ⟨k, hk, e⟩ => hgl k hk e))
  have hnl := hd_ (show ∀ j, j < n → ∀ W, Sem.run Try.prog (Builtin.len_ #[34] 3 #[vs j]) W = .ok (.int .i64 (ls j : Int)) W from fun j hj W => by rw [hls]; exact (hown j hj).rd.2.len (P := Try.prog) 34 5 3 Try.underlying34 W)
  have hcm2 : cap0 ≤ 9223372036854775807 := hcm
  clear F hcell hown hlen hd hgl hcm
  clear hls
  go_enter Try.func32, Try.ntmps32
  go_upto_region 2 with fail
  go_loopw [17] (fun vi wr => ∃ (i : Nat) (ys : Nat → List Int), i ≤ n ∧ vi = .int .i64 (i : Int) ∧ OwP w wr n vs ls ys ∧ ∀ j, j < i → ys j = mkL j (ls j)) (fun vi _ => n - (intOf vi).toNat)
  case atStart => exact ⟨0, xs, Nat.zero_le _, rfl, hP0.out, fun j hj => absurd hj (Nat.not_lt_zero j)⟩
  case round =>
    clear hP0
    obtain ⟨i, ys, hi, rfl, hP, hm⟩ := hrel
    by_cases hlt : i < n
    · have hiI : (i : Int) < (n : Int) := by omega
      have hci := hcl.out _ hP.chg i hlt
      have hPH := hd_ hP
      have hmH := hd_ hm
      have hltH := hd_ hlt
      have hln := hnl.out i hlt
      clear hP hm
      go_upto_region 5 with fail
      go_loopw [25] (fun vk wr => ∃ (k : Nat) (ys : Nat → List Int) (L : List Int), k ≤ ls i ∧ vk = .int .i64 (k : Int) ∧ OwP w wr n vs ls ys ∧ (∀ j, j < i → ys j = mkL j (ls j)) ∧ L.length = ls i ∧ ys i = mkL i k ++ L.drop k) (fun vk _ => ls i - (intOf vk).toNat)
      case atStart => exact ⟨0, ys, ys i, Nat.zero_le _, rfl, hPH.out, hmH.out, hPH.out.len i hlt, by rw [List.drop_zero]; rfl⟩
      case round =>
        clear hPH hmH hci
        obtain ⟨k, ys, L, hk, rfl, hP, hm, hLl, hyi⟩ := hrel
        by_cases hkl : k < ls i
        · have hkI : (k : Int) < (ls i : Int) := by omega
          have hLi := hL.out i hlt
          obtain ⟨g, capi, hvi, hc1, hc2, hgw⟩ : ∃ g cap, vs i = .slice (some ⟨g, 0, none⟩) (ls i) cap ∧ ls i ≤ cap ∧ cap ≤ maxLen ∧ g < w.heap.size := by
            rcases hF.out i hlt with ⟨_, h2⟩ | h2
            · omega
            · exact h2
          have hyl := hP.len i hlt
          have hOi := hP.own i hlt
          obtain ⟨b0, b1⟩ := mkB_byte i k
          have hput := hP.put hDs.out i hlt g (ls i) capi hvi k (by omega) (mkB i k) b0 b1
          have hset : (ys i).set k (mkB i k) = mkL i (k + 1) ++ L.drop (k + 1) := by rw [hyi]; exact mkL_set i k L (by omega)
          have hfree : ∀ W, Chg (fun _ => False) wr W → W.frozen? ⟨g, k, none⟩ = false ∧ (W.cell? ⟨g, k, none⟩).isSome = true := fun W hW => by
            rcases hOi with ⟨h2, _⟩ | h2
            · rw [hvi] at h2; cases h2
            · have h3 := h2.chg hW (fun _ _ h => h)
              obtain ⟨_, g2, cap2, hv2, _, _, k3, k4, _, k6, k7⟩ := h3
              rw [hvi] at hv2
              injection hv2 with e1 e2 e3
              injection e1 with e1
              injection e1 with e1
              subst e1
              exact ⟨k7 k (by omega), k6 k (by omega)⟩
          have hcd : ∀ j, j < n → wr.drew.cell? ⟨gl, j, none⟩ = some (vs j) := hcl.out _ (hP.chg.trans (Chg.below (S := fun _ => False) (Below.refl wr.heap.size wr).drew) (fun _ _ h => h.elim))
          have hPd := hd_ ((hP.keep (Below.refl wr.heap.size wr).drew).put hDs.out i hlt g (ls i) capi hvi k (by omega) (mkB i k) b0 b1)
          have hst := hd_ (And.intro hset (And.intro hm (And.intro hLl hkl)))
          have hfd := hfree _ (Chg.below (Below.refl wr.heap.size wr).drew)
          have hcap2 : capi ≤ 9223372036854775807 := hc2
          have hviH := hd_ hvi
          clear hput hset hOi hfree hyi hm hLl hyl
          go_upto_region 7 with fail
          have hC0 : (fun W : World => W.cell? ⟨gl, i, none⟩ = some (.slice (some ⟨g, 0, none⟩) (ls i) capi)) wr.drew := by rw [← hvi]; exact hcd i hlt
          refine region_J [9] (fun W : World => W.cell? ⟨gl, i, none⟩ = some (.slice (some ⟨g, 0, none⟩) (ls i) capi)) (by kernel_rfl) ?_
          generalize wr.drew = W1 at *
          refine take_J 0 _ _ (v := ?_) rfl (by kernel_rfl) (by kernel_rfl) (by kernel_rfl) (by kernel_rfl) (fun _ _ _ h => h) rfl hC0 ?_ ?_
          rotate_left
          · intro W hC; go_simp; try with_reducible rfl
          simp only [Act.put, List.setIfInBounds_toArray, List.set_cons_zero, List.set_cons_succ]
          refine take_J 1 _ _ (v := ?_) rfl (by kernel_rfl) (by kernel_rfl) (by kernel_rfl) (by kernel_rfl) (fun _ _ _ h => h) rfl hC0 ?_ ?_
          rotate_left
          · intro W hC; go_simp; try with_reducible rfl
          simp only [Act.put, List.setIfInBounds_toArray, List.set_cons_zero, List.set_cons_succ]
          refine take_J 2 _ _ (v := ?_) rfl (by kernel_rfl) (by kernel_rfl) (by kernel_rfl) (by kernel_rfl) (fun _ _ _ h => h) rfl hC0 ?_ ?_
          rotate_left
          · intro W hC; go_simp; try with_reducible rfl
          simp only [Act.put, List.setIfInBounds_toArray, List.set_cons_zero, List.set_cons_succ]
          refine take_J 3 _ _ (v := ?_) rfl (by kernel_rfl) (by kernel_rfl) (by kernel_rfl) (by kernel_rfl) (fun _ _ _ h => h) rfl hC0 ?_ ?_
          rotate_left
          · intro W hC; go_simp; try with_reducible rfl
          simp only [Act.put, List.setIfInBounds_toArray, List.set_cons_zero, List.set_cons_succ]
          refine take_J 4 _ _ (v := ?_) rfl (by kernel_rfl) (by kernel_rfl) (by kernel_rfl) (by kernel_rfl) (fun _ _ _ h => h) rfl hC0 ?_ ?_
          rotate_left
          · intro W hC; go_simp; try with_reducible rfl
          simp only [Act.put, List.setIfInBounds_toArray, List.set_cons_zero, List.set_cons_succ]
          refine take_J 5 _ _ (v := ?_) rfl (by kernel_rfl) (by kernel_rfl) (by kernel_rfl) (by kernel_rfl) (fun _ _ _ h => h) rfl hC0 ?_ ?_
          rotate_left
          · intro W hC; go_simp; try with_reducible rfl
          simp only [Act.put, List.setIfInBounds_toArray, List.set_cons_zero, List.set_cons_succ]
          refine take_J 6 _ _ (v := ?_) rfl (by kernel_rfl) (by kernel_rfl) (by kernel_rfl) (by kernel_rfl) (fun _ _ _ h => h) rfl hC0 ?_ ?_
          rotate_left
          · intro W hC; go_simp; try with_reducible rfl
          simp only [Act.put, List.setIfInBounds_toArray, List.set_cons_zero, List.set_cons_succ]
          refine ready_J 7 _ _ rfl (by kernel_rfl) rfl (fun K hK => ?_)
          go_simp
          with_reducible refine (mark_any i k (by omega) (by omega) W1).mono ?_
          rintro e w7 ⟨rfl, rfl⟩
          refine hK _ _ (fun _ => hC0) ?_
          clear hK K
          refine ready_J 8 _ _ rfl (by kernel_rfl) rfl (fun K hK => ?_)
          go_simp
          refine hK _ _ (fun _ => hC0) ?_
          clear hK K
          obtain ⟨f1, f2⟩ := hfd
          obtain ⟨x0, f3⟩ := Option.isSome_iff_exists.1 f2
          clear hvi
          refine ready_J 9 _ _ rfl (by kernel_rfl) rfl (fun K hK => ?_)
          go_simp
          refine hK _ _ (fun h => absurd h (by decide)) ?_
          clear hK K
          refine wpAnyJ_done (by kernel_rfl) ?_ _
          generalize W1.setCell ⟨g, k, none⟩ (.int .u8 (mkB i k)) = W2 at *
          rw [← hviH.out]
          obtain ⟨s1, s2, s3, s4⟩ := hst.out
          go_wp2
          go_roundw
          case rel => exact ⟨k + 1, _, L, s4, by go_num, hPd.out, fun j hj => by rw [updL_ne _ _ _ _ (by omega)]; exact s2 j hj, s3, by rw [updL_self]; exact s1⟩
          case measure => (simp [intOf]; try omega)
        · obtain rfl : k = ls i := by omega
          have hyE : ys i = mkL i (ls i) := by rw [hyi, List.drop_of_length_le (by omega), List.append_nil]
          have hPe := hd_ hP
          have hme := hd_ (show ∀ j, j < i + 1 → ys j = mkL j (ls j) from fun j hj => by
            by_cases e : j = i
            · rw [e]; exact hyE
            · exact hm j (by omega))
          clear hP hm hyi hyE
          go_wp2
          go_roundw
          case rel => exact ⟨i + 1, ys, hltH.out, by go_num, hPe.out, hme.out⟩
          case measure => (simp [intOf]; try omega)
    · have hin : i = n := by omega
      have hO := hd_ (hP.done hDs.out (fun j hj => hm j (by omega)))
      have hyA := hd_ (show ∀ j, j < n → ys j = mkL j (ls j) from fun j hj => hm j (by omega))
      have hbz := hP.chg.size
      subst hin
      clear hP hm hi hlt
      have hzI := infoSl
      go_upto_region 12 with (at_make; refine make_crow rfl _ _ 33 34 rfl Try.underlying33 infoSl i rfl rfl hn ?_; intro w1 hG1 hB1)
      have hG := hd_ hG1
      have hO1 := hd_ (hO.out.keep hB1)
      obtain ⟨gg, hgg⟩ : ∃ gg, gg = wr.heap.size := ⟨_, rfl⟩
      have hgw := hd_ (show w.heap.size ≤ gg by omega)
      have hne0 := hd_ (show ∀ j, j < i → ∀ b, (vs j).ownBlock = some b → b ≠ gg from fun j hj b hb e => by have := hF.out.lt j hj b hb; omega)
      rw [← hgg] at hG ⊢
      clear hO hG1 hB1 hgg hbz
      go_loopw [44] (fun vi wr => ∃ (q : Nat) (ws : Nat → Value) (ys : Nat → List Int) (gs : Nat → Value), q ≤ i ∧ vi = .int .i64 (q : Int) ∧ OwS w wr i vs ls ws ys ∧ CRow wr gg i gs ∧ (∀ j, j < q → gs j = ws j ∧ ys j = mkL j (ls j) ++ mkL (j + 7) 16) ∧ (∀ j, q ≤ j → j < i → ws j = vs j ∧ ys j = mkL j (ls j)) ∧ (∀ j, j < i → ∀ b, (ws j).ownBlock = some b → b ≠ gg)) (fun vi _ => i - (intOf vi).toNat)
      case atStart => exact ⟨0, vs, ys, _, Nat.zero_le _, rfl, hO1.out, hG.out, fun j hj => absurd hj (Nat.not_lt_zero j), fun j _ hj => ⟨rfl, hyA.out j hj⟩, hne0.out⟩
      case round =>
        clear hO1 hG hne0 hyA
        obtain ⟨q, ws, ys, gs, hq, rfl, hS, hG, ha, hb, hne⟩ := hrel
        by_cases hlt : q < i
        · have hqI : (q : Int) < (i : Int) := by omega
          have hcq := hcl.out _ hS.chg q hlt
          obtain ⟨hwq, hyq⟩ := hb q (Nat.le_refl _) hlt
          have hgq := hG.cell q hlt
          have hfq := hG.free q hlt
          have hGp := hd_ (hG.put q hlt (vs q))
          have hSp := hd_ (hS.other hF.out (chg_put wr gg q (vs q)) (fun b e => by rw [e]; exact hgw.out) (fun j hj b hb e => hne j hj b hb e))
          have hst := hd_ (And.intro hlt (And.intro ha (And.intro (fun j (h1 : q < j) (h2 : j < i) => hb j (Nat.le_of_lt h1) h2) (And.intro hne (And.intro hwq hyq)))))
          obtain ⟨Aq, nq, cq, hvq⟩ : ∃ A m c, vs q = .slice A m c := by obtain ⟨A, c, h⟩ := own_slice (hS.own q hlt); rw [hwq] at h; exact ⟨A, _, c, h⟩
          clear hS hG ha hb hne hwq hyq
          have hvH := hd_ hvq
          go_upto_region 16 with fail
          rw [← hvH.out]
          clear hvq
          generalize wr.setCell ⟨gg, q, none⟩ (vs q) = W1 at *
          obtain ⟨t1, t2, t3, t4, t5, t6⟩ := hst.out
          have hstart := hd_ (show ∃ (k : Nat) (ws1 : Nat → Value) (ys1 : Nat → List Int) (gs1 : Nat → Value), k ≤ 16 ∧ Value.int .i64 0 = .int .i64 (k : Int) ∧ OwS w W1 i vs ls ws1 ys1 ∧ CRow W1 gg i gs1 ∧ (∀ j, j < q → gs1 j = ws1 j ∧ ys1 j = mkL j (ls j) ++ mkL (j + 7) 16) ∧ (∀ j, q < j → j < i → ws1 j = vs j ∧ ys1 j = mkL j (ls j)) ∧ (∀ j, j < i → ∀ b, (ws1 j).ownBlock = some b → b ≠ gg) ∧ gs1 q = ws1 q ∧ ys1 q = mkL q (ls q) ++ mkL (q + 7) k from
            ⟨0, ws, ys, upd gs q (vs q), by omega, rfl, hSp.out, hGp.out, fun j hj => by rw [upd_ne _ _ _ _ (by omega)]; exact t2 j hj, t3, t4, by rw [upd_self]; exact t5.symm, by rw [t6]; simp [mkL]⟩)
          clear hSp hGp hst t2 t3 t4 t5 t6 hgq hfq hcq hvH
          go_loopw [7] (fun vk wr => ∃ (k : Nat) (ws1 : Nat → Value) (ys1 : Nat → List Int) (gs1 : Nat → Value), k ≤ 16 ∧ vk = .int .i64 (k : Int) ∧ OwS w wr i vs ls ws1 ys1 ∧ CRow wr gg i gs1 ∧ (∀ j, j < q → gs1 j = ws1 j ∧ ys1 j = mkL j (ls j) ++ mkL (j + 7) 16) ∧ (∀ j, q < j → j < i → ws1 j = vs j ∧ ys1 j = mkL j (ls j)) ∧ (∀ j, j < i → ∀ b, (ws1 j).ownBlock = some b → b ≠ gg) ∧ gs1 q = ws1 q ∧ ys1 q = mkL q (ls q) ++ mkL (q + 7) k) (fun vk _ => 16 - (intOf vk).toNat)
          case atStart => exact hstart.out
          case round =>
            clear hstart
            obtain ⟨k, ws, ys, gs, hk, rfl, hS, hG, ha, hb, hne, hgw1, hyq⟩ := hrel
            by_cases hk16 : k < 16
            · have hkI : (k : Int) < 16 := by omega
              have hyl : (ys q).length = ls q + k := by rw [hyq, List.length_append, mkL_length, mkL_length]
              have hlq := hL.out q t1
              have hBd := (Below.refl wr.heap.size wr).drew
              have hS2 := hS.keep hBd
              have hG2 := hG.keep hBd
              have e7 : (((q + 7 : Nat)) : Int) = (q : Int) + 7 := by push_cast; rfl
              have hmk := hd_ (fun W => show Calls Try.prog 44 #[.int .i64 ((q : Int) + 7), .int .i64 (k : Int)] W (fun e w' => e = .returned (.int .u8 (mkB (q + 7) k)) ∧ W = w') by have := mark_any (q + 7) k (by omega) (by omega) W; rw [e7] at this; exact this)
              obtain ⟨b0, b1⟩ := mkB_byte (q + 7) k
              have hst := hd_ (And.intro ha (And.intro hb (And.intro hne (And.intro hgw1 (And.intro hyq (And.intro hyl (And.intro b0 (And.intro b1 hk16))))))))
              have hq7 : IntKind.i64.wrap ((q : Int) + 7) = (q : Int) + 7 := by rw [IntKind.wrap_i64]; omega
              clear hS hG ha hb hyq b0 b1 e7
              go_upto_region 18 with fail
              have hC0 : (fun W : World => W.cell? ⟨gg, q, none⟩ = some (ws q)) wr.drew := by rw [← hgw1]; exact hG2.cell q t1
              refine region_J [13] (fun W : World => W.cell? ⟨gg, q, none⟩ = some (ws q)) (by kernel_rfl) ?_
              have hS2 := hd_ hS2
              have hG2 := hd_ hG2
              clear hBd hgw1
              generalize wr.drew = W2 at *
              refine take_J 0 _ _ (v := ?_) rfl (by kernel_rfl) (by kernel_rfl) (by kernel_rfl) (by kernel_rfl) (fun _ _ _ h => h) rfl hC0 ?_ ?_
              rotate_left
              · intro W hC; go_simp; try with_reducible rfl
              simp only [Act.put, List.setIfInBounds_toArray, List.set_cons_zero, List.set_cons_succ]
              refine take_J 1 _ _ (v := ?_) rfl (by kernel_rfl) (by kernel_rfl) (by kernel_rfl) (by kernel_rfl) (fun _ _ _ h => h) rfl hC0 ?_ ?_
              rotate_left
              · intro W hC; go_simp; try with_reducible rfl
              simp only [Act.put, List.setIfInBounds_toArray, List.set_cons_zero, List.set_cons_succ]
              refine take_J 2 _ _ (v := ?_) rfl (by kernel_rfl) (by kernel_rfl) (by kernel_rfl) (by kernel_rfl) (fun _ _ _ h => h) rfl hC0 ?_ ?_
              rotate_left
              · intro W hC; go_simp; try with_reducible rfl
              simp only [Act.put, List.setIfInBounds_toArray, List.set_cons_zero, List.set_cons_succ]
              refine take_J 3 _ _ (v := ?_) rfl (by kernel_rfl) (by kernel_rfl) (by kernel_rfl) (by kernel_rfl) (fun _ _ _ h => h) rfl hC0 ?_ ?_
              rotate_left
              · intro W hC; go_simp; try with_reducible rfl
              simp only [Act.put, List.setIfInBounds_toArray, List.set_cons_zero, List.set_cons_succ]
              refine take_J 4 _ _ (v := ?_) rfl (by kernel_rfl) (by kernel_rfl) (by kernel_rfl) (by kernel_rfl) (fun _ _ _ h => h) rfl hC0 ?_ ?_
              rotate_left
              · intro W hC; go_simp; try with_reducible rfl
              simp only [Act.put, List.setIfInBounds_toArray, List.set_cons_zero, List.set_cons_succ]
              refine take_J 5 _ _ (v := ?_) rfl (by kernel_rfl) (by kernel_rfl) (by kernel_rfl) (by kernel_rfl) (fun _ _ _ h => h) rfl hC0 ?_ ?_
              rotate_left
              · intro W hC; go_simp; try with_reducible rfl
              simp only [Act.put, List.setIfInBounds_toArray, List.set_cons_zero, List.set_cons_succ]
              refine take_J 6 _ _ (v := ?_) rfl (by kernel_rfl) (by kernel_rfl) (by kernel_rfl) (by kernel_rfl) (fun _ _ _ h => h) rfl hC0 ?_ ?_
              rotate_left
              · intro W hC; go_simp; try with_reducible rfl
              simp only [Act.put, List.setIfInBounds_toArray, List.set_cons_zero, List.set_cons_succ]
              refine take_J 7 _ _ (v := ?_) rfl (by kernel_rfl) (by kernel_rfl) (by kernel_rfl) (by kernel_rfl) (fun _ _ _ h => h) rfl hC0 ?_ ?_
              rotate_left
              · intro W hC; go_simp; try with_reducible rfl
              simp only [Act.put, List.setIfInBounds_toArray, List.set_cons_zero, List.set_cons_succ]
              refine take_J 8 _ _ (v := ?_) rfl (by kernel_rfl) (by kernel_rfl) (by kernel_rfl) (by kernel_rfl) (fun _ _ _ h => h) rfl hC0 ?_ ?_
              rotate_left
              · intro W hC; go_simp; try with_reducible rfl
              simp only [Act.put, List.setIfInBounds_toArray, List.set_cons_zero, List.set_cons_succ]
              refine ready_J 9 _ _ rfl (by kernel_rfl) rfl (fun K hK => ?_)
              go_simp
              try rw [hq7]
              with_reducible refine (hmk.out W2).mono ?_
              rintro e w7 ⟨rfl, rfl⟩
              refine hK _ _ (fun _ => hC0) ?_
              clear hK K
              have hB3 := al1 (Below.refl W2.heap.size W2) (.cells #[.int .u8 (mkB (q + 7) k)] 5)
              have hRn : Rd (W2.alloc (.cells #[.int .u8 (mkB (q + 7) k)] 5)) (.slice (some ⟨W2.heap.size, 0, none⟩) 1 1) [mkB (q + 7) k] := rd_new (w := W2) (cs := #[.int .u8 (mkB (q + 7) k)]) (t := 5) (fr := (0, 0)) [mkB (q + 7) k] rfl rfl (one_bytes hst.out.2.2.2.2.2.2.1 hst.out.2.2.2.2.2.2.2.1) (show 1 ≤ maxLen by decide)
              refine ready_J 10 _ _ rfl (by kernel_rfl) rfl (fun K hK => ?_)
              go_simp
              refine hK _ _ (fun _ => cell_keep hB3 hC0) ?_
              clear hK K
              have hS3 := hS2.out.keep hB3
              have hG3 := hG2.out.keep hB3
              have hC3 := cell_keep hB3 hC0
              have hO3 := hS3.own q t1
              clear hC0
              generalize W2.alloc (.cells #[.int .u8 (mkB (q + 7) k)] 5) = W3 at *
              obtain ⟨z1, z2, z3, z4, z5, z6, z7, z8, z9⟩ := hst.out
              refine ready_J 11 _ _ rfl (by kernel_rfl) rfl (fun K hK => ?_)
              refine wp_app_G _ _ 34 5 rfl Try.underlying34 infoB (ws q) (.slice (some ⟨W2.heap.size, 0, none⟩) 1 1) (ys q) [mkB (q + 7) k] rfl rfl hO3 hRn (by rw [z6, List.length_singleton]; omega) (fun v1 w1 HO1 hat => ?_)
              have hneq : ∀ b, v1.ownBlock = some b → b ≠ gg := fun b e => by
                rcases hat with ⟨h1, _⟩ | ⟨h1, _⟩
                · exact hne q t1 b (h1 ▸ e)
                · have := h1 b e; have := hG3.lt; omega
              have hG4 : CRow w1 gg i gs := by
                rcases hat with ⟨_, h1⟩ | ⟨_, h1⟩
                · exact hG3.chg h1 (fun e => hne q t1 gg e rfl)
                · exact hG3.keep h1
              have hC4 : w1.cell? ⟨gg, q, none⟩ = some (ws q) := by
                rcases hat with ⟨_, h1⟩ | ⟨_, h1⟩
                · exact h1.cell hC3 (fun e => hne q t1 gg e rfl)
                · exact cell_keep h1 hC3
              have hS4 := hS3.app hF.out q t1 v1 _ HO1 hat
              refine hK _ _ (fun _ => hC4) ?_
              clear hK K hS3 hG3 hC3 hO3 hRn hB3 hat
              have hC0 := hC4
              obtain ⟨A1, n1, c1, hv1⟩ : ∃ A m c, v1 = .slice A m c := by obtain ⟨A, c, h⟩ := own_slice HO1; exact ⟨A, _, c, h⟩
              clear HO1
              have hv1H := hd_ hv1
              have hne4 : ∀ j, j < i → ∀ b, ((upd ws q v1) j).ownBlock = some b → b ≠ gg := fun j hj b e => by
                by_cases ej : j = q
                · rw [ej, upd_self] at e; exact hneq b e
                · rw [upd_ne _ _ _ _ ej] at e; exact hne j hj b e
              have hS5 := hd_ (hS4.other hF.out (chg_put w1 gg q v1) (fun b e => by rw [e]; exact hgw.out) (fun j hj b hb e => hne4 j hj b hb e))
              have hG5 := hd_ (hG4.put q t1 v1)
              have hfz := hG4.free q t1
              have hne5 := hd_ hne4
              clear hS4 hG4 hne4 hneq
              refine ready_J 12 _ _ rfl (by kernel_rfl) rfl (fun K hK => ?_)
              go_simp
              refine hK _ _ (fun _ => hC0) ?_
              clear hK K
              try rw [hv1H.out]
              refine ready_J 13 _ _ rfl (by kernel_rfl) rfl (fun K hK => ?_)
              go_simp
              refine hK _ _ (fun h => absurd h (by decide)) ?_
              clear hK K
              rw [← hv1H.out]
              clear hv1 hC4 hC0 hfz
              generalize w1.setCell ⟨gg, q, none⟩ v1 = W5 at *
              refine wpAnyJ_done (by kernel_rfl) ?_ _
              go_wp2
              go_roundw
              case rel => exact ⟨k + 1, _, _, _, z9, by go_num, hS5.out, hG5.out, fun j hj => by rw [upd_ne _ _ _ _ (by omega), upd_ne _ _ _ _ (by omega), updL_ne _ _ _ _ (by omega)]; exact z1 j hj, fun j h1 h2 => by rw [upd_ne _ _ _ _ (by omega), updL_ne _ _ _ _ (by omega)]; exact z2 j h1 h2, hne5.out, by rw [upd_self, upd_self], by rw [updL_self, z5, mkL_succ, List.append_assoc]⟩
              case measure => (simp [intOf]; try omega)
            · obtain rfl : k = 16 := by omega
              have hend := hd_ (show ∀ j, j < q + 1 → gs j = ws j ∧ ys j = mkL j (ls j) ++ mkL (j + 7) 16 from fun j hj => by
                by_cases e : j = q
                · rw [e]; exact ⟨hgw1, hyq⟩
                · exact ha j (by omega))
              have hst := hd_ (And.intro hS (And.intro hG (And.intro hb hne)))
              clear hS hG ha hb hne hgw1 hyq
              go_wp2
              go_roundw
              case rel => exact ⟨q + 1, ws, ys, gs, t1, by go_num, hst.out.1, hst.out.2.1, hend.out, fun j h1 h2 => hst.out.2.2.1 j (by omega) h2, hst.out.2.2.2⟩
              case measure => (simp [intOf]; try omega)
        · obtain rfl : q = i := by omega
          have hst := hd_ (And.intro hS (And.intro hG (And.intro ha hne)))
          clear hS hG ha hb hne
          go_upto_region 21 with fail
          go_loopw [74] (fun vi wr => ∃ (p : Nat) (ws : Nat → Value) (ys : Nat → List Int) (gs : Nat → Value), p ≤ q ∧ vi = .int .i64 (p : Int) ∧ OwS w wr q vs ls ws ys ∧ CRow wr gg q gs ∧ (∀ j, j < q → gs j = ws j) ∧ (∀ j, j < p → ys j = mkL j (ls j) ++ mkL (j + 7) 16 ++ mkL (j + 13) 80) ∧ (∀ j, p ≤ j → j < q → ys j = mkL j (ls j) ++ mkL (j + 7) 16) ∧ (∀ j, j < q → ∀ b, (ws j).ownBlock = some b → b ≠ gg)) (fun vi _ => q - (intOf vi).toNat)
          case atStart => exact ⟨0, ws, ys, gs, Nat.zero_le _, rfl, hst.out.1, hst.out.2.1, fun j hj => (hst.out.2.2.1 j hj).1, fun j hj => absurd hj (Nat.not_lt_zero j), fun j _ hj => (hst.out.2.2.1 j hj).2, hst.out.2.2.2⟩
          case round =>
            clear hst
            obtain ⟨p, ws, ys, gs, hp, rfl, hS, hG, hgs, ha, hb, hne⟩ := hrel
            by_cases hlt : p < q
            · have hpI : (p : Int) < (q : Int) := by omega
              have hSH := hd_ hS
              have hGH := hd_ hG
              have hst := hd_ (And.intro hlt (And.intro hgs (And.intro ha (And.intro hb hne))))
              have e13 : (((p + 13 : Nat)) : Int) = (p : Int) + 13 := by push_cast; rfl
              have hmk := hd_ (fun (k : Nat) (hk : k < 80) W => show Calls Try.prog 44 #[.int .i64 ((p : Int) + 13), .int .i64 (k : Int)] W (fun e w' => e = .returned (.int .u8 (mkB (p + 13) k)) ∧ W = w') by have := mark_any (p + 13) k (by omega) (by omega) W; rw [e13] at this; exact this)
              have hp13 : wrap64 ((p : Int) + 13) = (p : Int) + 13 := by unfold wrap64; omega
              clear hS hG hgs ha hb hne e13
              go_upto_region 25 with (at_make; refine make_bytes (w0 := wr) wr.heap.size rfl _ _ 34 5 rfl Try.underlying34 infoB _ _ _ _ 80 rfl rfl rfl rfl (by omega) (Below.refl _ _) (Nat.le_refl _) ?_; intro v1 w1 HO1 HB1 hg1 hat1; obtain ⟨gb, capb, rfl, hgb⟩ := HO1.block hat1; simp only [List.length_replicate] at HO1 ⊢)
              have hmo := hd_ (show Own w1 wr.heap.size 5 (.slice (some ⟨gb, 0, none⟩) 80 capb) (mkL (p + 13) 0 ++ List.replicate (80 - 0) 0) from by exact HO1)
              obtain ⟨zz, hzz⟩ : ∃ zz, zz = wr.heap.size := ⟨_, rfl⟩
              have hcb := HO1.rd.form
              rw [← hzz] at hmo
              have hgbz : gb = zz := by
                have h1 : some gb = some wr.heap.size := hat1
                injection h1 with h1
                omega
              subst hgbz
              have hcap80 : 80 ≤ capb ∧ capb ≤ 9223372036854775807 := by
                obtain ⟨_, _, hcv, h1, h2, _⟩ := HO1.rd.form
                rw [List.length_replicate] at hcv h1
                injection hcv with _ _ e3
                subst e3
                unfold maxLen at h2
                omega
              have hS1 := hd_ (hSH.out.keep HB1)
              have hG1 := hd_ (hGH.out.keep HB1)
              have hzS := hd_ (show w.heap.size ≤ gb ∧ gg < gb ∧ ∀ j, j < q → ∀ b, (ws j).ownBlock = some b → b < gb from ⟨by rw [hzz]; exact hSH.out.chg.size, by rw [hzz]; exact hGH.out.lt, fun j hj b e => by rw [hzz]; exact (hSH.out.own j hj).lt b e⟩)
              clear HO1 HB1 hg1 hat1 hgb hcb hzz hSH hGH
              go_upto_region 25 with fail
              go_loopw [80] (fun vk wr => ∃ k : Nat, k ≤ 80 ∧ vk = .int .i64 (k : Int) ∧ Own wr gb 5 (.slice (some ⟨gb, 0, none⟩) 80 capb) (mkL (p + 13) k ++ List.replicate (80 - k) 0) ∧ Chg (fun b => b = gb) w1 wr) (fun vk _ => 80 - (intOf vk).toNat)
              case atStart => exact ⟨0, by omega, rfl, hmo.out, Chg.refl _ _⟩
              case round =>
                clear hmo
                obtain ⟨k, hk, rfl, HO, hC⟩ := hrel
                by_cases hk80 : k < 80
                · have hkI : (k : Int) < 80 := by omega
                  have hLl : (mkL (p + 13) k ++ List.replicate (80 - k) 0).length = 80 := by rw [List.length_append, mkL_length, List.length_replicate]; omega
                  obtain ⟨_, _, hfm, _, _, _, hcf⟩ := HO.rd.form
                  obtain ⟨b7, o7, hA7, hc7⟩ := hcf k (by omega)
                  injection hfm with e1 e2 e3
                  rw [← e1] at hA7
                  injection hA7 with hA7
                  injection hA7 with e4 e5
                  subst e4; subst e5
                  rw [Nat.zero_add] at hc7
                  have hO2 := HO.2
                  rw [hLl] at hO2
                  have hf7 := hO2.frozenAt k
                  clear hO2
                  obtain ⟨b0, b1⟩ := mkB_byte (p + 13) k
                  obtain ⟨p7, g7⟩ := HO.put k (mkB (p + 13) k) b0 b1
                  have hset : (mkL (p + 13) k ++ List.replicate (80 - k) 0).set k (mkB (p + 13) k) = mkL (p + 13) (k + 1) ++ List.replicate (80 - (k + 1)) 0 := by
                    rw [List.set_append_right _ _ (by rw [mkL_length]; exact Nat.le_refl _), mkL_length, Nat.sub_self, show 80 - k = (80 - (k + 1)) + 1 by omega, List.replicate_succ, List.set_cons_zero, mkL_succ, List.append_assoc]
                    rfl
                  rw [hset] at p7
                  have hst2 := hd_ (And.intro p7 (And.intro (hC.trans (Chg.of g7) (fun c _ (e : some c = some gb) => by injection e)) hk80))
                  clear p7 g7 HO hC e1 e2 e3 hLl hcf hset b0 b1
                  generalize hxx : (mkL (p + 13) k ++ List.replicate (80 - k) 0).getD k 0 = xx at *
                  clear hxx
                  go_wp2_with (go_at_call 44; (with_reducible refine (hmk.out k hst2.out.2.2 wr).mono ?_); rintro e w7 ⟨rfl, rfl⟩)
                  go_roundw
                  case rel => exact ⟨k + 1, hst2.out.2.2, by go_num, hst2.out.1, hst2.out.2.1⟩
                  case measure => (simp [intOf]; try omega)
                · obtain rfl : k = 80 := by omega
                  have HOm := hd_ (show Own wr gb 5 (.slice (some ⟨gb, 0, none⟩) 80 capb) (mkL (p + 13) 80) from by have := HO; rw [Nat.sub_self, List.replicate_zero, List.append_nil] at this; exact this)
                  have hS2 := hS1.out.other hF.out hC (fun b e => by rw [e]; exact hzS.out.1) (fun j hj b hb e => by have := hzS.out.2.2 j hj b hb; omega)
                  have hG2 := hG1.out.chg hC (fun e => by have := hzS.out.2.1; omega)
                  obtain ⟨t1, t2, t3, t4, t5⟩ := hst.out
                  have hlq := hL.out p t1
                  have hyp := t4 p (Nat.le_refl _) t1
                  have hyl : (ys p).length = ls p + 16 := by rw [hyp, List.length_append, mkL_length, mkL_length]
                  have hBd := (Below.refl wr.heap.size wr).drew
                  have hS3 := hS2.keep hBd
                  have hG3 := hG2.keep hBd
                  have hOw := (hS3.own p t1).rd
                  obtain ⟨Af, hsl1, hRf⟩ := hOw.sl_full (P := Try.prog) Try.underlying34 infoB (ls p) (by omega)
                  obtain ⟨uf, hsl2, hRu⟩ := hOw.sl_l (P := Try.prog) Try.underlying34 infoB (ls p) (by omega)
                  have hcv := hcl.out _ hS3.chg p t1
                  have hcg : wr.drew.cell? ⟨gg, p, none⟩ = some (ws p) := by rw [← t2 p t1]; exact hG3.cell p t1
                  have hlnp := hnl.out p t1
                  have hS3 := hd_ hS3
                  have hG3 := hd_ hG3
                  have hHm3 := hd_ (HOm.out.keep hBd)
                  have hRf := hd_ hRf
                  have hRu := hd_ hRu
                  have hylH := hd_ hyl
                  have hlqI : (ls p : Int) ≤ 70368744177664 := by omega
                  clear hS2 hG2 hS1 hG1 hOw HO hC HOm hyp hyl t2 t3 t4 t5 hBd
                  go_upto_region 29 with fail
                  have hC0 : (fun W : World => W.cell? ⟨gl, p, none⟩ = some (vs p) ∧ W.cell? ⟨gg, p, none⟩ = some (ws p)) wr.drew := ⟨hcv, hcg⟩
                  refine region_J [29] (fun W : World => W.cell? ⟨gl, p, none⟩ = some (vs p) ∧ W.cell? ⟨gg, p, none⟩ = some (ws p)) (by kernel_rfl) ?_
                  clear hcv hcg
                  generalize wr.drew = W2 at *
                  refine take_J 0 _ _ (v := ?_) rfl (by kernel_rfl) (by kernel_rfl) (by kernel_rfl) (by kernel_rfl) (fun _ _ _ h => h) rfl hC0 ?_ ?_
                  rotate_left
                  · intro W hC; obtain ⟨hC1, hC2⟩ := hC; go_simp; try with_reducible rfl
                  simp only [Act.put, List.setIfInBounds_toArray, List.set_cons_zero, List.set_cons_succ]
                  refine take_J 1 _ _ (v := ?_) rfl (by kernel_rfl) (by kernel_rfl) (by kernel_rfl) (by kernel_rfl) (fun _ _ _ h => h) rfl hC0 ?_ ?_
                  rotate_left
                  · intro W hC; obtain ⟨hC1, hC2⟩ := hC; go_simp; try with_reducible rfl
                  simp only [Act.put, List.setIfInBounds_toArray, List.set_cons_zero, List.set_cons_succ]
                  refine take_J 2 _ _ (v := ?_) rfl (by kernel_rfl) (by kernel_rfl) (by kernel_rfl) (by kernel_rfl) (fun _ _ _ h => h) rfl hC0 ?_ ?_
                  rotate_left
                  · intro W hC; obtain ⟨hC1, hC2⟩ := hC; go_simp; try with_reducible rfl
                  simp only [Act.put, List.setIfInBounds_toArray, List.set_cons_zero, List.set_cons_succ]
                  refine take_J 3 _ _ (v := ?_) rfl (by kernel_rfl) (by kernel_rfl) (by kernel_rfl) (by kernel_rfl) (fun _ _ _ h => h) rfl hC0 ?_ ?_
                  rotate_left
                  · intro W hC; obtain ⟨hC1, hC2⟩ := hC; go_simp; try with_reducible rfl
                  simp only [Act.put, List.setIfInBounds_toArray, List.set_cons_zero, List.set_cons_succ]
                  refine take_J 4 _ _ (v := ?_) rfl (by kernel_rfl) (by kernel_rfl) (by kernel_rfl) (by kernel_rfl) (fun _ _ _ h => h) rfl hC0 ?_ ?_
                  rotate_left
                  · intro W hC; obtain ⟨hC1, hC2⟩ := hC; go_simp; try with_reducible rfl
                  simp only [Act.put, List.setIfInBounds_toArray, List.set_cons_zero, List.set_cons_succ]
                  refine take_J 5 _ _ (v := ?_) rfl (by kernel_rfl) (by kernel_rfl) (by kernel_rfl) (by kernel_rfl) (fun _ _ _ h => h) rfl hC0 ?_ ?_
                  rotate_left
                  · intro W hC; obtain ⟨hC1, hC2⟩ := hC; go_simp; try with_reducible rfl
                  simp only [Act.put, List.setIfInBounds_toArray, List.set_cons_zero, List.set_cons_succ]
                  refine take_J 6 _ _ (v := ?_) rfl (by kernel_rfl) (by kernel_rfl) (by kernel_rfl) (by kernel_rfl) (fun _ _ _ h => h) rfl hC0 ?_ ?_
                  rotate_left
                  · intro W hC; obtain ⟨hC1, hC2⟩ := hC; go_simp; try with_reducible rfl
                  simp only [Act.put, List.setIfInBounds_toArray, List.set_cons_zero, List.set_cons_succ]
                  refine take_J 7 _ _ (v := ?_) rfl (by kernel_rfl) (by kernel_rfl) (by kernel_rfl) (by kernel_rfl) (fun _ _ _ h => h) rfl hC0 ?_ ?_
                  rotate_left
                  · intro W hC; obtain ⟨hC1, hC2⟩ := hC; go_simp; try with_reducible rfl
                  simp only [Act.put, List.setIfInBounds_toArray, List.set_cons_zero, List.set_cons_succ]
                  refine take_J 8 _ _ (v := ?_) rfl (by kernel_rfl) (by kernel_rfl) (by kernel_rfl) (by kernel_rfl) (fun _ _ _ h => h) rfl hC0 ?_ ?_
                  rotate_left
                  · intro W hC; obtain ⟨hC1, hC2⟩ := hC; go_simp; try with_reducible rfl
                  simp only [Act.put, List.setIfInBounds_toArray, List.set_cons_zero, List.set_cons_succ]
                  refine take_J 9 _ _ (v := ?_) rfl (by kernel_rfl) (by kernel_rfl) (by kernel_rfl) (by kernel_rfl) (fun _ _ _ h => h) rfl hC0 ?_ ?_
                  rotate_left
                  · intro W hC; obtain ⟨hC1, hC2⟩ := hC; go_simp; try with_reducible rfl
                  simp only [Act.put, List.setIfInBounds_toArray, List.set_cons_zero, List.set_cons_succ]
                  refine take_J 10 _ _ (v := ?_) rfl (by kernel_rfl) (by kernel_rfl) (by kernel_rfl) (by kernel_rfl) (fun _ _ _ h => h) rfl hC0 ?_ ?_
                  rotate_left
                  · intro W hC; obtain ⟨hC1, hC2⟩ := hC; go_simp; try with_reducible rfl
                  simp only [Act.put, List.setIfInBounds_toArray, List.set_cons_zero, List.set_cons_succ]
                  refine take_J 11 _ _ (v := ?_) rfl (by kernel_rfl) (by kernel_rfl) (by kernel_rfl) (by kernel_rfl) (fun _ _ _ h => h) rfl hC0 ?_ ?_
                  rotate_left
                  · intro W hC; obtain ⟨hC1, hC2⟩ := hC; go_simp; try with_reducible rfl
                  simp only [Act.put, List.setIfInBounds_toArray, List.set_cons_zero, List.set_cons_succ]
                  refine take_J 12 _ _ (v := ?_) rfl (by kernel_rfl) (by kernel_rfl) (by kernel_rfl) (by kernel_rfl) (fun _ _ _ h => h) rfl hC0 ?_ ?_
                  rotate_left
                  · intro W hC; obtain ⟨hC1, hC2⟩ := hC; go_simp; try with_reducible rfl
                  simp only [Act.put, List.setIfInBounds_toArray, List.set_cons_zero, List.set_cons_succ]
                  refine take_J 13 _ _ (v := ?_) rfl (by kernel_rfl) (by kernel_rfl) (by kernel_rfl) (by kernel_rfl) (fun _ _ _ h => h) rfl hC0 ?_ ?_
                  rotate_left
                  · intro W hC; obtain ⟨hC1, hC2⟩ := hC; go_simp; try with_reducible rfl
                  simp only [Act.put, List.setIfInBounds_toArray, List.set_cons_zero, List.set_cons_succ]
                  refine take_J 14 _ _ (v := ?_) rfl (by kernel_rfl) (by kernel_rfl) (by kernel_rfl) (by kernel_rfl) (fun _ _ _ h => h) rfl hC0 ?_ ?_
                  rotate_left
                  · intro W hC; obtain ⟨hC1, hC2⟩ := hC; go_simp; try with_reducible rfl
                  simp only [Act.put, List.setIfInBounds_toArray, List.set_cons_zero, List.set_cons_succ]
                  refine take_J 15 _ _ (v := ?_) rfl (by kernel_rfl) (by kernel_rfl) (by kernel_rfl) (by kernel_rfl) (fun _ _ _ h => h) rfl hC0 ?_ ?_
                  rotate_left
                  · intro W hC; obtain ⟨hC1, hC2⟩ := hC; go_simp; try with_reducible rfl
                  simp only [Act.put, List.setIfInBounds_toArray, List.set_cons_zero, List.set_cons_succ]
                  refine take_J 16 _ _ (v := ?_) rfl (by kernel_rfl) (by kernel_rfl) (by kernel_rfl) (by kernel_rfl) (fun _ _ _ h => h) rfl hC0 ?_ ?_
                  rotate_left
                  · intro W hC; obtain ⟨hC1, hC2⟩ := hC; go_simp; try with_reducible rfl
                  simp only [Act.put, List.setIfInBounds_toArray, List.set_cons_zero, List.set_cons_succ]
                  refine take_J 17 _ _ (v := ?_) rfl (by kernel_rfl) (by kernel_rfl) (by kernel_rfl) (by kernel_rfl) (fun _ _ _ h => h) rfl hC0 ?_ ?_
                  rotate_left
                  · intro W hC; obtain ⟨hC1, hC2⟩ := hC; go_simp; try with_reducible rfl
                  simp only [Act.put, List.setIfInBounds_toArray, List.set_cons_zero, List.set_cons_succ]
                  refine take_J 18 _ _ (v := ?_) rfl (by kernel_rfl) (by kernel_rfl) (by kernel_rfl) (by kernel_rfl) (fun _ _ _ h => h) rfl hC0 ?_ ?_
                  rotate_left
                  · intro W hC; obtain ⟨hC1, hC2⟩ := hC; go_simp; try with_reducible rfl
                  simp only [Act.put, List.setIfInBounds_toArray, List.set_cons_zero, List.set_cons_succ]
                  refine take_J 19 _ _ (v := ?_) rfl (by kernel_rfl) (by kernel_rfl) (by kernel_rfl) (by kernel_rfl) (fun _ _ _ h => h) rfl hC0 ?_ ?_
                  rotate_left
                  · intro W hC; obtain ⟨hC1, hC2⟩ := hC; go_simp; try with_reducible rfl
                  simp only [Act.put, List.setIfInBounds_toArray, List.set_cons_zero, List.set_cons_succ]
                  refine take_J 20 _ _ (v := ?_) rfl (by kernel_rfl) (by kernel_rfl) (by kernel_rfl) (by kernel_rfl) (fun _ _ _ h => h) rfl hC0 ?_ ?_
                  rotate_left
                  · intro W hC; obtain ⟨hC1, hC2⟩ := hC; go_simp; try with_reducible rfl
                  simp only [Act.put, List.setIfInBounds_toArray, List.set_cons_zero, List.set_cons_succ]
                  refine take_J 21 _ _ (v := ?_) rfl (by kernel_rfl) (by kernel_rfl) (by kernel_rfl) (by kernel_rfl) (fun _ _ _ h => h) rfl hC0 ?_ ?_
                  rotate_left
                  · intro W hC; obtain ⟨hC1, hC2⟩ := hC; go_simp; try with_reducible rfl
                  simp only [Act.put, List.setIfInBounds_toArray, List.set_cons_zero, List.set_cons_succ]
                  refine take_J 22 _ _ (v := ?_) rfl (by kernel_rfl) (by kernel_rfl) (by kernel_rfl) (by kernel_rfl) (fun _ _ _ h => h) rfl hC0 ?_ ?_
                  rotate_left
                  · intro W hC; obtain ⟨hC1, hC2⟩ := hC; go_simp; try with_reducible rfl
                  simp only [Act.put, List.setIfInBounds_toArray, List.set_cons_zero, List.set_cons_succ]
                  refine take_J 23 _ _ (v := ?_) rfl (by kernel_rfl) (by kernel_rfl) (by kernel_rfl) (by kernel_rfl) (fun _ _ _ h => h) rfl hC0 ?_ ?_
                  rotate_left
                  · intro W hC; obtain ⟨hC1, hC2⟩ := hC; go_simp; try with_reducible rfl
                  simp only [Act.put, List.setIfInBounds_toArray, List.set_cons_zero, List.set_cons_succ]
                  refine take_J 24 _ _ (v := ?_) rfl (by kernel_rfl) (by kernel_rfl) (by kernel_rfl) (by kernel_rfl) (fun _ _ _ h => h) rfl hC0 ?_ ?_
                  rotate_left
                  · intro W hC; obtain ⟨hC1, hC2⟩ := hC; go_simp; try with_reducible rfl
                  simp only [Act.put, List.setIfInBounds_toArray, List.set_cons_zero, List.set_cons_succ]
                  refine take_J 25 _ _ (v := ?_) rfl (by kernel_rfl) (by kernel_rfl) (by kernel_rfl) (by kernel_rfl) (fun _ _ _ h => h) rfl hC0 ?_ ?_
                  rotate_left
                  · intro W hC; obtain ⟨hC1, hC2⟩ := hC; go_simp; try with_reducible rfl
                  simp only [Act.put, List.setIfInBounds_toArray, List.set_cons_zero, List.set_cons_succ]
                  refine take_J 26 _ _ (v := ?_) rfl (by kernel_rfl) (by kernel_rfl) (by kernel_rfl) (by kernel_rfl) (fun _ _ _ h => h) rfl hC0 ?_ ?_
                  rotate_left
                  · intro W hC; obtain ⟨hC1, hC2⟩ := hC; go_simp; try with_reducible rfl
                  simp only [Act.put, List.setIfInBounds_toArray, List.set_cons_zero, List.set_cons_succ]
                  obtain ⟨t1, t2, t3, t4, t5⟩ := hst.out
                  have hyl := hylH.out
                  have htd : (ys p).take (ls p) ++ (ys p).drop (ls p) = ys p := List.take_append_drop _ _
                  refine ready_J 27 _ _ rfl (by kernel_rfl) rfl (fun K hK => ?_)
                  refine wp_app_full _ _ 34 5 rfl Try.underlying34 infoB Af (ls p) uf ((ys p).take (ls p)) ((ys p).drop (ls p)) rfl rfl hRf.out hRu.out (fun e => by have := congrArg List.length e; rw [List.length_drop, hyl] at this; simp at this) (by rw [List.length_take, List.length_drop]; omega) (fun v1 w3 HO1 hfr hB3 => ?_)
                  rw [htd] at HO1
                  have hS4 := hS3.out.fresh hF.out p t1 v1 (ys p) HO1 hfr hB3
                  have hG4 := hG3.out.keep hB3
                  have hHm4 := hHm3.out.keep hB3
                  have hgg4 := hG3.out.lt
                  have hgb4 := (own_lt hHm3.out gb rfl).2
                  obtain ⟨hq1, hq2⟩ := hC0
                  have hC1 : (fun W : World => W.cell? ⟨gl, p, none⟩ = some (vs p) ∧ W.cell? ⟨gg, p, none⟩ = some (ws p)) w3 := ⟨cell_keep hB3 hq1, cell_keep hB3 hq2⟩
                  refine hK _ _ (fun _ => hC1) ?_
                  clear hK K hq1 hq2 hRf hRu hS3 hG3 hHm3 htd hsl1 hsl2
                  obtain ⟨A1, n1, c1, hv1⟩ : ∃ A m c, v1 = .slice A m c := by obtain ⟨A, c, h⟩ := own_slice HO1; exact ⟨A, _, c, h⟩
                  clear HO1
                  have hv1H := hd_ hv1
                  have hne4 : ∀ j, j < q → ∀ b, ((upd ws p v1) j).ownBlock = some b → b ≠ gg := fun j hj b e => by
                    by_cases ej : j = p
                    · rw [ej, upd_self] at e; have := hfr b e; omega
                    · rw [upd_ne _ _ _ _ ej] at e; exact t5 j hj b e
                  have hnb4 := hd_ (show v1.ownBlock ≠ some gb ∧ gb ≠ gg from ⟨fun e => by have := hfr gb e; omega, by have := hzS.out.2.1; omega⟩)
                  have hS5 := hd_ (hS4.other hF.out (chg_put w3 gg p v1) (fun b e => by rw [e]; exact hgw.out) (fun j hj b hb e => hne4 j hj b hb e))
                  have hG5 := hd_ (hG4.put p t1 v1)
                  have hHm5 := hd_ (hHm4.chg (chg_put w3 gg p v1) (fun b e e2 => hnb4.out.2 (by
                    have h1 : some gb = some b := e
                    injection h1 with h1
                    omega)))
                  have hfz := hG4.free p t1
                  have hne5 := hd_ hne4
                  clear hS4 hG4 hHm4 hne4 hfr hB3
                  have hC0 := hC1
                  clear hC1
                  refine ready_J 28 _ _ rfl (by kernel_rfl) rfl (fun K hK => ?_)
                  go_simp
                  refine hK _ _ (fun _ => hC0) ?_
                  clear hK K
                  obtain ⟨hq1, hq2⟩ := hC0
                  refine ready_J 29 _ _ rfl (by kernel_rfl) rfl (fun K hK => ?_)
                  go_simp
                  refine hK _ _ (fun h => absurd h (by decide)) ?_
                  clear hK K
                  rw [← hv1H.out]
                  clear hv1 hfz hq1 hq2
                  generalize w3.setCell ⟨gg, p, none⟩ v1 = W5 at *
                  refine wpAnyJ_done (by kernel_rfl) ?_ _
                  have hcg5 : W5.cell? ⟨gg, p, none⟩ = some v1 := by have := hG5.out.cell p t1; rw [upd_self] at this; exact this
                  have hO5 : OwnN W5 v1 (ys p) := by have := hS5.out.own p t1; rw [upd_self, updL_self] at this; exact this
                  have hR5 := hHm5.out.rd
                  have hO5 := hd_ hO5
                  have hR5 := hd_ hR5
                  have hln80 := hd_ (show (ys p).length + (mkL (p + 13) 80).length ≤ 140737488355328 by rw [hyl, mkL_length]; omega)
                  clear t2 t3 t4 t5
                  go_upto_region 31 with (at_builtin; refine app_G rfl _ _ 34 5 rfl Try.underlying34 infoB v1 (.slice (some ⟨gb, 0, none⟩) 80 capb) (ys p) (mkL (p + 13) 80) rfl rfl hO5.out hR5.out hln80.out ?_; intro v2 w6 HO2 hat2; obtain ⟨A2, n2, c2, hv2⟩ : ∃ A m c, v2 = .slice A m c := (by obtain ⟨A, c, h⟩ := own_slice HO2; exact ⟨A, _, c, h⟩); have hfz6 : w6.frozen? ⟨gg, p, none⟩ = false := (by
                      rcases hat2 with ⟨_, h1⟩ | ⟨_, h1⟩
                      · exact (hG5.out.chg h1 (fun e => by have := hne5.out p t1 gg (by rw [upd_self]; exact e); exact this rfl)).free p t1
                      · exact (hG5.out.keep h1).free p t1); have hcz6 : w6.cell? ⟨gg, p, none⟩ = some v1 := (by
                      rcases hat2 with ⟨_, h1⟩ | ⟨_, h1⟩
                      · exact h1.cell hcg5 (fun e => by have := hne5.out p t1 gg (by rw [upd_self]; exact e); exact this rfl)
                      · exact cell_keep h1 hcg5))
                  rw [← hv2]
                  obtain ⟨t1, t2, t3, t4, t5⟩ := hst.out
                  have hS6 := hS5.out.app hF.out p t1 v2 (mkL (p + 13) 80) (by rw [updL_self]; exact HO2) (by rw [upd_self]; exact hat2)
                  have hG6 : CRow w6 gg q (upd gs p v1) := by
                    rcases hat2 with ⟨_, h1⟩ | ⟨_, h1⟩
                    · exact hG5.out.chg h1 (fun e => by have := hne5.out p t1 gg (by rw [upd_self]; exact e); exact this rfl)
                    · exact hG5.out.keep h1
                  have hne6 : ∀ j, j < q → ∀ b, ((upd (upd ws p v1) p v2) j).ownBlock = some b → b ≠ gg := fun j hj b e => by
                    by_cases ej : j = p
                    · rw [ej, upd_self] at e
                      rcases hat2 with ⟨h1, _⟩ | ⟨h1, _⟩
                      · exact hne5.out p t1 b (by rw [upd_self]; exact h1 ▸ e)
                      · have := h1 b e; have := hG5.out.lt; omega
                    · rw [upd_ne _ _ _ _ ej] at e; exact hne5.out j hj b e
                  have hS7 := hd_ (hS6.other hF.out (chg_put w6 gg p v2) (fun b e => by rw [e]; exact hgw.out) (fun j hj b hb e => hne6 j hj b hb e))
                  have hG7 := hd_ (hG6.put p t1 v2)
                  have hne7 := hd_ hne6
                  have hgs7 := hd_ (show ∀ j, j < q → (upd (upd gs p v1) p v2) j = (upd (upd ws p v1) p v2) j from fun j hj => by
                    by_cases ej : j = p
                    · rw [ej, upd_self, upd_self]
                    · rw [upd_ne _ _ _ _ ej, upd_ne _ _ _ _ ej, upd_ne _ _ _ _ ej, upd_ne _ _ _ _ ej]; exact t2 j hj)
                  have hys7 := hd_ (show ∀ j, j < p + 1 → (updL (updL ys p (ys p)) p ((updL ys p (ys p)) p ++ mkL (p + 13) 80)) j = mkL j (ls j) ++ mkL (j + 7) 16 ++ mkL (j + 13) 80 from fun j hj => by
                    by_cases ej : j = p
                    · rw [ej, updL_self, updL_self, t4 p (Nat.le_refl _) t1]
                    · rw [updL_ne _ _ _ _ ej, updL_ne _ _ _ _ ej]; exact t3 j (by omega))
                  have hyb7 := hd_ (show ∀ j, p + 1 ≤ j → j < q → (updL (updL ys p (ys p)) p ((updL ys p (ys p)) p ++ mkL (p + 13) 80)) j = mkL j (ls j) ++ mkL (j + 7) 16 from fun j h1 h2 => by
                    rw [updL_ne _ _ _ _ (by omega), updL_ne _ _ _ _ (by omega)]; exact t4 j (by omega) h2)
                  clear hS6 hG6 hne6 hfz6 hcz6 hat2 HO2 hv2 t2 t3 t4 t5 hS5 hG5 hHm5 hne5 hO5 hR5 hcg5
                  generalize w6.setCell ⟨gg, p, none⟩ v2 = W7 at *
                  go_wp2
                  go_roundw
                  case rel => exact ⟨p + 1, _, _, _, t1, by go_num, hS7.out, hG7.out, hgs7.out, hys7.out, hyb7.out, hne7.out⟩
                  case measure => (simp [intOf]; try omega)
            · have hpq : q = p := by omega
              have hys := hd_ (show ∀ j, j < q → ys j = mkL j (ls j) ++ mkL (j + 7) 16 ++ mkL (j + 13) 80 from fun j hj => ha j (by omega))
              have hSf := hd_ hS
              have hGf := hd_ hG
              have hgsf := hd_ hgs
              have hCf := hd_ hS.chg
              obtain ⟨Wf, hWf⟩ : ∃ Wf, Wf = wr := ⟨_, rfl⟩
              rw [← hWf] at hSf hGf hCf ⊢
              clear hS hG hgs ha hb hne hWf hp hlt
              subst hpq
              go_upto_region 33 with fail
              go_loopw [132] (fun vi wr => ∃ i : Nat, i ≤ q ∧ vi = .int .i64 (i : Int) ∧ wr = Wf) (fun vi _ => q - (intOf vi).toNat)
              case atStart => exact ⟨0, Nat.zero_le _, rfl, rfl⟩
              case round =>
                obtain ⟨i, hi, rfl, rfl⟩ := hrel
                by_cases hlt : i < q
                · have hiI : (i : Int) < (q : Int) := by omega
                  have hci := hcl.out _ hCf.out i hlt
                  have hgi : wr.cell? ⟨gg, i, none⟩ = some (ws i) := by rw [← hgsf.out i hlt]; exact hGf.out.cell i hlt
                  have hyi := hys.out i hlt
                  obtain ⟨N, hN⟩ : ∃ N, N = ls i + 96 := ⟨_, rfl⟩
                  have hyl : (ys i).length = N := by rw [hyi, List.length_append, List.length_append, mkL_length, mkL_length, mkL_length]; omega
                  have hRw := hd_ (hSf.out.own i hlt).rd
                  have hRv := hd_ (hSf.out.rd i hlt)
                  have hlw := hRw.out.2.len (P := Try.prog) 34 5 3 Try.underlying34
                  rw [hyl] at hlw
                  have hln := hnl.out i hlt
                  have hlq := hL.out i hlt
                  have hltH := hd_ hlt
                  have hyH := hd_ hyi
                  have hylH := hd_ hyl
                  have hNH := hd_ hN
                  clear hyi hyl hN
                  go_upto_region 36 with fail
                  go_loopw [140] (fun vk wz => ∃ k : Nat, k ≤ N ∧ vk = .int .i64 (k : Int) ∧ wz = wr) (fun vk _ => N - (intOf vk).toNat)
                  case atStart => exact ⟨0, Nat.zero_le _, rfl, rfl⟩
                  case round =>
                    obtain ⟨k, hk, rfl, rfl⟩ := hrel
                    by_cases hkN : k < N
                    · have hkI : (k : Int) < (N : Int) := by omega
                      have hNv := hNH.out
                      obtain ⟨bw, ow, hixw, hcw⟩ := hRw.out.at Try.underlying34 infoB .i64 k (by rw [hylH.out]; exact hkN)
                      have hyk : (ys i).getD k 0 = if k < ls i then mkB i k else if k < ls i + 16 then mkB (i + 7) (k - ls i) else mkB (i + 13) (k - ls i - 16) := by
                        rw [hyH.out]
                        exact own_at i k (ls i) (by omega)
                      rw [hyk] at hcw
                      have hm0 := hd_ (fun W => mark_any i k (by omega) (by omega) W)
                      have hk1 : (k : Int) + 1 ≤ 9223372036854775807 := by omega
                      have hkH := hd_ hkN
                      have hI1 : (Value.int IntKind.i64 (wrap64 ((k : Int) + 1))) = .int .i64 ((k : Int) + 1) := congrArg _ (by unfold wrap64; omega)
                      clear hyk
                      by_cases hA : k < ls i
                      · rw [if_pos hA] at hcw
                        obtain ⟨bv, ov, hixv, hcv⟩ := hRv.out.at Try.underlying34 infoB .i64 k (by rw [mkL_length]; exact hA)
                        rw [mkL_getD _ _ _ hA] at hcv
                        have hAI : (k : Int) < (ls i : Int) := by omega
                        obtain ⟨z, hz⟩ : ∃ z : Int, z = (k : Int) - (ls i : Int) := ⟨_, rfl⟩
                        have hw1 : wrap64 ((k : Int) - (ls i : Int)) = z := by unfold wrap64; omega
                        have hw2 : IntKind.i64.wrap ((k : Int) - (ls i : Int)) = z := by rw [IntKind.wrap_i64]; omega
                        have hw3 : (k : Int) - (ls i : Int) = z := hz.symm
                        have hn16 : ¬ (16 ≤ z) := by omega
                        have hn0 : ¬ (0 ≤ z) := by omega
                        have hd16 : decide (16 ≤ z) = false := decide_eq_false hn16
                        have hd0 : decide (0 ≤ z) = false := decide_eq_false hn0
                        clear hz hNv
                        go_wp2_with (go_at_call 44; (with_reducible refine (hm0.out wr).mono ?_); rintro e w7 ⟨rfl, rfl⟩)
                        go_roundw
                        case rel => exact ⟨k + 1, hkH.out, by first | rfl | (rw [hI1]; rfl), by first | rfl | trivial⟩
                        case measure => first | (rw [hI1]; exact meas_k1x _ _ hkH.out) | exact meas_k1x _ _ hkH.out
                      rw [if_neg hA] at hcw
                      obtain ⟨d, hd⟩ : ∃ d, d = k - ls i := ⟨_, rfl⟩
                      have hAI : ¬ (k : Int) < (ls i : Int) := by omega
                      obtain ⟨z, hz⟩ : ∃ z : Int, z = (k : Int) - (ls i : Int) := ⟨_, rfl⟩
                      have hw1 : wrap64 ((k : Int) - (ls i : Int)) = z := by unfold wrap64; omega
                      have hw2 : IntKind.i64.wrap ((k : Int) - (ls i : Int)) = z := by rw [IntKind.wrap_i64]; omega
                      have hw3 : (k : Int) - (ls i : Int) = z := hz.symm
                      have hzd : z = (d : Int) := by omega
                      rw [← hd] at hcw
                      by_cases hB : k < ls i + 16
                      · rw [if_pos hB] at hcw
                        have hn16 : ¬ (16 ≤ z) := by omega
                        have hn0 : 0 ≤ z := by omega
                        have hd16 : decide (16 ≤ z) = false := decide_eq_false hn16
                        have hd0 : decide (0 ≤ z) = true := decide_eq_true hn0
                        have e7 : (((i + 7 : Nat)) : Int) = (i : Int) + 7 := by push_cast; rfl
                        have hm7 := hd_ (show Calls Try.prog 44 #[.int .i64 ((i : Int) + 7), .int .i64 z] wr (fun e w' => e = .returned (.int .u8 (mkB (i + 7) d)) ∧ wr = w') by have := mark_any (i + 7) d (by omega) (by omega) wr; rw [e7, ← hzd] at this; exact this)
                        have hi7 : wrap64 ((i : Int) + 7) = (i : Int) + 7 := by unfold wrap64; omega
                        clear e7 hz hzd hd hNv
                        go_wp2_with (first
                          | (go_at_call 44; (with_reducible refine (hm0.out wr).mono ?_); rintro e w7 ⟨rfl, rfl⟩)
                          | (go_at_call 44; (with_reducible refine hm7.out.mono ?_); rintro e w7 ⟨rfl, rfl⟩))
                        go_roundw
                        case rel => exact ⟨k + 1, hkH.out, by first | rfl | (rw [hI1]; rfl), by first | rfl | trivial⟩
                        case measure => first | (rw [hI1]; exact meas_k1x _ _ hkH.out) | exact meas_k1x _ _ hkH.out
                      · rw [if_neg hB] at hcw
                        have hn16 : 16 ≤ z := by omega
                        have hd16 : decide (16 ≤ z) = true := decide_eq_true hn16
                        obtain ⟨d2, hd2⟩ : ∃ d2, d2 = d - 16 := ⟨_, rfl⟩
                        obtain ⟨z2, hz2⟩ : ∃ z2 : Int, z2 = z - 16 := ⟨_, rfl⟩
                        have hzd2 : z2 = (d2 : Int) := by omega
                        have hw4 : wrap64 (z - 16) = z2 := by unfold wrap64; omega
                        have hw5 : IntKind.i64.wrap (z - 16) = z2 := by rw [IntKind.wrap_i64]; omega
                        have hw6 : z - 16 = z2 := hz2.symm
                        have e7 : (((i + 13 : Nat)) : Int) = (i : Int) + 13 := by push_cast; rfl
                        have hm7 := hd_ (show Calls Try.prog 44 #[.int .i64 ((i : Int) + 13), .int .i64 z2] wr (fun e w' => e = .returned (.int .u8 (mkB (i + 13) d2)) ∧ wr = w') by have := mark_any (i + 13) d2 (by omega) (by omega) wr; rw [e7, ← hzd2] at this; exact this)
                        have hi7 : wrap64 ((i : Int) + 13) = (i : Int) + 13 := by unfold wrap64; omega
                        rw [← hd2] at hcw
                        clear e7 hz hzd hd hNv hz2 hzd2 hd2
                        go_wp2_with (first
                          | (go_at_call 44; (with_reducible refine (hm0.out wr).mono ?_); rintro e w7 ⟨rfl, rfl⟩)
                          | (go_at_call 44; (with_reducible refine hm7.out.mono ?_); rintro e w7 ⟨rfl, rfl⟩))
                        go_roundw
                        case rel => exact ⟨k + 1, hkH.out, by first | rfl | (rw [hI1]; rfl), by first | rfl | trivial⟩
                        case measure => first | (rw [hI1]; exact meas_k1x _ _ hkH.out) | exact meas_k1x _ _ hkH.out
                    · obtain rfl : k = N := by omega
                      go_wp2
                      go_roundw
                      case rel => exact ⟨i + 1, hltH.out, by go_num, by first | rfl | trivial⟩
                      case measure => (simp [intOf]; try omega)
                · go_wp2
                  go_ret
                  exact ⟨rfl, hCf.out⟩
theorem Own.toN {W : World} {base : Nat} {e : TypeId} {v : Value} {xs : List Int} (h : Own W base e v xs) : OwnN W v xs := by
  by_cases hv : v = .slice none 0 0
  · subst hv
    obtain ⟨A, c, he, _⟩ := h.rd.form
    injection he with _ e2 _
    exact .inl ⟨rfl, List.eq_nil_of_length_eq_zero e2.symm⟩
  · exact .inr ((h.toF hv).low (Nat.zero_le _))
theorem Own3_any (a b c : Value) (xa xb xc : List Int) (gl : Nat) (w : World) (ha : OwnN w a xa) (hb : OwnN w b xb) (hc : OwnN w c xc) (c0 : w.cell? ⟨gl, 0, none⟩ = some a) (c1 : w.cell? ⟨gl, 1, none⟩ = some b) (c2 : w.cell? ⟨gl, 2, none⟩ = some c)
    (la : xa.length ≤ 70368744177664) (lb : xb.length ≤ 70368744177664) (lc : xc.length ≤ 70368744177664) (hab : ∀ k, a.ownBlock = some k → b.ownBlock ≠ some k) (hac : ∀ k, a.ownBlock = some k → c.ownBlock ≠ some k) (hbc : ∀ k, b.ownBlock = some k → c.ownBlock ≠ some k)
    (ga : a.ownBlock ≠ some gl) (gb : b.ownBlock ≠ some gl) (gc : c.ownBlock ≠ some gl) :
    Calls Try.prog 32 #[.slice (some ⟨gl, 0, none⟩) 3 3] w fun e w' => e = .returned (.bool true) ∧ Chg (fun k => a.ownBlock = some k ∨ b.ownBlock = some k ∨ c.ownBlock = some k) w w' := by
  refine (Own_any 3 (by decide) gl 3 (by decide) (by decide) (fun j => if j = 0 then a else if j = 1 then b else c) (fun j => if j = 0 then xa else if j = 1 then xb else xc) w ?_ ?_ ?_ ?_ ?_).mono ?_
  · intro j hj
    match j, hj with
    | 0, _ => exact c0
    | 1, _ => exact c1
    | 2, _ => exact c2
  · intro j hj
    match j, hj with
    | 0, _ => exact ha
    | 1, _ => exact hb
    | 2, _ => exact hc
  · intro j hj
    match j, hj with
    | 0, _ => exact la
    | 1, _ => exact lb
    | 2, _ => exact lc
  · intro i j hi hj hij k
    match i, hi, j, hj with
    | 0, _, 0, _ => exact absurd rfl hij
    | 0, _, 1, _ => exact hab k
    | 0, _, 2, _ => exact hac k
    | 1, _, 0, _ => exact fun h1 h2 => hab k h2 h1
    | 1, _, 1, _ => exact absurd rfl hij
    | 1, _, 2, _ => exact hbc k
    | 2, _, 0, _ => exact fun h1 h2 => hac k h2 h1
    | 2, _, 1, _ => exact fun h1 h2 => hbc k h2 h1
    | 2, _, 2, _ => exact absurd rfl hij
  · intro j hj
    match j, hj with
    | 0, _ => exact ga
    | 1, _ => exact gb
    | 2, _ => exact gc
  · rintro e w' ⟨h1, h2⟩
    refine ⟨h1, h2.mono fun k _ ⟨j, hj, e⟩ => ?_⟩
    match j, hj, e with
    | 0, _, e => exact .inl e
    | 1, _, e => exact .inr (.inl e)
    | 2, _, e => exact .inr (.inr e)
theorem Own2_any (a b : Value) (xa xb : List Int) (gl : Nat) (w : World) (ha : OwnN w a xa) (hb : OwnN w b xb) (c0 : w.cell? ⟨gl, 0, none⟩ = some a) (c1 : w.cell? ⟨gl, 1, none⟩ = some b)
    (la : xa.length ≤ 70368744177664) (lb : xb.length ≤ 70368744177664) (hab : ∀ k, a.ownBlock = some k → b.ownBlock ≠ some k) (ga : a.ownBlock ≠ some gl) (gb : b.ownBlock ≠ some gl) :
    Calls Try.prog 32 #[.slice (some ⟨gl, 0, none⟩) 2 2] w fun e w' => e = .returned (.bool true) ∧ Chg (fun k => a.ownBlock = some k ∨ b.ownBlock = some k) w w' := by
  refine (Own_any 2 (by decide) gl 2 (by decide) (by decide) (fun j => if j = 0 then a else b) (fun j => if j = 0 then xa else xb) w ?_ ?_ ?_ ?_ ?_).mono ?_
  · intro j hj
    match j, hj with
    | 0, _ => exact c0
    | 1, _ => exact c1
  · intro j hj
    match j, hj with
    | 0, _ => exact ha
    | 1, _ => exact hb
  · intro j hj
    match j, hj with
    | 0, _ => exact la
    | 1, _ => exact lb
  · intro i j hi hj hij k
    match i, hi, j, hj with
    | 0, _, 0, _ => exact absurd rfl hij
    | 0, _, 1, _ => exact hab k
    | 1, _, 0, _ => exact fun h1 h2 => hab k h2 h1
    | 1, _, 1, _ => exact absurd rfl hij
  · intro j hj
    match j, hj with
    | 0, _ => exact ga
    | 1, _ => exact gb
  · rintro e w' ⟨h1, h2⟩
    refine ⟨h1, h2.mono fun k _ ⟨j, hj, e⟩ => ?_⟩
    match j, hj, e with
    | 0, _, e => exact .inl e
    | 1, _, e => exact .inr e
end Go.Proofs.Ytcaljnlicohkaaa
