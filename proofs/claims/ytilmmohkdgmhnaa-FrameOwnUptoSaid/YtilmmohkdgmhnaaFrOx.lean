/- The law FrameOwn: what was answered is the one of the caller alone: merged out of RegOne, RegJ, FrameOa to FrameOe. -/
import Derived.RegionCalls
import Derived.Deep.RegionWith
import Derived.OrdersHeld
import Derived.StillTail
import Derived.Test.YtilmmohkdgmhnaaFrMx
import Derived.Test.YtilmmohkdgmhnaaFrHx
import Derived.Test.YtilmmohkdgmhnaaFrDx
import Derived.Lib.SlBytesConst
namespace Go.Proofs.Ytilmmohkdgmhnaa
open Go.RowKit
set_option maxRecDepth 100000
set_option linter.unusedVariables false
open Go
theorem one_ready {P : Program} {l : List Oper} {md : Region.Mode} {Q : Exit → Act → World → Prop} {fuel : Nat} {listed : Array Bool} {a : Act} {w : World} (i : Nat) (o : Oper) (tl : List Oper) (ho : l.drop i = o :: tl) (hr : Region.ready md l.toArray listed = [i]) (hg : o.guard = none)
    (h : ∀ K' : Act → World → Prop, (∀ a w, wpAny P md l.toArray Q fuel (listed.setIfInBounds i true) a w → K' a w) → Oper.wp P o a w K' Q) : wpAny P md l.toArray Q (fuel + 1) listed a w := by
  refine wpAny_ready hr (by simp) (AllReady.cons (o := o) ?_ (fun K hK => ?_) AllReady.nil)
  · have := congrArg (·[0]?) ho
    simpa [List.getElem?_drop] using this
  · rw [if_pos (by simp [Region.wanted, hg])]
    exact h K hK
theorem one_take {P : Program} {l : List Oper} {md : Region.Mode} {Q : Exit → Act → World → Prop} {fuel : Nat} {listed : Array Bool} {a : Act} {w : World} (i : Nat) (o : Oper) (tl : List Oper) {v : Value} (ho : l.drop i = o :: tl) (hs : Region.noSelect l.toArray = true) (hf : Region.free md l.toArray listed i = true) (hr : (Region.ready md l.toArray listed).contains i = true)
    (hQ : ∀ c a w, Q (.panic c) (a.put o.dst v) w → Q (.panic c) a w) (hg : o.guard = none) (hy : ∀ w, (execOp a.eval o).run P w = .ok (.value v) w)
    (h : wpAny P md l.toArray Q fuel (listed.setIfInBounds i true) (a.put o.dst v) w) : wpAny P md l.toArray Q (fuel + 1) listed a w := by
  refine wpAny_take (oi := o) ?_ hs hf hr hQ (Or.inl ⟨by simp [Region.wanted, hg], hy⟩) h
  have := congrArg (·[0]?) ho
  simpa [List.getElem?_drop] using this
open Go
section
variable {P : Program} {ops : Array Oper} {Q : Exit → Act → World → Prop} {md : Region.Mode} {late : List Nat} {C : World → Prop}
def wpAnyJ (P : Program) (md : Region.Mode) (ops : Array Oper) (Q : Exit → Act → World → Prop) (late : List Nat) (C : World → Prop) : Nat → Array Bool → Act → World → Prop
  | 0, listed, a, w => Region.ready md ops listed = [] ∧ Q .normal a w
  | fuel + 1, listed, a, w =>
    (Region.ready md ops listed = [] → Q .normal a w) ∧
    ∀ i ∈ Region.ready md ops listed, wpOp P ops Q i (fun a' w' => (late.contains i = false → C w') ∧ wpAnyJ P md ops Q late C fuel (listed.setIfInBounds i true) a' w') a w
theorem wpAny_of_J : ∀ (fuel : Nat) (listed : Array Bool) (a : Act) (w : World), wpAnyJ P md ops Q late C fuel listed a w → wpAny P md ops Q fuel listed a w
  | 0, _, _, _, h => h
  | fuel + 1, _, _, _, h => ⟨h.1, fun i hi => wpOp_mono (fun a' w' h' => wpAny_of_J fuel _ a' w' h'.2) (h.2 i hi)⟩
theorem wpAnyJ_first {i : Nat} {oi : Oper} {v : Value} (hi : ops[i]? = some oi) (hsel : ∀ (j : Nat) (o : Oper) cs b, ops[j]? = some o → o.op ≠ .select cs b)
    (hQ : ∀ c a w, Q (.panic c) (a.put oi.dst v) w → Q (.panic c) a w) (hl : ∀ j, late.contains j = true → Region.waitsFor md ops j i = true) :
    ∀ (fuel : Nat) (listed : Array Bool) (a : Act) (w : World),
      (∀ j oj, ops[j]? = some oj → j ≠ i → listed.getD j true = false → (∀ e ∈ oj.after, Region.binds md e = true → e.on ≠ i) → oi.apart ops oj = true) →
      i ∈ Region.ready md ops listed → YieldsIf P ops C oi v a → C w →
      wpAnyJ P md ops Q late C fuel (listed.setIfInBounds i true) (a.put oi.dst v) w → wpAnyJ P md ops Q late C (fuel + 1) listed a w := by
  intro fuel
  induction fuel with
  | zero =>
    intro listed a w _ hr hy hS H
    refine ⟨fun h => (by rw [h] at hr; cases hr), fun j hj => ?_⟩
    by_cases hji : j = i
    · subst hji; exact hy.wpOp hi hS ⟨fun _ => hS, H⟩
    · have := ready_mono hj hji
      rw [H.1] at this
      cases this
  | succ fuel ih =>
    intro listed a w hfree hr hy hS H
    refine ⟨fun h => (by rw [h] at hr; cases hr), fun j hj => ?_⟩
    by_cases hji : j = i
    · subst hji; exact hy.wpOp hi hS ⟨fun _ => hS, H⟩
    · have h1 := H.2 j (ready_mono hj hji)
      obtain ⟨hjun, oj, hoj, hall⟩ := mem_ready.1 hj
      have hnot : ∀ e ∈ oj.after, Region.binds md e = true → e.on ≠ i := fun e he hb heq => by
        have h1 := hall e he hb
        have h0 := (mem_ready.1 hr).1
        rw [heq] at h1
        rcases Nat.lt_or_ge i listed.size with h' | h'
        · simp [h'] at h0 h1; rw [h0] at h1; cases h1
        · simp [Array.getElem?_eq_none h'] at h1
      have hjl : late.contains j = false := by
        cases hc : late.contains j with
        | false => rfl
        | true =>
          obtain ⟨o', ho', e, he, hb, hon⟩ := Region.waitsFor_spec (hl j hc)
          have : o' = oj := Option.some.inj (ho'.symm.trans hoj)
          subst this
          exact absurd hon (hnot e he hb)
      have h2 := wpOp_putIf hoj (hfree j oj hoj hji hjun hnot) (fun cs b => hsel i oi cs b hi) (fun cs b => hsel j oj cs b hoj) hQ hy h1
      have hfree' : ∀ k ok, ops[k]? = some ok → k ≠ i → (listed.setIfInBounds j true).getD k true = false →
          (∀ e ∈ ok.after, Region.binds md e = true → e.on ≠ i) → oi.apart ops ok = true := fun k ok hk hki hun hno => by
        refine hfree k ok hk hki ?_ hno
        by_cases hjk : j = k
        · subst hjk; exact hjun
        · rw [getD_set_ne true hjk] at hun; exact hun
      refine wpOp_mono (fun a' w' h3 => ⟨h3.2.1, ih (listed.setIfInBounds j true) a' w' hfree' (ready_mono hr (Ne.symm hji)) h3.1 (h3.2.1 hjl) ?_⟩) h2
      rw [Array.setIfInBounds_comm _ _ hji]
      exact h3.2.2
theorem wpAnyJ_done {listed : Array Bool} {a : Act} {w : World} (hr : Region.ready md ops listed = []) (h : Q .normal a w) :
    ∀ fuel, wpAnyJ P md ops Q late C fuel listed a w
  | 0 => ⟨hr, h⟩
  | _ + 1 => ⟨fun _ => h, by rw [hr]; simp⟩
end
section
variable {P : Program} {l : List Oper} {Q : Exit → Act → World → Prop} {md : Region.Mode} {C : World → Prop} {fuel : Nat} {listed : Array Bool} {a : Act} {w : World}
theorem region_J (late : List Nat) (C : World → Prop) {id : Nat} (hm : P.follows .mixedOrders = true) (h : wpAnyJ P .any l.toArray Q late C l.toArray.size (Array.replicate l.toArray.size false) a w.drew) : (Code.region id l.toArray true).wp P Q a w :=
  wp_region_any hm (wpAny_of_J _ _ _ _ h)
theorem take_J {late : List Nat} (i : Nat) (o : Oper) (tl : List Oper) {v : Value} (ho : l.drop i = o :: tl) (hs : Region.noSelect l.toArray = true) (hf : Region.free md l.toArray listed i = true) (hr : (Region.ready md l.toArray listed).contains i = true) (hl : (late.all fun j => Region.waitsFor md l.toArray j i) = true)
    (hQ : ∀ c a w, Q (.panic c) (a.put o.dst v) w → Q (.panic c) a w) (hg : o.guard = none) (hC : C w) (hy : ∀ w, C w → (execOp a.eval o).run P w = .ok (.value v) w)
    (h : wpAnyJ P md l.toArray Q late C fuel (listed.setIfInBounds i true) (a.put o.dst v) w) : wpAnyJ P md l.toArray Q late C (fuel + 1) listed a w := by
  have hi : l.toArray[i]? = some o := by
    have := congrArg (·[0]?) ho
    simpa [List.getElem?_drop] using this
  exact wpAnyJ_first hi (Region.noSelect_spec hs) hQ (fun j hj => List.all_eq_true.1 hl j (by simpa using hj)) fuel listed a w (Region.free_spec hi hf) (by simpa using hr) (Or.inl ⟨by simp [Region.wanted, hg], hy⟩) hC h
theorem ready_J {late : List Nat} (i : Nat) (o : Oper) (tl : List Oper) (ho : l.drop i = o :: tl) (hr : Region.ready md l.toArray listed = [i]) (hg : o.guard = none)
    (h : ∀ K' : Act → World → Prop, (∀ a w, (late.contains i = false → C w) → wpAnyJ P md l.toArray Q late C fuel (listed.setIfInBounds i true) a w → K' a w) → Oper.wp P o a w K' Q) : wpAnyJ P md l.toArray Q late C (fuel + 1) listed a w := by
  have hi : l.toArray[i]? = some o := by
    have := congrArg (·[0]?) ho
    simpa [List.getElem?_drop] using this
  refine ⟨fun h0 => (by rw [hr] at h0; cases h0), fun j hj => ?_⟩
  rw [hr, List.mem_singleton] at hj
  subst hj
  refine wpOp_step hi (fun K' hK => ?_)
  rw [if_pos (by simp [Region.wanted, hg])]
  exact h K' (fun a w h1 h2 => hK a w ⟨h1, h2⟩)
theorem take_JW {late : List Nat} (i : Nat) (o : Oper) (tl : List Oper) {v : Value} (ho : l.drop i = o :: tl) (hs : Region.noSelect l.toArray = true) (hf : Region.free md l.toArray listed i = true) (hr : (Region.ready md l.toArray listed).contains i = true) (hl : (late.all fun j => Region.waitsFor md l.toArray j i) = true)
    (hQ : ∀ c a w, Q (.panic c) (a.put o.dst v) w → Q (.panic c) a w) (hg : Region.wanted o (yielded l.toArray a.tmps) = true) (hC : C w) (hy : ∀ w, C w → (execOp a.eval o).run P w = .ok (.value v) w)
    (h : wpAnyJ P md l.toArray Q late C fuel (listed.setIfInBounds i true) (a.put o.dst v) w) : wpAnyJ P md l.toArray Q late C (fuel + 1) listed a w := by
  have hi : l.toArray[i]? = some o := by
    have := congrArg (·[0]?) ho
    simpa [List.getElem?_drop] using this
  exact wpAnyJ_first hi (Region.noSelect_spec hs) hQ (fun j hj => List.all_eq_true.1 hl j (by simpa using hj)) fuel listed a w (Region.free_spec hi hf) (by simpa using hr) (Or.inl ⟨hg, hy⟩) hC h
theorem ready_JW {late : List Nat} (i : Nat) (o : Oper) (tl : List Oper) (ho : l.drop i = o :: tl) (hr : Region.ready md l.toArray listed = [i]) (hg : Region.wanted o (yielded l.toArray a.tmps) = true)
    (h : ∀ K' : Act → World → Prop, (∀ a w, (late.contains i = false → C w) → wpAnyJ P md l.toArray Q late C fuel (listed.setIfInBounds i true) a w → K' a w) → Oper.wp P o a w K' Q) : wpAnyJ P md l.toArray Q late C (fuel + 1) listed a w := by
  have hi : l.toArray[i]? = some o := by
    have := congrArg (·[0]?) ho
    simpa [List.getElem?_drop] using this
  refine ⟨fun h0 => (by rw [hr] at h0; cases h0), fun j hj => ?_⟩
  rw [hr, List.mem_singleton] at hj
  subst hj
  refine wpOp_step hi (fun K' hK => ?_)
  rw [if_pos hg]
  exact h K' (fun a w h1 h2 => hK a w ⟨h1, h2⟩)
end
def mkB (i k : Nat) : Int := ((i + 7 * k : Nat) : Int) % 256
def mkL (i n : Nat) : List Int := (List.range n).map (mkB i)
theorem mkB_byte (i k : Nat) : 0 ≤ mkB i k ∧ mkB i k < 256 := by unfold mkB; omega
theorem mkL_length (i n : Nat) : (mkL i n).length = n := by unfold mkL; simp
theorem mkL_bytes (i n : Nat) : IsBytes (mkL i n) := by
  intro b hb
  unfold mkL at hb
  obtain ⟨k, _, rfl⟩ := List.mem_map.1 hb
  exact mkB_byte i k
theorem mkL_succ (i n : Nat) : mkL i (n + 1) = mkL i n ++ [mkB i n] := by unfold mkL; rw [List.range_succ, List.map_append]; rfl
theorem mkL_getD (i n k : Nat) (h : k < n) : (mkL i n).getD k 0 = mkB i k := by
  unfold mkL
  rw [List.getD_eq_getElem?_getD, List.getElem?_map, List.getElem?_range h]
  rfl
theorem mkL_set (i k : Nat) (L : List Int) (h : k < L.length) : (mkL i k ++ L.drop k).set k (mkB i k) = mkL i (k + 1) ++ L.drop (k + 1) := by
  rw [List.set_append_right _ _ (by rw [mkL_length]; exact Nat.le_refl _), mkL_length, Nat.sub_self, List.drop_eq_getElem_cons h, List.set_cons_zero, mkL_succ, List.append_assoc]
  rfl
def gkB (i k : Nat) : Int := ((i + 101 + 3 * k : Nat) : Int) % 256
def gkL (i n : Nat) : List Int := (List.range n).map (gkB i)
theorem gkB_byte (i k : Nat) : 0 ≤ gkB i k ∧ gkB i k < 256 := by unfold gkB; omega
theorem gkL_length (i n : Nat) : (gkL i n).length = n := by unfold gkL; simp
theorem gkL_succ (i n : Nat) : gkL i (n + 1) = gkL i n ++ [gkB i n] := by unfold gkL; rw [List.range_succ, List.map_append]; rfl
theorem gkL_getD (i n k : Nat) (h : k < n) : (gkL i n).getD k 0 = gkB i k := by
  unfold gkL
  rw [List.getD_eq_getElem?_getD, List.getElem?_map, List.getElem?_range h]
  rfl
theorem mkB_u8 (i k : Nat) : IntKind.u8.wrap ((i : Int) + 7 * (k : Int)) = mkB i k := by rw [IntKind.wrap_u8]; unfold mkB; omega
theorem gkB_u8 (i k : Nat) : IntKind.u8.wrap ((i : Int) + 101 + 3 * (k : Int)) = gkB i k := by rw [IntKind.wrap_u8]; unfold gkB; omega
/-- the lists' forms: nil, or the beginning of a variable that was there -/
def VF (w0 : World) (n : Nat) (vs : Nat → Value) (ls : Nat → Nat) : Prop :=
  ∀ j, j < n → (vs j = .slice none 0 0 ∧ ls j = 0) ∨ ∃ g cap, vs j = .slice (some ⟨g, 0, none⟩) (ls j) cap ∧ ls j ≤ cap ∧ cap ≤ maxLen ∧ g < w0.heap.size
theorem VF.lt {w0 : World} {n : Nat} {vs : Nat → Value} {ls : Nat → Nat} (F : VF w0 n vs ls) (j : Nat) (hj : j < n) (b : Nat) (hb : (vs j).ownBlock = some b) : b < w0.heap.size := by
  rcases F j hj with ⟨h, _⟩ | ⟨g, cap, h, _, _, h4⟩
  · rw [h] at hb; cases hb
  · rw [h] at hb
    have : some g = some b := hb
    injection this with this
    omega
structure OwS (w0 W : World) (n : Nat) (vs : Nat → Value) (ls : Nat → Nat) (ws : Nat → Value) (ys : Nat → List Int) : Prop where
  own : ∀ j, j < n → OwnN W (ws j) (ys j)
  rd : ∀ j, j < n → Rd W (vs j) (mkL j (ls j))
  apart : ∀ i j, i < n → j < n → i ≠ j → ∀ b, (ws i).ownBlock = some b → (ws j).ownBlock ≠ some b ∧ (vs j).ownBlock ≠ some b
  old : ∀ j, j < n → ∀ b, (ws j).ownBlock = some b → (vs j).ownBlock = some b ∨ w0.heap.size ≤ b
  pre : ∀ j, j < n → ∀ b, (ws j).ownBlock = some b → (vs j).ownBlock = some b → ∃ zs, ys j = mkL j (ls j) ++ zs
  chg : Chg (fun b => ∃ j, j < n ∧ (vs j).ownBlock = some b) w0 W
section
variable {w0 W W1 : World} {n : Nat} {vs : Nat → Value} {ls : Nat → Nat} {ws : Nat → Value} {ys : Nat → List Int}
theorem OwS.other (F : VF w0 n vs ls) (h : OwS w0 W n vs ls ws ys) {T : Nat → Prop} (hc : Chg T W W1) (hT : ∀ b, T b → w0.heap.size ≤ b) (h1 : ∀ j, j < n → ∀ b, (ws j).ownBlock = some b → ¬ T b) : OwS w0 W1 n vs ls ws ys :=
  ⟨fun j hj => (h.own j hj).chg hc (h1 j hj), fun j hj => (h.rd j hj).chg hc (fun b hb ht => by have := F.lt j hj b hb; have := hT b ht; omega), h.apart, h.old, h.pre, h.chg.trans hc (fun b hb ht => by have := hT b ht; omega)⟩
theorem OwS.keep (h : OwS w0 W n vs ls ws ys) (hb : Below W.heap.size W W1) : OwS w0 W1 n vs ls ws ys :=
  ⟨fun j hj => (h.own j hj).keep hb, fun j hj => (h.rd j hj).keep hb, h.apart, h.old, h.pre, h.chg.trans (Chg.below (S := fun _ => False) hb) (fun _ _ h => h.elim)⟩
theorem OwS.fresh (F : VF w0 n vs ls) (h : OwS w0 W n vs ls ws ys) (i : Nat) (hi : i < n) (v1 : Value) (L : List Int) (hO : OwnN W1 v1 L) (hf : ∀ k, v1.ownBlock = some k → W.heap.size ≤ k) (hb : Below W.heap.size W W1) : OwS w0 W1 n vs ls (upd ws i v1) (updL ys i L) := by
  have hs := h.chg.size
  refine ⟨fun j hj => ?_, fun j hj => (h.rd j hj).keep hb, fun a b ha hb2 hab c hc => ?_, fun j hj c hc => ?_, fun j hj c hc hv => ?_, h.chg.trans (Chg.below (S := fun _ => False) hb) (fun _ _ h => h.elim)⟩
  · by_cases e : j = i
    · subst e; rw [upd_self, updL_self]; exact hO
    · rw [upd_ne _ _ _ _ e, updL_ne _ _ _ _ e]; exact (h.own j hj).keep hb
  · by_cases e : a = i
    · subst e
      rw [upd_self] at hc
      have hge := hf c hc
      rw [upd_ne _ _ _ _ (fun x => hab x.symm)]
      exact ⟨fun h2 => by have := (h.own b hb2).lt c h2; omega, fun h2 => by have := F.lt b hb2 c h2; omega⟩
    · rw [upd_ne _ _ _ _ e] at hc
      by_cases e2 : b = i
      · subst e2
        rw [upd_self]
        have hlt := (h.own a ha).lt c hc
        exact ⟨fun h2 => by have := hf c h2; omega, (h.apart a b ha hb2 hab c hc).2⟩
      · rw [upd_ne _ _ _ _ e2]; exact h.apart a b ha hb2 hab c hc
  · by_cases e : j = i
    · subst e
      rw [upd_self] at hc
      exact .inr (Nat.le_trans hs (hf c hc))
    · rw [upd_ne _ _ _ _ e] at hc; exact h.old j hj c hc
  · by_cases e : j = i
    · subst e
      rw [upd_self] at hc
      have := hf c hc
      have := F.lt j hj c hv
      omega
    · rw [upd_ne _ _ _ _ e] at hc; rw [updL_ne _ _ _ _ e]; exact h.pre j hj c hc hv
theorem rd_alias {W : World} {v v1 : Value} {b cap : Nat} {M Z : List Int} (hv : v = .slice (some ⟨b, 0, none⟩) M.length cap) (hO : OwnN W v1 (M ++ Z)) (hb : v1.ownBlock = some b) (h1 : M.length ≤ cap) (h2 : cap ≤ maxLen) : Rd W v M := by
  rcases hO with ⟨h, _⟩ | ⟨k0, g, c, hv1, _, _, _, _, k5, _, _⟩
  · rw [h] at hb; cases hb
  · rw [hv1] at hb
    have hgb : some g = some b := hb
    injection hgb with hgb
    subst hgb
    subst hv
    refine ⟨fun x hx => k0 x (List.mem_append_left _ hx), by rw [nums8_length, Nat.mul_one], _, _, rfl, h1, h2, (fun h => by cases h), fun j hj => ⟨g, 0, rfl, ?_⟩⟩
    rw [nums8_length] at hj
    rw [Nat.zero_add, k5 j (by rw [List.length_append]; omega), nums8_get M j hj, List.getD_eq_getElem?_getD, List.getElem?_append_left hj, List.getD_eq_getElem?_getD]
theorem OwS.app (F : VF w0 n vs ls) (h : OwS w0 W n vs ls ws ys) (i : Nat) (hi : i < n) (v1 : Value) (zs : List Int) (hO : OwnN W1 v1 (ys i ++ zs))
    (hc : (v1.ownBlock = (ws i).ownBlock ∧ Chg (fun k => (ws i).ownBlock = some k) W W1) ∨ ((∀ k, v1.ownBlock = some k → W.heap.size ≤ k) ∧ Below W.heap.size W W1)) : OwS w0 W1 n vs ls (upd ws i v1) (updL ys i (ys i ++ zs)) := by
  rcases hc with ⟨hs, hc⟩ | ⟨hf, hb⟩
  · refine ⟨fun j hj => ?_, fun j hj => ?_, fun a b ha hb2 hab c hc2 => ?_, fun j hj c hc2 => ?_, fun j hj c hc2 hv => ?_, h.chg.trans hc (fun b hb e => ?_)⟩
    · by_cases e : j = i
      · subst e; rw [upd_self, updL_self]; exact hO
      · rw [upd_ne _ _ _ _ e, updL_ne _ _ _ _ e]
        exact (h.own j hj).chg hc (fun k hk e2 => (h.apart i j hi hj (fun x => e x.symm) k e2).1 hk)
    · by_cases e : j = i
      · subst e
        by_cases hal : ∃ b, (ws j).ownBlock = some b ∧ (vs j).ownBlock = some b
        · obtain ⟨b, hb1, hb2⟩ := hal
          obtain ⟨Z, hZ⟩ := h.pre j hj b hb1 hb2
          rcases F j hj with ⟨hn, _⟩ | ⟨g, cap, hv, k1, k2, _⟩
          · rw [hn] at hb2; cases hb2
          · rw [hv] at hb2
            have hgb : some g = some b := hb2
            injection hgb with hgb
            subst hgb
            rw [hZ, List.append_assoc] at hO
            have hml := mkL_length j (ls j)
            exact rd_alias (by rw [hml]; exact hv) hO (hs.trans hb1) (by rw [hml]; exact k1) k2
        · exact (h.rd j hj).chg hc (fun k hk e2 => hal ⟨k, e2, hk⟩)
      · exact (h.rd j hj).chg hc (fun k hk e2 => (h.apart i j hi hj (fun x => e x.symm) k e2).2 hk)
    · have e0 : ∀ a, ((upd ws i v1) a).ownBlock = (ws a).ownBlock := fun a => by
        by_cases e : a = i
        · subst e; rw [upd_self]; exact hs
        · rw [upd_ne _ _ _ _ e]
      rw [e0] at hc2 ⊢
      exact h.apart a b ha hb2 hab c hc2
    · by_cases e : j = i
      · subst e; rw [upd_self, hs] at hc2; exact h.old j hj c hc2
      · rw [upd_ne _ _ _ _ e] at hc2; exact h.old j hj c hc2
    · by_cases e : j = i
      · subst e
        rw [upd_self, hs] at hc2
        rw [updL_self]
        obtain ⟨Z, hZ⟩ := h.pre j hj c hc2 hv
        exact ⟨Z ++ zs, by rw [hZ, List.append_assoc]⟩
      · rw [upd_ne _ _ _ _ e] at hc2; rw [updL_ne _ _ _ _ e]; exact h.pre j hj c hc2 hv
    · rcases h.old i hi b e with e2 | e2
      · exact ⟨i, hi, e2⟩
      · omega
  · exact h.fresh F i hi v1 _ hO hf hb
end
/-- the first part: the lists are written over, one byte at a time -/
structure OwP (w0 W : World) (n : Nat) (vs : Nat → Value) (ls : Nat → Nat) (ys : Nat → List Int) : Prop where
  own : ∀ j, j < n → OwnN W (vs j) (ys j)
  len : ∀ j, j < n → (ys j).length = ls j
  chg : Chg (fun b => ∃ j, j < n ∧ (vs j).ownBlock = some b) w0 W
section
variable {w0 W W1 : World} {n : Nat} {vs : Nat → Value} {ls : Nat → Nat} {ys : Nat → List Int}
theorem OwP.keep (h : OwP w0 W n vs ls ys) (hb : Below W.heap.size W W1) : OwP w0 W1 n vs ls ys :=
  ⟨fun j hj => (h.own j hj).keep hb, h.len, h.chg.trans (Chg.below (S := fun _ => False) hb) (fun _ _ h => h.elim)⟩
theorem OwP.put (h : OwP w0 W n vs ls ys) (hd : ∀ i j, i < n → j < n → i ≠ j → ∀ b, (vs i).ownBlock = some b → (vs j).ownBlock ≠ some b) (i : Nat) (hi : i < n) (g len cap : Nat) (hv : vs i = .slice (some ⟨g, 0, none⟩) len cap) (k : Nat) (hk : k < (ys i).length) (b : Int) (h0 : 0 ≤ b) (h1 : b < 256) :
    OwP w0 (W.setCell ⟨g, k, none⟩ (.int .u8 b)) n vs ls (updL ys i ((ys i).set k b)) := by
  have hc := chg_put W g k (.int .u8 b)
  have hown : (vs i).ownBlock = some g := by rw [hv]; rfl
  refine ⟨fun j hj => ?_, fun j hj => ?_, h.chg.trans hc (fun c _ e => ⟨i, hi, by rw [e]; exact hown⟩)⟩
  · by_cases e : j = i
    · subst e
      rw [updL_self]
      rcases h.own j hj with ⟨h2, _⟩ | h2
      · rw [h2] at hown; cases hown
      · rw [hv] at h2 ⊢
        exact .inr (h2.put k hk b h0 h1)
    · rw [updL_ne _ _ _ _ e]
      exact (h.own j hj).chg hc (fun c hc2 e2 => hd j i hj hi e c hc2 (by rw [e2]; exact hown))
  · by_cases e : j = i
    · subst e; rw [updL_self, List.length_set]; exact h.len j hj
    · rw [updL_ne _ _ _ _ e]; exact h.len j hj
/-- all are written over -/
theorem OwP.done (h : OwP w0 W n vs ls ys) (hd : ∀ i j, i < n → j < n → i ≠ j → ∀ b, (vs i).ownBlock = some b → (vs j).ownBlock ≠ some b) (hm : ∀ j, j < n → ys j = mkL j (ls j)) : OwS w0 W n vs ls vs ys :=
  ⟨h.own, fun j hj => by rw [← hm j hj]; exact (h.own j hj).rd, fun i j hi hj hij b hb => ⟨hd i j hi hj hij b hb, hd i j hi hj hij b hb⟩, fun j hj b hb => .inl hb, fun j hj b _ _ => ⟨[], by rw [hm j hj, List.append_nil]⟩, h.chg⟩
end
section
variable {P : Program} {ops : Array Oper} {rest : List Oper} {o : Oper} {a : Act} {K : Act → World → Prop} {Q : Exit → Act → World → Prop}
theorem make_crow {W : World} (hg : o.guard = none) (l c : Operand) (t e : TypeId) (hop : o.op = Op.makeSlice t l c)
    (ht : P.underlying t = some (.slice e)) (hinfo : (P.info? e).map (fun i => (i.zero, i.size, i.bytes)) = some (some (.slice none 0 0), 1, 24)) (n : Nat) (hl : a.eval l = .int .i64 (n : Int)) (hc : a.eval c = .int .i64 (n : Int)) (hn : n ≤ 1000)
    (h : ∀ w1, CRow w1 W.heap.size n (fun _ => .slice none 0 0) → Below W.heap.size W w1 → wpList P ops Q rest (a.put o.dst (.slice (some ⟨W.heap.size, 0, none⟩) n n)) w1) :
    wpList P ops Q (o :: rest) a W := by
  obtain ⟨i0, hi, hz0, hz1, hz2⟩ := info_parts hinfo
  refine wpList_make_full W hg l c t hop W.heap.size e i0 (.slice none 0 0) 1 ht hi hz0 hz1 .i64 .i64 n n n hl hc rfl rfl (by rw [hz2]; omega) (by unfold maxLen; omega) (Nat.le_refl _) ?_
  intro w1 h1 h2
  have hb : Below W.heap.size W w1 := (Below.refl W.heap.size W).grown h2 (Nat.le_refl _) (fun k hk => by cases hk)
  refine h w1 ⟨(h1.lt W.heap.size rfl).2, fun j hj => ?_, fun j hj => h1.frozenAt j⟩ hb
  have := h1.cells (g := W.heap.size) rfl j (.slice none 0 0) (by
    rw [Nat.mul_one]
    show (madeCells #[Value.slice none 0 0] n).toList[j]? = _
    rw [toList_madeCells_one, List.getElem?_replicate, if_pos hj])
  rw [← this]
  unfold Addr.add
  split <;> simp_all
theorem wp_app_G {W : World} (s x : Operand) (t e : TypeId)
    (ho : o.op = .call { callee := .builtin .append, args := #[s, x], argTypes := #[t, t] })
    (ht : P.underlying t = some (.slice e)) (hinfo : (P.info? e).map (fun i => (i.zero, i.size, i.bytes)) = some (some (.int .u8 0), 1, 1))
    (v y : Value) (xs ys : List Int) (hs : a.eval s = v) (hx : a.eval x = y)
    (HO : OwnN W v xs) (HR : Rd W y ys) (hl : xs.length + ys.length ≤ 140737488355328)
    (h : ∀ v1 w1, OwnN w1 v1 (xs ++ ys) → ((v1.ownBlock = v.ownBlock ∧ Chg (fun k => v.ownBlock = some k) W w1) ∨ ((∀ k, v1.ownBlock = some k → W.heap.size ≤ k) ∧ Below W.heap.size W w1)) → K (a.put o.dst v1) w1) :
    Oper.wp P o a W K Q := by
  obtain ⟨v1, w1, hr, h2, h3⟩ := run_appG (P := P) t o.type e ht hinfo HO HR hl
  unfold Oper.wp execOp
  simp only [ho, resolve, invoke, builtin, Sem.run_bind, Sem.run_pure, Result.andThen_ok, List.map_toArray, List.map_cons, List.map_nil, hs, hx, hr]
  exact h v1 w1 h2 h3
theorem app_G {W : World} (hgd : o.guard = none) (s x : Operand) (t e : TypeId)
    (ho : o.op = .call { callee := .builtin .append, args := #[s, x], argTypes := #[t, t] })
    (ht : P.underlying t = some (.slice e)) (hinfo : (P.info? e).map (fun i => (i.zero, i.size, i.bytes)) = some (some (.int .u8 0), 1, 1))
    (v y : Value) (xs ys : List Int) (hs : a.eval s = v) (hx : a.eval x = y)
    (HO : OwnN W v xs) (HR : Rd W y ys) (hl : xs.length + ys.length ≤ 140737488355328)
    (h : ∀ v1 w1, OwnN w1 v1 (xs ++ ys) → ((v1.ownBlock = v.ownBlock ∧ Chg (fun k => v.ownBlock = some k) W w1) ∨ ((∀ k, v1.ownBlock = some k → W.heap.size ≤ k) ∧ Below W.heap.size W w1)) → wpList P ops Q rest (a.put o.dst v1) w1) :
    wpList P ops Q (o :: rest) a W := by
  unfold wpList
  rw [if_pos (by simp [Region.wanted, hgd])]
  exact .inl (wp_app_G s x t e ho ht hinfo v y xs ys hs hx HO HR hl h)
theorem wp_app_full {W : World} (s x : Operand) (t e : TypeId)
    (ho : o.op = .call { callee := .builtin .append, args := #[s, x], argTypes := #[t, t] })
    (ht : P.underlying t = some (.slice e)) (hinfo : (P.info? e).map (fun i => (i.zero, i.size, i.bytes)) = some (some (.int .u8 0), 1, 1))
    (A : Option Addr) (n : Nat) (y : Value) (xs ys : List Int) (hs : a.eval s = .slice A n n) (hx : a.eval x = y)
    (HX : Rd W (.slice A n n) xs) (HR : Rd W y ys) (hy : ys ≠ []) (hl : xs.length + ys.length ≤ 140737488355328)
    (h : ∀ v1 w1, OwnN w1 v1 (xs ++ ys) → (∀ k, v1.ownBlock = some k → W.heap.size ≤ k) → Below W.heap.size W w1 → K (a.put o.dst v1) w1) :
    Oper.wp P o a W K Q := by
  obtain ⟨v1, w1, hr, h2, h3, h4⟩ := run_app_full (P := P) t o.type e ht hinfo HX HR hy hl
  unfold Oper.wp execOp
  simp only [ho, resolve, invoke, builtin, Sem.run_bind, Sem.run_pure, Result.andThen_ok, List.map_toArray, List.map_cons, List.map_nil, hs, hx, hr]
  exact h v1 w1 h2 h3 h4
theorem Rd.sl_full {t e : TypeId} (ht : P.underlying t = some (.slice e)) (hinfo : (P.info? e).map (fun i => (i.zero, i.size, i.bytes)) = some (some (.int .u8 0), 1, 1)) {w : World} {v : Value} {xs : List Int} (h : Rd w v xs) (k : Nat) (hkn : k ≤ xs.length) :
    ∃ A, (∀ W, (Instr.slice t v none (some (.int .i64 k)) (some (.int .i64 k))).run P W = .ok (.slice A k k) W) ∧ Rd w (.slice A k k) (xs.take k) := by
  obtain ⟨A, cap, rfl, h1, h2, h3, h4⟩ := h.form
  have hel : P.elem t = e := by simp [Program.elem, ht]
  have hc := h.cut 0 k k (Nat.zero_le _) hkn (Nat.le_refl _) (by omega)
  rw [List.drop_zero] at hc
  obtain ⟨A2, hA2⟩ : ∃ A2, sliced A 0 k k 1 = .slice A2 k k := ⟨(if k = 0 then A else A.map (fun x => x.add (0 * 1))), by unfold sliced; simp only [Nat.sub_zero]⟩
  rw [hA2] at hc
  refine ⟨A2, fun W => ?_, hc⟩
  rw [run_slice_hm (P := P) W t A xs.length cap (by rw [hel]; exact ht) .i64 .i64 k k (by omega) (by omega) (by omega), hel, run_size hinfo, ← hA2]
  simp
end
theorem own_forms {w : World} {n : Nat} {vs : Nat → Value} {xs : Nat → List Int} (h : ∀ j, j < n → OwnN w (vs j) (xs j)) : VF w n vs (fun j => (xs j).length) := fun j hj => by
  rcases h j hj with ⟨h1, h2⟩ | ⟨_, g, cap, h1, _, h3, h4, h5, _⟩
  · exact .inl ⟨h1, by simp only [h2]; rfl⟩
  · exact .inr ⟨g, cap, h1, h4, h5, h3⟩
theorem infoSl : (Try.prog.info? 24).map (fun i => (i.zero, i.size, i.bytes)) = some (some (.slice none 0 0), 1, 24) := by kernel_rfl
theorem infoO8 : (Try.prog.info? 5).map (fun i => (i.zero, i.size, i.bytes)) = some (some (.int .u8 0), 1, 1) := by kernel_rfl
theorem ownN_slice {w : World} {v : Value} {xs : List Int} (h : OwnN w v xs) : ∃ A c, v = .slice A xs.length c := by
  rcases h with ⟨h1, h2⟩ | ⟨_, g, cap, h1, _⟩
  · exact ⟨none, 0, by rw [h1, h2]; rfl⟩
  · exact ⟨_, _, h1⟩
theorem ownN_one {w : World} {v : Value} {xs : List Int} (h : OwnN w v xs) : v.oneCell' = true := by
  obtain ⟨A, c, rfl⟩ := ownN_slice h
  rfl
/-- the list of the grown: a row of its own that none of the others is -/
def Grw (w0 W : World) (vg : Value) (i n : Nat) (ws : Nat → Value) : Prop :=
  W.ownsRow w0.heap.size 24 1 vg i ((List.range i).map ws) ∧ ∀ j, j < n → ∀ b, (ws j).ownBlock = some b → vg.ownBlock ≠ some b
theorem grown_chg {S : Nat → Prop} {w w1 : World} {row : Option Nat} (h : Chg S w w1) (hS : ∀ b, S b → row = some b) : w.grownBy w1 row :=
  ⟨h.os, h.tape, h.output, h.size, fun k hk hne => h.block k hk (fun hs => hne (hS k hs).symm)⟩
theorem Grw.app {w0 W W1 : World} {vg v1 : Value} {i n q : Nat} {ws : Nat → Value} {x : List Int} (h : Grw w0 W vg i n ws) (hq : q < n) (hqi : i ≤ q) (ho : OwnN W (ws q) x)
    (hat : (v1.ownBlock = (ws q).ownBlock ∧ Chg (fun k => (ws q).ownBlock = some k) W W1) ∨ ((∀ k, v1.ownBlock = some k → W.heap.size ≤ k) ∧ Below W.heap.size W W1)) : Grw w0 W1 vg i n (upd ws q v1) := by
  have hm : (List.range i).map (upd ws q v1) = (List.range i).map ws := List.map_congr_left fun j hj => upd_ne _ _ _ _ (by have := List.mem_range.1 hj; omega)
  obtain ⟨h1, h2⟩ := h
  refine ⟨?_, fun j hj b hb => ?_⟩
  · rw [hm]
    rcases hat with ⟨_, hc⟩ | ⟨_, hb⟩
    · refine h1.kept (grown_chg (row := (ws q).ownBlock) hc (fun b hb => hb)) ?_
      cases hv : (ws q).ownBlock with
      | none => cases hg : vg.ownBlock with
        | none => exact .inl rfl
        | some b => exact .inr (by simp)
      | some b => exact .inr (h2 q hq b hv)
    · exact row_keep h1 hb
  · by_cases e : j = q
    · subst e
      rw [upd_self] at hb
      rcases hat with ⟨hs, _⟩ | ⟨hf, _⟩
      · exact h2 j hj b (hs ▸ hb)
      · intro hg
        have := (h1.lt b hg).2
        have := hf b hb
        omega
    · rw [upd_ne _ _ _ _ e] at hb
      exact h2 j hj b hb
theorem Grw.keep {w0 W W1 : World} {vg : Value} {i n : Nat} {ws : Nat → Value} (h : Grw w0 W vg i n ws) (hb : Below W.heap.size W W1) : Grw w0 W1 vg i n ws := ⟨row_keep h.1 hb, h.2⟩
theorem chg_grown {w w1 : World} {row : Option Nat} (h : w.grownBy w1 row) : Chg (fun b => row = some b) w w1 := (Chg.of h).mono (fun b _ e => e.symm)
set_option maxHeartbeats 8000000 in
theorem apart_any (n : Nat) (hn : n ≤ 16777216) (gl cap0 : Nat) (hcap : n ≤ cap0) (hcm : cap0 ≤ maxLen) (vs : Nat → Value) (xs : Nat → List Int) (w : World) (hcell : ∀ j, j < n → w.cell? ⟨gl, j, none⟩ = some (vs j)) (hown : ∀ j, j < n → OwnN w (vs j) (xs j)) (hlen : ∀ j, j < n → (xs j).length ≤ 70368744177664)
    (hd : ∀ i j, i < n → j < n → i ≠ j → ∀ b, (vs i).ownBlock = some b → (vs j).ownBlock ≠ some b) (hgl : ∀ j, j < n → (vs j).ownBlock ≠ some gl) :
    Calls Try.prog 43 #[.slice (some ⟨gl, 0, none⟩) n cap0] w fun e w' => e = .returned (.bool true) ∧ Chg (fun b => ∃ j, j < n ∧ (vs j).ownBlock = some b) w w' := by
  obtain ⟨ls, hls⟩ : ∃ ls : Nat → Nat, ls = fun j => (xs j).length := ⟨_, rfl⟩
  have F := own_forms hown
  rw [← hls] at F
  have hF := hd_ F
  have hL := hd_ (show ∀ j, j < n → ls j ≤ 70368744177664 from fun j hj => by rw [hls]; exact hlen j hj)
  have hDs := hd_ hd
  have hP0 := hd_ (show OwP w w n vs ls xs from ⟨hown, fun j hj => by rw [hls], Chg.refl _ _⟩)
  have hgH := hd_ hgl
  have hcl := hd_ (fun W (hC : Chg (fun b => ∃ j, j < n ∧ (vs j).ownBlock = some b) w W) j (hj : j < n) => hC.cell (hcell j hj) (fun ⟨k, hk, e⟩ => hgl k hk e))
  have hnl := hd_ (show ∀ j, j < n → ∀ W, Sem.run Try.prog (Builtin.len_ #[24] 3 #[vs j]) W = .ok (.int .i64 (ls j : Int)) W from fun j hj W => by rw [hls]; exact (hown j hj).rd.2.len (P := Try.prog) 24 5 3 Try.underlying24 W)
  have hcm2 : cap0 ≤ 9223372036854775807 := hcm
  clear F hcell hown hlen hd hgl hcm
  clear hls
  go_enter Try.func43, Try.ntmps43
  go_wp2
  go_loopw [4] (fun vi wr => ∃ (i : Nat) (ys : Nat → List Int), i ≤ n ∧ vi = .int .i64 (i : Int) ∧ OwP w wr n vs ls ys ∧ ∀ j, j < i → ys j = mkL j (ls j)) (fun vi _ => n - (intOf vi).toNat)
  case atStart => exact ⟨0, xs, Nat.zero_le _, rfl, hP0.out, fun j hj => absurd hj (Nat.not_lt_zero j)⟩
  case round =>
    clear hP0
    obtain ⟨i, ys, hi, rfl, hP, hm⟩ := hrel
    by_cases hlt : i < n
    · have hiI : (i : Int) < (n : Int) := by omega
      have hPH := hd_ hP
      have hmH := hd_ hm
      have hltH := hd_ hlt
      clear hP hm
      go_wp2
      go_loopw [5] (fun vk wr => ∃ (k : Nat) (ys : Nat → List Int) (L : List Int), k ≤ ls i ∧ vk = .int .i64 (k : Int) ∧ OwP w wr n vs ls ys ∧ (∀ j, j < i → ys j = mkL j (ls j)) ∧ L.length = ls i ∧ ys i = mkL i k ++ L.drop k) (fun vk _ => ls i - (intOf vk).toNat)
      case atStart => exact ⟨0, ys, ys i, Nat.zero_le _, rfl, hPH.out, hmH.out, hPH.out.len i hlt, by rw [List.drop_zero]; rfl⟩
      case round =>
        clear hPH hmH
        obtain ⟨k, ys, L, hk, rfl, hP, hm, hLl, hyi⟩ := hrel
        by_cases hkl : k < ls i
        · have hkI : (k : Int) < (ls i : Int) := by omega
          have hLi := hL.out i hlt
          obtain ⟨g, capi, hvi, hc1, hc2, hgw⟩ : ∃ g cap, vs i = .slice (some ⟨g, 0, none⟩) (ls i) cap ∧ ls i ≤ cap ∧ cap ≤ maxLen ∧ g < w.heap.size := by
            rcases hF.out i hlt with ⟨_, h2⟩ | h2
            · omega
            · exact h2
          have hyl := hP.len i hlt
          have hOi := hP.own i hlt
          obtain ⟨b0, b1⟩ := mkB_byte i k
          have hput := hd_ (hP.put hDs.out i hlt g (ls i) capi hvi k (by omega) (mkB i k) b0 b1)
          have hset := hd_ (show (ys i).set k (mkB i k) = mkL i (k + 1) ++ L.drop (k + 1) by rw [hyi]; exact mkL_set i k L (by omega))
          have hfree : wr.frozen? ⟨g, k, none⟩ = false ∧ (wr.cell? ⟨g, k, none⟩).isSome = true := by
            rcases hOi with ⟨h2, _⟩ | h2
            · rw [hvi] at h2; cases h2
            · obtain ⟨_, g2, cap2, hv2, _, _, k3, k4, _, k6, k7⟩ := h2
              rw [hvi] at hv2
              injection hv2 with e1 e2 e3
              injection e1 with e1
              injection e1 with e1
              subst e1
              exact ⟨k7 k (by omega), k6 k (by omega)⟩
          have hci := hcl.out _ hP.chg i hlt
          rw [hvi] at hci
          have hcap2 : capi ≤ 9223372036854775807 := hc2
          have hst := hd_ (And.intro hm (And.intro hLl hkl))
          obtain ⟨f1, f2⟩ := hfree
          obtain ⟨x0, f3⟩ := Option.isSome_iff_exists.1 f2
          have w1 : IntKind.i64.wrap (7 * (k : Int)) = 7 * (k : Int) := by rw [IntKind.wrap_i64]; omega
          have w2 : IntKind.i64.wrap ((i : Int) + 7 * (k : Int)) = (i : Int) + 7 * (k : Int) := by rw [IntKind.wrap_i64]; omega
          have w3 := mkB_u8 i k
          clear hP hm hLl hyi hOi hyl f2 hvi
          go_wp2
          generalize wr.setCell ⟨g, k, none⟩ (.int .u8 (mkB i k)) = W2 at *
          obtain ⟨s2, s3, s4⟩ := hst.out
          go_roundw
          case rel => exact ⟨k + 1, _, L, s4, by go_num, hput.out, fun j hj => by rw [updL_ne _ _ _ _ (by omega)]; exact s2 j hj, s3, by rw [updL_self]; exact hset.out⟩
          case measure => (simp [intOf]; try omega)
        · obtain rfl : k = ls i := by omega
          have hyE : ys i = mkL i (ls i) := by rw [hyi, List.drop_of_length_le (by omega), List.append_nil]
          have hPe := hd_ hP
          have hci := hcl.out _ hP.chg i hlt
          have hln := hnl.out i hlt
          have hme := hd_ (show ∀ j, j < i + 1 → ys j = mkL j (ls j) from fun j hj => by
            by_cases e : j = i
            · rw [e]; exact hyE
            · exact hm j (by omega))
          clear hP hm hyi hyE
          go_wp2
          go_roundw
          case rel => exact ⟨i + 1, ys, hltH.out, by go_num, hPe.out, hme.out⟩
          case measure => (simp [intOf]; try omega)
    · have hin : i = n := by omega
      have hO := hd_ (hP.done hDs.out (fun j hj => hm j (by omega)))
      have hyA := hd_ (show ∀ j, j < n → ys j = mkL j (ls j) from fun j hj => hm j (by omega))
      have hbz := hd_ hP.chg.size
      subst hin
      clear hP hm hi hlt
      have hgn := hd_ (show Grw w wr (.slice none 0 0) 0 i vs from ⟨World.ownsRow_nil _ _ _ _, fun j hj b hb h => by cases h⟩)
      go_wp2
      go_loopw [3, 6] (fun vg vi wr => ∃ (q : Nat) (ws : Nat → Value) (ys : Nat → List Int), q ≤ i ∧ vi = .int .i64 (q : Int) ∧ OwS w wr i vs ls ws ys ∧ Grw w wr vg q i ws ∧ (∀ j, j < q → ys j = mkL j (ls j) ++ gkL j 40) ∧ (∀ j, q ≤ j → j < i → ws j = vs j ∧ ys j = mkL j (ls j))) (fun _ vi _ => i - (intOf vi).toNat)
      case atStart => exact ⟨0, vs, ys, Nat.zero_le _, rfl, hO.out, hgn.out, fun j hj => absurd hj (Nat.not_lt_zero j), fun j _ hj => ⟨rfl, hyA.out j hj⟩⟩
      case round =>
        clear hO hgn hyA hbz
        obtain ⟨q, ws, ys, hq, rfl, hS, hG, ha, hb⟩ := hrel
        by_cases hlt : q < i
        · have hqI : (q : Int) < (i : Int) := by omega
          have hcq := hcl.out _ hS.chg q hlt
          obtain ⟨hwq, hyq⟩ := hb q (Nat.le_refl _) hlt
          have hst := hd_ (And.intro hlt (And.intro ha (fun j (h1 : q < j) (h2 : j < i) => hb j (Nat.le_of_lt h1) h2)))
          have hstart := hd_ (show ∃ (k : Nat) (ws1 : Nat → Value) (ys1 : Nat → List Int), k ≤ 40 ∧ Value.int .i64 0 = .int .i64 (k : Int) ∧ ws1 q = vs q ∧ OwS w wr i vs ls ws1 ys1 ∧ Grw w wr u3 q i ws1 ∧ (∀ j, j < q → ys1 j = mkL j (ls j) ++ gkL j 40) ∧ (∀ j, q < j → j < i → ws1 j = vs j ∧ ys1 j = mkL j (ls j)) ∧ ys1 q = mkL q (ls q) ++ gkL q k from
            ⟨0, ws, ys, by omega, rfl, hwq, hS, hG, ha, fun j h1 h2 => hb j (Nat.le_of_lt h1) h2, by rw [hyq]; simp [gkL]⟩)
          clear hS hG ha hb hwq hyq
          go_wp2
          go_loopw [7, 8] (fun vl vk wr => ∃ (k : Nat) (ws1 : Nat → Value) (ys1 : Nat → List Int), k ≤ 40 ∧ vk = .int .i64 (k : Int) ∧ ws1 q = vl ∧ OwS w wr i vs ls ws1 ys1 ∧ Grw w wr u3 q i ws1 ∧ (∀ j, j < q → ys1 j = mkL j (ls j) ++ gkL j 40) ∧ (∀ j, q < j → j < i → ws1 j = vs j ∧ ys1 j = mkL j (ls j)) ∧ ys1 q = mkL q (ls q) ++ gkL q k) (fun _ vk _ => 40 - (intOf vk).toNat)
          case atStart => exact hstart.out
          case round =>
            clear hstart hcq
            obtain ⟨k, ws, ys, hk, rfl, rfl, hS, hG, ha, hb, hyq⟩ := hrel
            obtain ⟨Aq, cq, hvq⟩ := ownN_slice (hS.own q hlt)
            by_cases hk40 : k < 40
            · have hkI : (k : Int) < 40 := by omega
              have hyl : (ys q).length = ls q + k := by rw [hyq, List.length_append, mkL_length, gkL_length]
              have hlq := hL.out q hlt
              obtain ⟨b0, b1⟩ := gkB_byte q k
              have hB3 := hd_ (al1 (Below.refl wr.heap.size wr) (.cells #[.int .u8 (gkB q k)] 5))
              have hRn : Hid (Rd (wr.alloc (.cells #[.int .u8 (gkB q k)] 5)) (.slice (some ⟨wr.heap.size, 0, none⟩) 1 1) [gkB q k]) := hd_ (rd_new (w := wr) (cs := #[.int .u8 (gkB q k)]) (t := 5) (fr := (0, 0)) [gkB q k] rfl rfl (by intro x hx; rw [List.mem_singleton] at hx; subst hx; exact ⟨b0, b1⟩) (show 1 ≤ maxLen by decide))
              have hS3 := hd_ (hS.keep hB3.out)
              have hG3 := hd_ (hG.keep hB3.out)
              have hO3 := hd_ (hS3.out.own q hlt)
              have hsum : Hid ((ys q).length + ([gkB q k] : List Int).length ≤ 140737488355328) := hd_ (by rw [hyl, List.length_singleton]; omega)
              have hst2 := hd_ (And.intro ha (And.intro hb (And.intro hyq hk40)))
              have w0 : IntKind.i64.wrap ((q : Int) + 101) = (q : Int) + 101 := by rw [IntKind.wrap_i64]; omega
              have w1 : IntKind.i64.wrap (3 * (k : Int)) = 3 * (k : Int) := by rw [IntKind.wrap_i64]; omega
              have w2 : IntKind.i64.wrap ((q : Int) + 101 + 3 * (k : Int)) = (q : Int) + 101 + 3 * (k : Int) := by rw [IntKind.wrap_i64]; omega
              have w3 := gkB_u8 q k
              clear hS hG ha hb hyq b0 b1 hyl hlq hvq
              go_wp2_with (at_builtin; refine app_G rfl _ _ 24 5 rfl Try.underlying24 infoO8 (ws q) (.slice (some ⟨wr.heap.size, 0, none⟩) 1 1) (ys q) [gkB q k] rfl rfl hO3.out hRn.out hsum.out ?_; intro v1 w1 HO1 hat; have hS4 := hd_ (hS3.out.app hF.out q hlt v1 _ HO1 hat); have hG4 := hd_ (hG3.out.app hlt (Nat.le_refl _) hO3.out hat); clear HO1 hat)
              obtain ⟨s1, s2, s3, s4⟩ := hst2.out
              go_roundw
              case rel => exact ⟨k + 1, _, _, s4, by go_num, upd_self _ _ _, hS4.out, hG4.out, fun j hj => by rw [updL_ne _ _ _ _ (by omega)]; exact s1 j hj, fun j h1 h2 => by rw [upd_ne _ _ _ _ (by omega), updL_ne _ _ _ _ (by omega)]; exact s2 j h1 h2, by rw [updL_self, s3, gkL_succ, List.append_assoc]⟩
              case measure => (simp [intOf]; try omega)
            · obtain rfl : k = 40 := by omega
              have hend := hd_ (show ∀ j, j < q + 1 → ys j = mkL j (ls j) ++ gkL j 40 from fun j hj => by
                by_cases e : j = q
                · rw [e]; exact hyq
                · exact ha j (by omega))
              have hB3 := hd_ (al1 (Below.refl wr.heap.size wr) (.cells #[ws q] 24))
              have hrow := hd_ (row_keep hG.1 hB3.out)
              have hSk := hd_ (hS.keep hB3.out)
              have hRn : Hid (RdC 1 (wr.alloc (.cells #[ws q] 24)) (.slice (some ⟨wr.heap.size, 0, none⟩) 1 1) 1 [ws q]) := hd_ ⟨rfl, _, _, rfl, Nat.le_refl _, by decide, (fun h => by cases h), fun j hj => ⟨_, 0, rfl, by
                obtain rfl : j = 0 := by simpa using hj
                rw [Nat.zero_add, World.cell?_alloc_new]; rfl⟩⟩
              have hone := hd_ (ownN_one (hS.own q hlt))
              have hne := hd_ hG.2
              have hbase : Hid (w.heap.size ≤ (wr.alloc (.cells #[ws q] 24)).heap.size) := hd_ (Nat.le_trans hS.chg.size hB3.out.size)
              have hlt1 := hd_ (fun (j : Nat) (hj : j < i) (b : Nat) (hb : (ws j).ownBlock = some b) => (hSk.out.own j hj).lt b hb)
              have hb2 := hd_ hb
              rw [hvq] at hB3 hrow hSk hRn hone hbase hlt1 ⊢
              rw [← hvq] at hone
              clear hS hG ha hb hyq
              have hvqH := hd_ hvq
              clear hvq
              go_wp2_with (at_builtin; refine app_rd w.heap.size rfl _ _ 76 24 (.slice none 0 0) 1 24 rfl Try.underlying76 infoSl rfl (by omega) u3 (.slice (some ⟨wr.heap.size, 0, none⟩) 1 1) q 1 ((List.range q).map ws) [.slice Aq (ys q).length cq] rfl rfl hrow.out hRn.out (by intro u hu; rw [List.mem_singleton] at hu; rw [hu]; rfl) hbase.out (by omega) (by omega) ?_; intro v1 w1 HO1 hg1 hat1; have hO1 := hd_ HO1; have hg1h := hd_ hg1; have hat := hd_ hat1; clear HO1 hg1 hat1)
              go_roundw
              case rel => exact (by
                have hr := hrow.out
                have hnb := hne.out
                have hrl : (List.range (q + 1)).map ws = (List.range q).map ws ++ [.slice Aq (ys q).length cq] := by rw [List.range_succ, List.map_append, ← hvqH.out]; rfl
                refine ⟨q + 1, ws, ys, hst.out.1, by go_num, hSk.out.other hF.out (chg_grown hg1h.out) (fun b hb => (hr.lt b hb).1) (fun j hj b hb e => hnb j hj b hb e), ⟨by rw [hrl]; exact hO1.out, fun j hj b hb => ?_⟩, hend.out, fun j h1 h2 => hb2.out j (by omega) h2⟩
                rcases hat.out with e | e
                · rw [e]; exact hnb j hj b hb
                · rw [e]
                  intro h3
                  injection h3 with h3
                  have := hlt1.out j hj b hb
                  omega)
              case measure => (simp [intOf]; try omega)
        · obtain rfl : q = i := by omega
          have hSz := hd_ hS
          have hrow := hd_ hG.1
          have hyz := hd_ ha
          have hcz := hd_ (hcl.out _ hS.chg)
          clear hS hG ha hb
          go_wp2
          go_loopw [9] (fun vi wq => ∃ p : Nat, p ≤ q ∧ vi = .int .i64 (p : Int) ∧ wq = wr) (fun vi _ => q - (intOf vi).toNat)
          case atStart => exact ⟨0, Nat.zero_le _, rfl, rfl⟩
          case round =>
            obtain ⟨p, hp, rfl, rfl⟩ := hrel
            by_cases hpq : p < q
            · have hpI : (p : Int) < (q : Int) := by omega
              have hcp := hcz.out p hpq
              have hlp := hnl.out p hpq
              have hLp := hL.out p hpq
              go_wp2
              go_loopw [11] (fun vk wq => ∃ k : Nat, k ≤ ls p ∧ vk = .int .i64 (k : Int) ∧ wq = wr) (fun vk _ => ls p - (intOf vk).toNat)
              case atStart => exact ⟨0, Nat.zero_le _, rfl, rfl⟩
              case round =>
                obtain ⟨k, hk, rfl, rfl⟩ := hrel
                by_cases hkl : k < ls p
                · have hkI : (k : Int) < (ls p : Int) := by omega
                  obtain ⟨bl, off, hat, hce⟩ := (hSz.out.rd p hpq).at Try.underlying24 infoO8 .i64 k (by rw [mkL_length]; exact hkl)
                  rw [mkL_getD _ _ _ hkl] at hce
                  have w1 : IntKind.i64.wrap (7 * (k : Int)) = 7 * (k : Int) := by rw [IntKind.wrap_i64]; omega
                  have w2 : IntKind.i64.wrap ((p : Int) + 7 * (k : Int)) = (p : Int) + 7 * (k : Int) := by rw [IntKind.wrap_i64]; omega
                  have w3 := mkB_u8 p k
                  go_wp2
                  go_roundw
                  case rel => exact ⟨k + 1, by omega, by go_num, by trivial⟩
                  case measure => (simp [intOf]; try omega)
                · obtain rfl : k = ls p := by omega
                  obtain ⟨bl, off, hat, hce⟩ := (RdC.own hrow.out).at (P := Try.prog) Try.underlying76 infoSl .i64 p hpq (by omega)
                  have hce := hce 0 (by omega)
                  have hget : ((List.range q).map ws)[p * 1 + 0]? = some (ws p) := by rw [Nat.mul_one, Nat.add_zero, List.getElem?_map, List.getElem?_range hpq]; rfl
                  rw [hget, Nat.add_zero] at hce
                  clear hget
                  have hOp := hd_ (hSz.out.own p hpq)
                  have hyp := hd_ (hyz.out p hpq)
                  go_wp2
                  go_loopw [12] (fun vk wq => ∃ k : Nat, k ≤ 40 ∧ vk = .int .i64 (k : Int) ∧ wq = wr) (fun vk _ => 40 - (intOf vk).toNat)
                  case atStart => exact ⟨0, by omega, rfl, rfl⟩
                  case round =>
                    obtain ⟨k, hk, rfl, rfl⟩ := hrel
                    by_cases hk40 : k < 40
                    · have hkI : (k : Int) < 40 := by omega
                      have hyl : (ys p).length = ls p + 40 := by rw [hyp.out, List.length_append, mkL_length, gkL_length]
                      obtain ⟨bl2, off2, hat2, hce2⟩ := hOp.out.rd.at Try.underlying24 infoO8 .i64 (ls p + k) (by omega)
                      have hgv : (ys p).getD (ls p + k) 0 = gkB p k := by
                        rw [hyp.out, List.getD_eq_getElem?_getD, List.getElem?_append_right (by rw [mkL_length]; omega), mkL_length, Nat.add_sub_cancel_left, ← List.getD_eq_getElem?_getD, gkL_getD _ _ _ hk40]
                      rw [hgv] at hce2
                      have hat2 : ∀ W, Sem.run Try.prog (Instr.indexAt 24 (ws p) (.int .i64 ((ls p : Int) + (k : Int)))) W = .ok (.pointer (some ⟨bl2, off2, none⟩)) W := by
                        have e : ((ls p + k : Nat) : Int) = (ls p : Int) + (k : Int) := by omega
                        rw [e] at hat2
                        exact hat2
                      have w4 : IntKind.i64.wrap ((ls p : Int) + (k : Int)) = (ls p : Int) + (k : Int) := by rw [IntKind.wrap_i64]; omega
                      have w0 : IntKind.i64.wrap ((p : Int) + 101) = (p : Int) + 101 := by rw [IntKind.wrap_i64]; omega
                      have w1 : IntKind.i64.wrap (3 * (k : Int)) = 3 * (k : Int) := by rw [IntKind.wrap_i64]; omega
                      have w2 : IntKind.i64.wrap ((p : Int) + 101 + 3 * (k : Int)) = (p : Int) + 101 + 3 * (k : Int) := by rw [IntKind.wrap_i64]; omega
                      have w3 := gkB_u8 p k
                      clear hgv hyl
                      go_wp2
                      go_roundw
                      case rel => exact ⟨k + 1, by omega, by go_num, by trivial⟩
                      case measure => (simp [intOf]; try omega)
                    · obtain rfl : k = 40 := by omega
                      go_wp2
                      go_roundw
                      case rel => exact ⟨p + 1, by omega, by go_num, by trivial⟩
                      case measure => (simp [intOf]; try omega)
            · obtain rfl : p = q := by omega
              go_wp2
              go_ret
              exact ⟨rfl, hSz.out.chg⟩
theorem own_base_le {W : World} {b b2 : Nat} {e : TypeId} {v : Value} {xs : List Int} (h : Own W b e v xs) (hb : b2 ≤ b) : Own W b2 e v xs := ⟨h.1, row_base h.2 hb⟩
/-- what is held, and what will be -/
def HelA (w0 W : World) (hv : Value) (us ext : List Value) : Prop :=
  W.ownsRow w0.heap.size 24 1 hv us.length us ∧ (∀ u ∈ us ++ ext, ∃ xs, Own W w0.heap.size 5 u xs ∧ xs.length ≤ 70368744177664) ∧ Apart (us ++ ext)
theorem HelA.nil (w0 W : World) : HelA w0 W (.slice none 0 0) [] [] := ⟨World.ownsRow_nil _ _ _ _, fun u hu => absurd hu (by simp), Apart.nil⟩
theorem HelA.keep {w0 W W1 : World} {hv : Value} {us ext : List Value} (h : HelA w0 W hv us ext) (hb : Below W.heap.size W W1) : HelA w0 W1 hv us ext :=
  ⟨row_keep h.1 hb, fun u hu => by obtain ⟨xs, h1, h2⟩ := h.2.1 u hu; exact ⟨xs, h1.keep hb, h2⟩, h.2.2⟩
/-- a variable of another kind changes -/
theorem HelA.boxed {w0 W W1 : World} {g : Nat} {t : TypeId} {cs : Array Value} {hv : Value} {us ext : List Value} (h : HelA w0 W hv us ext) (hb : Box W g t cs) (hg : W.grownBy W1 (some g)) (h1 : 24 ≠ t) (h2 : 5 ≠ t) : HelA w0 W1 hv us ext :=
  ⟨h.1.kept hg (own_ne h.1 hb h1), fun u hu => by obtain ⟨xs, k1, k2⟩ := h.2.1 u hu; exact ⟨xs, k1.kept hg (own_ne k1.2 hb h2), k2⟩, h.2.2⟩
theorem HelA.lt {w0 W : World} {hv : Value} {us ext : List Value} (h : HelA w0 W hv us ext) : ∀ u ∈ us ++ ext, ∀ b, u.ownBlock = some b → w0.heap.size ≤ b ∧ b < W.heap.size := fun u hu b hb => by
  obtain ⟨xs, k1, _⟩ := h.2.1 u hu
  exact k1.2.lt b hb
theorem getD_mem {us : List Value} {i : Nat} (h : i < us.length) : us.getD i undef ∈ us := by
  rw [List.getD_eq_getElem?_getD, List.getElem?_eq_getElem h]
  exact List.getElem_mem h
/-- fresh bytes are going to be held -/
theorem HelA.fresh {w0 W W1 : World} {hv u : Value} {us ext : List Value} {xs : List Int} (h : HelA w0 W hv us ext) (hb : Below W.heap.size W W1) (hO : Own W1 W.heap.size 5 u xs) (hl : xs.length ≤ 70368744177664) (h0 : w0.heap.size ≤ W.heap.size) : HelA w0 W1 hv us (ext ++ [u]) := by
  have hlt := h.lt
  have k := h.keep hb
  refine ⟨k.1, fun x hx => ?_, ?_⟩
  · rw [← List.append_assoc, List.mem_append] at hx
    rcases hx with hx | hx
    · exact k.2.1 x hx
    · rw [List.mem_singleton] at hx
      subst hx
      exact ⟨xs, own_base_le hO h0, hl⟩
  · rw [← List.append_assoc]
    refine h.2.2.app (fun i j hi hj hij => ?_) (fun i j hi hj b h5 h6 => ?_)
    · simp only [List.length_singleton] at hi hj; omega
    · simp only [List.length_singleton] at hj
      obtain rfl : j = 0 := by omega
      have := (hlt _ (getD_mem hi) b h5).2
      have := (hO.2.lt b h6).1
      omega
/-- a list of frames' bodies is going to be held -/
theorem HelA.more {w0 W1 : World} {hv lv : Value} {us : List Value} {fs : List (Int × List Int)} {base : Nat} (h : HelA w0 W1 hv us []) (hlt : ∀ u ∈ us, ∀ b, u.ownBlock = some b → b < base) (k : FrA W1 base 28 5 lv fs) (h0 : w0.heap.size ≤ base) (hl : ∀ f ∈ fs, f.2.length ≤ 70368744177664) :
    ∃ gs : List Value, gs.length = fs.length ∧ W1.ownsRow base 28 2 lv fs.length (frCells fs gs) ∧ HelA w0 W1 hv us gs ∧ ∀ u ∈ gs, ∀ b, u.ownBlock = some b → base ≤ b := by
  obtain ⟨gs, k1, k2, k3, k4⟩ := k
  have hm : ∀ u ∈ gs, ∃ i, i < fs.length ∧ u = gs.getD i undef := fun u hu => by
    obtain ⟨i, hi, rfl⟩ := List.getElem_of_mem hu
    exact ⟨i, by omega, by rw [List.getD_eq_getElem?_getD, List.getElem?_eq_getElem hi]; rfl⟩
  have hge : ∀ u ∈ gs, ∀ b, u.ownBlock = some b → base ≤ b := fun u hu b hb => by
    obtain ⟨i, hi, rfl⟩ := hm u hu
    exact ((k3 i hi).2.lt b hb).1
  refine ⟨gs, k1, k2, ⟨h.1, fun u hu => ?_, ?_⟩, hge⟩
  · rw [List.mem_append] at hu
    rcases hu with hu | hu
    · exact h.2.1 u (by simpa using hu)
    · obtain ⟨i, hi, rfl⟩ := hm u hu
      refine ⟨_, own_base_le (k3 i hi) h0, hl _ ?_⟩
      rw [List.getD_eq_getElem?_getD, List.getElem?_eq_getElem hi]
      exact List.getElem_mem hi
  · have ha := h.2.2
    rw [List.append_nil] at ha
    refine ha.app k4 fun i j hi hj b h5 h6 => ?_
    have := hlt _ (getD_mem hi) b h5
    have := hge _ (getD_mem hj) b h6
    omega
/-- a row of bytes that is none of them is written -/
theorem HelA.other {w0 W W1 : World} {g : Nat} {hv : Value} {us ext : List Value} (h : HelA w0 W hv us ext) (hg : W.grownBy W1 (some g)) (h1 : hv.ownBlock ≠ some g) (h2 : ∀ u ∈ us ++ ext, u.ownBlock ≠ some g) : HelA w0 W1 hv us ext :=
  ⟨h.1.kept hg (.inr h1), fun u hu => by obtain ⟨xs, k1, k2⟩ := h.2.1 u hu; exact ⟨xs, k1.kept hg (.inr (h2 u hu)), k2⟩, h.2.2⟩
/-- those to be held next are put into the list -/
theorem HelA.took {w0 W W1 : World} {hv v1 : Value} {us ds ext : List Value} (h : HelA w0 W hv us (ds ++ ext)) (hO : W1.ownsRow w0.heap.size 24 1 v1 (us.length + ds.length) (us ++ ds)) (hg : W.grownBy W1 hv.ownBlock) : HelA w0 W1 v1 (us ++ ds) ext := by
  refine ⟨by rw [List.length_append]; exact hO, fun u hu => ?_, ?_⟩
  · obtain ⟨xs, k1, k2⟩ := h.2.1 u (by rw [← List.append_assoc]; exact hu)
    exact ⟨xs, k1.kept hg (own_types k1.2 h.1 (by decide)), k2⟩
  · rw [List.append_assoc]; exact h.2.2
/-- what lies in rows of other kinds stays while the list of the held grows -/
theorem HelA.row {w0 W W1 : World} {hv : Value} {us ext : List Value} {base size n : Nat} {e : TypeId} {v : Value} {xs : List Value} (h : HelA w0 W hv us ext) (hg : W.grownBy W1 hv.ownBlock) (ho : W.ownsRow base e size v n xs) (hne : e ≠ 24) : W1.ownsRow base e size v n xs := ho.kept hg (own_types ho h.1 hne)
theorem HelA.apartN {w0 W : World} {hv : Value} {us : List Value} (h : HelA w0 W hv us []) :
    (∀ j, j < us.length → ∃ xs, OwnN W (us.getD j undef) xs ∧ xs.length ≤ 70368744177664) ∧ (∀ i j, i < us.length → j < us.length → i ≠ j → ∀ b, (us.getD i undef).ownBlock = some b → (us.getD j undef).ownBlock ≠ some b) := by
  obtain ⟨h1, h2, h3⟩ := h
  rw [List.append_nil] at h2 h3
  refine ⟨fun j hj => ?_, h3⟩
  obtain ⟨xs, k1, k2⟩ := h2 _ (getD_mem hj)
  refine ⟨xs, ?_, k2⟩
  by_cases hv : us.getD j undef = .slice none 0 0
  · rw [hv] at k1 ⊢
    obtain ⟨A, c, he, _⟩ := k1.rd.form
    injection he with _ e2 _
    exact .inl ⟨rfl, List.eq_nil_of_length_eq_zero e2.symm⟩
  · exact .inr ((k1.toF hv).low (Nat.zero_le _))
/-- of what is held, all of it, the look answers yes -/
theorem held_apart {w0 W : World} {hv : Value} {us : List Value} (h : HelA w0 W hv us []) (hB : Below w0.heap.size w0 W) (hn : 0 < us.length) (hn2 : us.length ≤ 16777216) :
    Calls Try.prog 43 #[hv] W fun e w' => e = .returned (.bool true) ∧ Below w0.heap.size w0 w' := by
  obtain ⟨k1, k2⟩ := h.apartN
  have hlt := h.lt
  rcases h.1.2 with ⟨rfl, h0⟩ | ⟨g, cap, cur, rfl, hg, hh, hc⟩
  · omega
  have hx : ∃ xs : Nat → List Int, ∀ j, j < us.length → OwnN W (us.getD j undef) (xs j) ∧ (xs j).length ≤ 70368744177664 :=
    ⟨fun j => if hj : j < us.length then Classical.choose (k1 j hj) else [], fun j hj => by simp only [hj, dif_pos]; exact Classical.choose_spec (k1 j hj)⟩
  obtain ⟨xs, hxs⟩ := hx
  have hcell : ∀ j, j < us.length → W.cell? ⟨g, j, none⟩ = some (us.getD j undef) := fun j hj => by
    have hcl := h.1.cells (g := g) rfl j (us.getD j undef) (by rw [List.getD_eq_getElem?_getD, List.getElem?_eq_getElem hj]; rfl)
    rw [Addr.add_lit, Nat.zero_add] at hcl
    exact hcl
  obtain ⟨_, _, capx, hvx, hc1, hc2, _⟩ := RdC.own h.1
  injection hvx with _ _ e3
  subst e3
  refine (apart_any us.length hn2 g cap hc1 hc2 (fun j => us.getD j undef) xs W hcell (fun j hj => (hxs j hj).1) (fun j hj => (hxs j hj).2) k2 (fun j hj he => ?_)).mono ?_
  · obtain ⟨ys, o1, _⟩ := h.2.1 _ (by rw [List.append_nil]; exact getD_mem hj)
    have := own_types o1.2 h.1 (by decide : 5 ≠ 24)
    rcases this with e | e
    · rw [e] at he; cases he
    · exact e he
  · rintro e w' ⟨he, hC⟩
    refine ⟨he, hC.then hB (fun b hb => ?_) hB.size⟩
    obtain ⟨j, hj, hb⟩ := hb
    exact (hlt _ (by rw [List.append_nil]; exact getD_mem hj) b hb).1
theorem SplB.grown {B : Nat} {w w1 : World} {g : Nat} {m : Int} {l : List Int} {j lo : Nat} {row : Option Nat} (h : SplB B w g m l j lo) (hg : w.grownBy w1 row) (h1 : some g ≠ row) (h2 : ∀ b cur, w.heap[b]? = some (.cells cur 5 (0, 0)) → some b ≠ row) : SplB B w1 g m l j lo := by
  obtain ⟨v, k1, k2⟩ := h
  exact ⟨v, k1.grown hg h1, k2.grown hg h2⟩
structure OwnSt (wS W : World) (hv : Value) (us ext : List Value) (g gf capf : Nat) (B : List Int) (lv : Value) (S : List (Int × List Int)) (gs : List Value) : Prop where
  hel : HelA wS W hv us ext
  box : ∃ cs, Box W g 74 cs
  fed : Own W wS.heap.size 5 (.slice (some ⟨gf, 0, none⟩) B.length capf) B
  got : W.ownsRow wS.heap.size 28 2 lv S.length (frCells S gs)
  bel : Below wS.heap.size wS W
  nf : ∀ u ∈ us ++ ext, u.ownBlock ≠ some gf
section
variable {wS W W1 : World} {hv : Value} {us ext : List Value} {g gf capf : Nat} {B : List Int} {lv : Value} {S : List (Int × List Int)} {gs : List Value}
theorem OwnSt.keep (h : OwnSt wS W hv us ext g gf capf B lv S gs) (hb : Below W.heap.size W W1) : OwnSt wS W1 hv us ext g gf capf B lv S gs :=
  ⟨h.hel.keep hb, by obtain ⟨cs, h1⟩ := h.box; exact ⟨cs, h1.keep hb⟩, h.fed.keep hb, row_keep h.got hb, bel_trans h.bel hb, h.nf⟩
theorem OwnSt.fresh (h : OwnSt wS W hv us ext g gf capf B lv S gs) (hb : Below W.heap.size W W1) {u : Value} {xs : List Int} (hO : Own W1 W.heap.size 5 u xs) (hl : xs.length ≤ 70368744177664) : OwnSt wS W1 hv us (ext ++ [u]) g gf capf B lv S gs := by
  have k := h.keep hb
  refine ⟨h.hel.fresh hb hO hl h.bel.size, k.box, k.fed, k.got, k.bel, fun x hx => ?_⟩
  rw [← List.append_assoc, List.mem_append] at hx
  rcases hx with hx | hx
  · exact h.nf x hx
  · rw [List.mem_singleton] at hx
    subst hx
    intro e
    have := (hO.2.lt gf e).1
    have := (h.fed.2.lt gf rfl).2
    omega
theorem OwnSt.took {v1 : Value} {ds : List Value} (h : OwnSt wS W hv us (ds ++ ext) g gf capf B lv S gs) (hO : W1.ownsRow wS.heap.size 24 1 v1 (us.length + ds.length) (us ++ ds)) (hg : W.grownBy W1 hv.ownBlock) : OwnSt wS W1 v1 (us ++ ds) ext g gf capf B lv S gs := by
  have hx := h.hel.1
  refine ⟨h.hel.took hO hg, ?_, ⟨h.fed.1, h.hel.row hg h.fed.2 (by decide)⟩, h.hel.row hg h.got (by decide), h.bel.grown hg h.bel.size (fun k hk => (hx.lt k hk).1), fun u hu => h.nf u (by rw [List.append_assoc] at hu; exact hu)⟩
  obtain ⟨cs, h1⟩ := h.box
  exact ⟨cs, h1.grown hg (kind_ne hx h1 (by decide))⟩
/-- a byte of what was fed is written over -/
theorem OwnSt.put (h : OwnSt wS W hv us ext g gf capf B lv S gs) (j : Nat) (b : Int) (h0 : 0 ≤ b) (h1 : b < 256) : OwnSt wS (W.setCell ⟨gf, j, none⟩ (.int .u8 b)) hv us ext g gf capf (B.set j b) lv S gs ∧ W.grownBy (W.setCell ⟨gf, j, none⟩ (.int .u8 b)) (some gf) := by
  obtain ⟨hf, hg⟩ := h.fed.put j b h0 h1
  obtain ⟨cs, h2⟩ := h.box
  have hbox : some g ≠ some gf := kind_ne h.fed.2 h2 (by decide)
  have hhv : hv.ownBlock ≠ some gf := by
    rcases own_types h.hel.1 h.fed.2 (by decide) with e | e
    · rw [e]; simp
    · exact e
  refine ⟨⟨h.hel.other hg hhv h.nf, ⟨cs, h2.grown hg hbox⟩, by rw [List.length_set]; exact hf, h.got.kept hg (own_types h.got h.fed.2 (by decide)), below_row h.bel hg (h.fed.2.lt gf rfl).1 h.bel.size, h.nf⟩, hg⟩
end
theorem OwnSt.splb {wS W W1 : World} {hv : Value} {us ext : List Value} {g gf capf : Nat} {B : List Int} {lv : Value} {S : List (Int × List Int)} {gs : List Value} (h : OwnSt wS W hv us ext g gf capf B lv S gs) (k : SplB 0 W g 2000 [] 0 0) (hg : W.grownBy W1 hv.ownBlock) : SplB 0 W1 g 2000 [] 0 0 := by
  obtain ⟨v, k1, k2⟩ := id k
  exact k.grown hg (kind_ne h.hel.1 k1 (by decide)) (fun b cur hc => kind_ne h.hel.1 hc (by decide))
/-- the splitter was fed again -/
theorem OwnSt.again {wS W W1 : World} {hv : Value} {us : List Value} {g gf capf : Nat} {B : List Int} {lv lv2 : Value} {S : List (Int × List Int)} {gs : List Value} (h : OwnSt wS W hv us [] g gf capf B lv S gs) (hg : W.grownBy W1 (some g)) (hgw : wS.heap.size ≤ g) (hx : ∃ cs, Box W1 g 74 cs) (k : FrA W1 W.heap.size 28 5 lv2 S) (hl : ∀ f ∈ S, f.2.length ≤ 70368744177664) :
    ∃ gs2 : List Value, gs2.length = S.length ∧ OwnSt wS W1 hv us gs2 g gf capf B lv2 S gs2 := by
  obtain ⟨cs, h2⟩ := h.box
  have hlt := h.hel.lt
  obtain ⟨gs2, m1, m2, m3, m4⟩ := (h.hel.boxed h2 hg (by decide) (by decide)).more (fun u hu b hb => (hlt u (by rw [List.append_nil]; exact hu) b hb).2) k h.bel.size hl
  refine ⟨gs2, m1, m3, hx, h.fed.kept hg (own_ne h.fed.2 h2 (by decide)), row_base m2 h.bel.size, below_row h.bel hg hgw h.bel.size, fun u hu => ?_⟩
  rw [List.mem_append] at hu
  rcases hu with hu | hu
  · exact h.nf u (by rw [List.append_nil]; exact hu)
  · intro e
    have := m4 u hu gf e
    have := (h.fed.2.lt gf rfl).2
    omega
theorem FrL.lenF9 {W : World} {base : Nat} {lv : Value} {fs : List (Int × List Int)} (h : FrL W base 28 5 lv fs) : ∀ W' : World, Sem.run Try.prog (Builtin.len_ #[52] 3 #[lv]) W' = Result.ok (.int .i64 fs.length) W' := by
  obtain ⟨us, hus, hrow, _⟩ := h
  exact (RdC.own hrow).len (P := Try.prog) 52 28 3 Try.underlying52
theorem rdc_new (W : World) (us : List Value) (t : TypeId) (n : Nat) (hn : n = us.length) (hm : n ≤ maxLen) : RdC 1 (W.alloc (.cells us.toArray t)) (.slice (some ⟨W.heap.size, 0, none⟩) n n) n us :=
  ⟨by rw [Nat.mul_one]; exact hn.symm, _, _, rfl, Nat.le_refl _, hm, (fun h => by cases h), fun j hj => ⟨_, 0, rfl, by rw [Nat.zero_add, World.cell?_alloc_new]; simp⟩⟩
/-- the next of a list of frames: its body -/
theorem got_at {W : World} {base : Nat} {lv : Value} {S : List (Int × List Int)} {gs : List Value} (h : W.ownsRow base 28 2 lv S.length (frCells S gs)) (hl : gs.length = S.length) (i : Nat) (hi : i < S.length) :
    ∃ bl off, (∀ W', Sem.run Try.prog (Instr.indexAt 52 lv (.int .i64 (i : Int))) W' = .ok (.pointer (some ⟨bl, off, none⟩)) W') ∧ W.cell? ⟨bl, off + 1, none⟩ = some (gs.getD i undef) := by
  obtain ⟨bl, off, k1, k2⟩ := (RdC.own h).at (P := Try.prog) Try.underlying52 infoFr .i64 i hi (by omega)
  obtain ⟨g1, g2⟩ := frCells_get S gs i hl hi
  have c1 := k2 1 (by omega)
  rw [g2] at c1
  exact ⟨bl, off, k1, c1⟩
theorem laidB_take {S : List (Int × List Int)} {k : Nat} (h : k < S.length) : (laidB S).drop (laidB (S.take k)).length = encB (S.getD k (0, [])).1 (S.getD k (0, [])).2 ++ laidB (S.drop (k + 1)) := by
  conv => lhs; rw [← List.take_append_drop k S]
  rw [laidB_append]
  have hlt : (S.take k).length ≤ k := by rw [List.length_take]; omega
  rw [show laidB (List.take k (List.take k S ++ List.drop k S)) = laidB (S.take k) by rw [List.take_append_of_le_length (by rw [List.length_take]; omega), List.take_take, Nat.min_self], List.drop_left]
  rw [List.drop_eq_getElem_cons h, List.getD_eq_getElem?_getD, List.getElem?_eq_getElem h]
  show laidB ([S[k]] ++ S.drop (k + 1)) = _
  rw [laidB_append, laidB_one]
  rfl
theorem laidB_next {S : List (Int × List Int)} {k : Nat} (h : k < S.length) : (laidB (S.take (k + 1))).length = (laidB (S.take k)).length + ((S.getD k (0, [])).2.length + 14) := by
  rw [List.take_add_one, List.getElem?_eq_getElem h, laidB_append, List.length_append, List.getD_eq_getElem?_getD, List.getElem?_eq_getElem h]
  show _ + (laidB [S[k]]).length = _
  rw [laidB_one, encB_length]
  rfl
theorem laidB_takele (S : List (Int × List Int)) (k : Nat) : (laidB (S.take k)).length ≤ (laidB S).length := by
  conv => rhs; rw [← List.take_append_drop k S]
  rw [laidB_append, List.length_append]; omega
theorem mayB_spec {m : Int} {f : Int × List Int} (h : mayB m f = true) : 1 ≤ f.1 ∧ f.1 ≤ 255 ∧ f.2.length ≤ 1048576 := by
  unfold mayB at h
  rw [Bool.and_eq_true, decide_eq_true_iff] at h
  exact h.1
theorem S_at {S : List (Int × List Int)} (hS : ∀ f ∈ S, mayB 2000 f = true ∧ IsBytes f.2) (i : Nat) (hi : i < S.length) : mayB 2000 (S.getD i (0, [])) = true ∧ IsBytes (S.getD i (0, [])).2 := by
  rw [List.getD_eq_getElem?_getD, List.getElem?_eq_getElem hi]
  exact hS _ (List.getElem_mem hi)
theorem take_one {gs : List Value} {i : Nat} (h : i < gs.length) : gs.take (i + 1) = gs.take i ++ [gs.getD i undef] := by
  rw [List.take_add_one, List.getElem?_eq_getElem h, List.getD_eq_getElem?_getD, List.getElem?_eq_getElem h]
  rfl
theorem drop_one {gs : List Value} {i : Nat} (h : i < gs.length) : gs.drop i = [gs.getD i undef] ++ gs.drop (i + 1) := by
  rw [List.drop_eq_getElem_cons h, List.getD_eq_getElem?_getD, List.getElem?_eq_getElem h]
  rfl
set_option maxHeartbeats 16000000 in
theorem law_FrameOwn (w : World) (v : Value) (x : List (Int × List Int × Unit)) (r : RSl 2 32 RFrame w [v] x) (t : (x.map (fun a : Int × List Int × Unit => 1 + (a.2.1.length + 1 + 0) + 1)).sum + 1 ≤ 1048576) :
    Calls Try.prog 14 #[v] w fun e w' => e = .returned (.bool true) ∧ Below w.heap.size w w' := by
  have hRF := rdf_of r
  have hcb := cnt_bulk x
  generalize (x.map fun a => (a.1, a.2.1)) = L at *
  have hcL : cntN L ≤ 5242880 := by omega
  have hLl := length_cnt L
  have hLL : Hid ((1 + L.length) * 32 ≤ 140737488355328) := hd_ (by omega)
  have hcL2 : Hid (cntN ((5, [111, 119, 110]) :: L) ≤ 5242897) := hd_ (by simp only [cntN, List.map_cons, List.sum_cons, List.length_cons, List.length_nil] at hcL ⊢; omega)
  clear hcb hcL hLl t r
  obtain ⟨wa, hwa⟩ : ∃ wa, w.alloc (.cells #[.int .u8 111, .int .u8 119, .int .u8 110] 5 (3, 4)) = wa := ⟨_, rfl⟩
  have hA := al1 (Below.refl w.heap.size w) (.cells #[.int .u8 111, .int .u8 119, .int .u8 110] 5 (3, 4))
  have hRo : Rd (w.alloc (.cells #[.int .u8 111, .int .u8 119, .int .u8 110] 5 (3, 4))) (.slice (some ⟨w.heap.size, 0, none⟩) 3 3) [111, 119, 110] := rd_new [111, 119, 110] rfl rfl (by intro b hb; simp only [List.mem_cons, List.not_mem_nil, or_false] at hb; omega) (by decide)
  have hwz : wa.heap.size = w.heap.size + 1 := by rw [← hwa]; simp
  rw [hwa] at hA hRo
  have hal := al1 (Below.refl wa.heap.size wa) (.cells #[.int .i64 5, .slice (some ⟨w.heap.size, 0, none⟩) 3 3] 28)
  have hI : FrI wa (wa.alloc (.cells #[.int .i64 5, .slice (some ⟨w.heap.size, 0, none⟩) 3 3] 28)) wa.heap.size (.slice (some ⟨wa.heap.size, 0, none⟩) 1 1) [(5, [111, 119, 110])] :=
    ⟨[.int .i64 5, .slice (some ⟨w.heap.size, 0, none⟩) 3 3], ⟨rfl, fun i hi => by
      obtain rfl : i = 0 := by simpa using hi
      exact ⟨rfl, _, rfl, hRo⟩⟩, World.ownsRow_lit wa #[.int .i64 5, .slice (some ⟨w.heap.size, 0, none⟩) 3 3] 1 (Nat.le_refl _) (by decide) rfl⟩
  have hRF1 := (hRF.mono hA).keep (bel_trans hA hal)
  have hIh := hd_ hI
  have hRF1h := hd_ hRF1
  have halh := hd_ hal
  have hAh := hd_ hA
  rw [hwz] at hI
  subst hwa
  have hIh := hd_ hI
  clear hRF hI hRF1 hal hA hwz hRo
  have kc : Sem.run Try.prog (convert 24 24 (.slice (some ⟨w.heap.size, 0, none⟩) 3 3)) (w.alloc (.cells #[.int .u8 111, .int .u8 119, .int .u8 110] 5)) = .ok (.slice (some ⟨w.heap.size, 0, none⟩) 3 3) (w.alloc (.cells #[.int .u8 111, .int .u8 119, .int .u8 110] 5 (3, 4))) := Lib.run_convert_bytes_const (P := Try.prog) w 24 5 #[.int .u8 111, .int .u8 119, .int .u8 110] 3 3 Try.underlying24 Try.underlying5
  go_enter Try.func14, Try.ntmps14
  go_wp2_with (at_builtin; (refine app_fri (w0 := w.alloc (.cells #[.int .u8 111, .int .u8 119, .int .u8 110] 5 (3, 4))) (w.alloc (.cells #[.int .u8 111, .int .u8 119, .int .u8 110] 5 (3, 4))).heap.size rfl _ _ rfl (.slice (some ⟨w.heap.size + 1, 0, none⟩) 1 1) v [(5, [111, 119, 110])] L rfl rfl (by first | exact hIh.out | (simp; exact hIh.out)) hRF1h.out halh.out halh.out.size hLL.out ?_); intro v5 w5 HF5 HB5 hg5 hk5)
  have hB5 := hd_ (bel_trans hAh.out HB5)
  have HF5m : RdF w5 w5 v5 ((5, [111, 119, 110]) :: L) := HF5.rdf.mono HB5
  have hFb := HF5m.bytes
  clear hg5 hk5 hIh hRF1h halh HF5 HB5 hAh
  refine (laid_any v5 ((5, [111, 119, 110]) :: L) 2000 w5 HF5m (by decide) (by have := hcL2.out; omega)).mono ?_
  rintro e w6 ⟨bv, sv, rfl, HO6, HF6, HB6⟩
  have hSm : ∀ f ∈ ((5, [111, 119, 110]) :: L).filter (mayB 2000), mayB 2000 f = true ∧ IsBytes f.2 := fun f hf => ⟨(List.mem_filter.1 hf).2, hFb f (List.mem_filter.1 hf).1⟩
  have hSl : (laidB (((5, [111, 119, 110]) :: L).filter (mayB 2000))).length ≤ 5242897 := by
    rw [laidB_length]
    have h1 := cnt_filter (mayB 2000) ((5, [111, 119, 110]) :: L)
    have h2 := hcL2.out
    omega
  have hS1 : 0 < (((5, [111, 119, 110]) :: L).filter (mayB 2000)).length := by
    rw [List.filter_cons, if_pos (by decide)]
    simp
  generalize ((5, [111, 119, 110]) :: L).filter (mayB 2000) = S at *
  have hSc := scanA_frames 2000 S [] 0 0 hSm
  have hS14 := length_cnt S
  rw [← laidB_length] at hS14
  have hlk : Hid (∀ k, k < S.length → (laidB S).drop (laidB (S.take k)).length = encB (S.getD k (0, [])).1 (S.getD k (0, [])).2 ++ laidB (S.drop (k + 1)) ∧ (laidB (S.take (k + 1))).length = (laidB (S.take k)).length + ((S.getD k (0, [])).2.length + 14)) := hd_ (fun k hk => ⟨laidB_take hk, laidB_next hk⟩)
  have hlt0 : Hid (∀ k, (laidB (S.take k)).length ≤ (laidB S).length) := hd_ (laidB_takele S)
  have hBb := hSc.1
  have hfa := feedA_all 2000 [laidB S] (by intro p hp; rw [List.mem_singleton] at hp; rw [hp]; exact hBb)
  rw [List.flatten_cons, List.flatten_nil, List.append_nil, hSc.2, List.nil_append] at hfa
  have hsc2 := hSc.2
  rw [List.nil_append] at hsc2
  obtain ⟨B, hBq⟩ : ∃ B, laidB S = B := ⟨_, rfl⟩
  rw [hBq] at HO6 hlk hlt0 hBb hfa hsc2 hSl hS14
  have hBn : 0 < B.length := by omega
  have hFA := hd_ hfa
  have hSC := hd_ hsc2
  have hSM := hd_ hSm
  have hSN : Hid (S.length ≤ 374493 ∧ 0 < S.length ∧ B.length ≤ 5242897) := hd_ ⟨by omega, hS1, hSl⟩
  have hSF := hd_ (fun f (hf : f ∈ S) => show f.2.length ≤ 70368744177664 by have := (mayB_spec (hSm f hf).1).2.2; omega)
  have hHO := hd_ HO6.rd
  have hHF := hd_ (HF6.rdf.mono HB6)
  have hBw := hd_ (bel_trans hB5.out HB6)
  have hlenS := hHF.out.len
  obtain ⟨Ab, cb, rfl, _⟩ := own_slice HO6
  have hNI : S.length ≤ 374493 := hSN.out.1
  have hBI : B.length ≤ 5242897 := hSN.out.2.2
  clear hFb hSm hSc hfa hsc2 HO6 HF6 HB6 HF5m hcL2 hLL hB5 hS14 hBq hSl hS1 hBb
  go_wp2
  go_loopw [6, 7] (fun vh vi wr => ∃ (rd : Nat) (us : List Value), rd ≤ 2 ∧ vi = .int .i64 (rd : Int) ∧ Hid (HelA w6 wr vh us [] ∧ us.length = rd * (5 * S.length) ∧ Below w6.heap.size w6 wr)) (fun _ vi _ => 2 - (intOf vi).toNat)
  case atStart => exact ⟨0, [], by omega, rfl, hd_ ⟨HelA.nil _ _, by simp, Below.refl _ _⟩⟩
  case round =>
    obtain ⟨rd, us, hrd, rfl, HI⟩ := hrel
    by_cases hr2 : rd < 2
    · have hrI : (rd : Int) < 2 := by omega
      have hR2 := hd_ hr2
      have hrdU : Hid (us.length ≤ 5 * S.length) := hd_ (by rw [HI.out.2.1]; rcases (by omega : rd = 0 ∨ rd = 1) with e | e <;> rw [e] <;> omega)
      have hnil : Hid (([] : List Int).length + B.length ≤ 140737488355328) := hd_ (by rw [List.length_nil]; omega)
      have hBr := hd_ (hHO.out.keep HI.out.2.2)
      obtain ⟨qq, hqq⟩ : ∃ qq, rd * (5 * S.length) = qq := ⟨_, rfl⟩
      have hmul : Hid ((rd + 1) * (5 * S.length) = qq + 5 * S.length) := hd_ (by rw [Nat.succ_mul, hqq])
      have hqq := hd_ hqq
      clear hr2
      go_upto_region 9 with (at_builtin; (refine app_bytes (w0 := wr) wr.heap.size rfl _ _ 24 5 rfl Try.underlying24 info8 (.slice none 0 0) _ [] B rfl rfl (own_nil8 _ _ _) hBr.out (Below.refl _ _) (Nat.le_refl _) hnil.out ?_); intro v1 w1 HO1 HB1 hg1 hat1; rw [List.nil_append] at HO1)
      obtain ⟨gf, capf, rfl, hgf, hle1, hcap1, hx1, hx2⟩ := HO1.slot (by intro h; rw [h] at hBn; simp at hBn)
      clear hx1 hx2 hg1 hat1 hnil hBr
      have hO1 := hd_ HO1
      have hone := crc_Sum_one _ _ w1 HO1.rd rfl
      have hal := al1 (Below.refl w1.heap.size w1) (.cells #[.slice (some ⟨gf, 0, none⟩) B.length capf] 24)
      have hone := hd_ hone
      have hal := hd_ hal
      have hB1 := hd_ HB1
      have hgf := hd_ hgf
      clear HO1 HB1
      go_wp2_with fail
      refine (all_anyB 2000 _ [B] _ hone.out (by decide) (by decide) (by rw [List.flatten_cons, List.flatten_nil, List.append_nil]; omega)).mono ?_
      rintro e w2 ⟨lv, g, rfl, hg2, HS2, HL2, HB2⟩
      rw [hFA.out] at HS2 HL2
      simp only at HS2 HL2
      have hK2 := hd_ (bel_trans hal.out HB2)
      have hKr2 := hd_ (bel_trans hB1.out hK2.out)
      have hB2 := hd_ (bel_trans HI.out.2.2 hKr2.out)
      have hbase : Hid (wr.heap.size ≤ w1.heap.size ∧ w1.heap.size ≤ (w1.alloc (.cells #[.slice (some ⟨gf, 0, none⟩) B.length capf] 24)).heap.size ∧ w6.heap.size ≤ wr.heap.size ∧ gf < w1.heap.size) := hd_ ⟨hB1.out.size, hal.out.size, HI.out.2.2.size, (hO1.out.2.lt gf rfl).2⟩
      have hHel := hd_ HI.out.1
      have hU0 := hd_ (show us.length = rd * (5 * S.length) from HI.out.2.1)
      have hltU := hd_ HI.out.1.lt
      obtain ⟨gs, hgl, hgrow, hHel2, hge⟩ := (hHel.out.keep hKr2.out).more (fun u hu b hb => by have := (hltU.out u (by rw [List.append_nil]; exact hu) b hb).2; have := hbase.out; omega) HL2 (by have := hbase.out; omega) hSF.out
      have hO2 : Hid (OwnSt w6 w2 u6 us gs g gf capf B lv S gs) := hd_ ⟨hHel2, by obtain ⟨vq, hq, _⟩ := HS2; exact ⟨_, hq⟩, own_base_le (hO1.out.keep hK2.out) hbase.out.2.2.1, row_base hgrow (by have := hbase.out; omega), hB2.out, fun u hu e => by
        rw [List.mem_append] at hu
        have h1 := hbase.out
        have h2 := hgf.out
        rcases hu with hu | hu
        · have := (hltU.out u (by rw [List.append_nil]; exact hu) gf e).2
          omega
        · have := hge u hu gf e
          omega⟩
      have hSp := hd_ (HS2.base (Nat.zero_le _))
      have hg6 : Hid (w6.heap.size ≤ g) := hd_ (by have := hbase.out; omega)
      have hF2 := hd_ HL2.l
      have hS2r := hd_ ((hHF.out.keep hB2.out).mono hB2.out)
      have hgl := hd_ hgl
      obtain ⟨Al, cl, rfl⟩ := hF2.out.len
      have hlenL := hF2.out.lenF9
      clear hgrow hHel2 hge HS2 HL2 HB2 hg2 hK2 hKr2 hB2 hbase hHel hltU hone hal hB1 hO1 hgf HI
      go_wp2_with ((go_at_call 41; with_reducible refine (alike_rd _ sv S _ hF2.out.rdf hS2r.out).mono ?_); rintro e w3 ⟨rfl, HB3⟩; have hO3 := hd_ (hO2.out.keep HB3); have hSp3 := hd_ (hSp.out.keep HB3); clear HB3)
      clear hO2 hSp hF2 hS2r
      go_wp2
      go_loopw [6, 12] (fun vh vi wq => ∃ (i : Nat), i ≤ S.length ∧ vi = .int .i64 (i : Int) ∧ Hid (OwnSt w6 wq vh (us ++ gs.take i) (gs.drop i) g gf capf B (.slice Al S.length cl) S gs ∧ SplB 0 wq g 2000 [] 0 0)) (fun _ vi _ => S.length - (intOf vi).toNat)
      case atStart => exact ⟨0, Nat.zero_le _, rfl, hd_ (by rw [List.take_zero, List.append_nil, List.drop_zero]; exact ⟨hO3.out, hSp3.out⟩)⟩
      case round =>
        clear hO3 hSp3
        obtain ⟨i, hi, rfl, HI⟩ := hrel
        by_cases hlt : i < S.length
        · have hiI : (i : Int) < (S.length : Int) := by omega
          obtain ⟨bl, off, i1, c1⟩ := got_at HI.out.1.got hgl.out i hlt
          have ht1 := hd_ (take_one (gs := gs) (i := i) (by rw [hgl.out]; exact hlt))
          have hd1 := drop_one (gs := gs) (i := i) (by rw [hgl.out]; exact hlt)
          rw [hd1] at HI
          have hil := hd_ (show (us ++ gs.take i).length = us.length + i by rw [List.length_append, List.length_take, hgl.out]; omega)
          obtain ⟨u, hu⟩ : ∃ u, gs.getD i undef = u := ⟨_, rfl⟩
          rw [hu] at c1 ht1 HI
          obtain ⟨A9, n9, c9, e9⟩ : ∃ A9 n9 c9, u = .slice A9 n9 c9 := by
            obtain ⟨xs9, hx9, _⟩ := HI.out.1.hel.2.1 u (by simp)
            obtain ⟨A9, c9, e9, _⟩ := own_slice hx9
            exact ⟨_, _, _, e9⟩
          subst e9
          have hal9 := hd_ (al1 (Below.refl wr.heap.size wr) (.cells #[.slice A9 n9 c9] 24))
          have hRn9 := hd_ (rdc_new wr [.slice A9 n9 c9] 24 1 rfl (by decide))
          have hOk := hd_ (HI.out.1.keep hal9.out)
          have hSpk := hd_ (HI.out.2.keep hal9.out)
          have hbs9 : Hid (((us ++ gs.take i).length + 1) * 24 ≤ 140737488355328) := hd_ (by rw [hil.out]; have := hrdU.out; omega)
          clear HI hu hd1 hal9
          go_wp2_with (at_builtin; refine app_rd w6.heap.size rfl _ _ 76 24 (.slice none 0 0) 1 24 rfl Try.underlying76 infoSl rfl (by omega) u6 _ (us ++ gs.take i).length 1 (us ++ gs.take i) [.slice A9 n9 c9] rfl rfl hOk.out.hel.1 hRn9.out (by intro y hy; rw [List.mem_singleton] at hy; rw [hy]; rfl) hOk.out.bel.size (by omega) hbs9.out ?_; intro v9 w9 HO9 hg9 hat9; have hO9 := hd_ (hOk.out.took (ds := [.slice A9 n9 c9]) HO9 hg9); have hSp9 := hd_ (hOk.out.splb hSpk.out hg9); clear HO9 hg9 hat9)
          go_roundw
          case rel => exact ⟨i + 1, by omega, by go_num, hd_ (by rw [ht1.out, ← List.append_assoc]; exact ⟨hO9.out, hSp9.out⟩)⟩
          case measure => (simp [intOf]; try omega)
        · obtain rfl : i = S.length := by omega
          have hDone := HI.out
          rw [show gs.take S.length = gs by rw [← hgl.out, List.take_length], show gs.drop S.length = [] by rw [← hgl.out, List.drop_length]] at hDone
          have hDone := hd_ hDone
          clear HI
          go_wp2
          go_loopw [6, 13, 14] (fun vh va vi wq => ∃ (i : Nat) (us2 : List Value), i ≤ S.length ∧ vi = .int .i64 (i : Int) ∧ va = .int .i64 ((laidB (S.take i)).length : Int) ∧ Hid (OwnSt w6 wq vh us2 [] g gf capf B (.slice Al S.length cl) S gs ∧ SplB 0 wq g 2000 [] 0 0 ∧ us2.length = us.length + S.length + 3 * i)) (fun _ _ vi _ => S.length - (intOf vi).toNat)
          case atStart => exact ⟨0, us ++ gs, Nat.zero_le _, rfl, rfl, hd_ ⟨hDone.out.1, hDone.out.2, by rw [List.length_append, hgl.out]; omega⟩⟩
          case round =>
            clear hDone
            obtain ⟨i, us2, hi, rfl, rfl, HI⟩ := hrel
            by_cases hlt : i < S.length
            · have hiI : (i : Int) < (S.length : Int) := by omega
              obtain ⟨hd1, hd2⟩ := hlk.out i hlt
              have hatl := hlt0.out i
              obtain ⟨hm1, hfb⟩ := S_at hSM.out i hlt
              obtain ⟨m1, m2, m3⟩ := mayB_spec hm1
              have hBq : Below w6.heap.size w6 wr := HI.out.1.bel
              obtain ⟨bl, off, A, c, i1, p1, q1, r1⟩ := ((hHF.out.keep hBq).mono hBq).at i hlt
              have hat1 := hlt0.out (i + 1)
              rw [hd2] at hat1
              have hD2 := hd_ hd2
              obtain ⟨at_, hatq⟩ : ∃ at_, (laidB (S.take i)).length = at_ := ⟨_, rfl⟩
              rw [hatq] at hd1 hatl hat1 hD2 ⊢
              obtain ⟨k, hk⟩ : ∃ k, (S.getD i (0, [])).1 = k := ⟨_, rfl⟩
              obtain ⟨body, hbd⟩ : ∃ body, (S.getD i (0, [])).2 = body := ⟨_, rfl⟩
              rw [hk] at p1 m1 m2 hd1
              rw [hbd] at q1 r1 m3 hd1 hat1 hfb hD2
              clear hk hbd hatq hd2 hm1 hBq
              generalize laidB (S.drop (i + 1)) = Rst at *
              have hLe := encB_length k body
              obtain ⟨de1, de2, de3, de4⟩ := dec_enc k body Rst m1 m3
              obtain ⟨oe1, oe2, oe3⟩ := one_enc k body m1 m3
              rw [← hd1] at de1 de2 de3 de4
              have hDE := hd_ (And.intro de1 (And.intro de2 (And.intro de3 de4)))
              have hOE := hd_ (And.intro oe1 (And.intro oe2 oe3))
              have hr1 := hd_ r1
              have hM3 := hd_ m3
              have hLE := hd_ hLe
              have hAtB : (at_ : Int) + ((body.length : Int) + 14) ≤ 5242897 := by omega
              have hAtL := hd_ hatl
              clear de1 de2 de3 de4 oe1 oe2 oe3 r1 hd1 hLe hatl
              go_wp2_with fail
              refine (frame_Encode_ok k _ body _ hr1.out m1 m2 m3).mono ?_
              rintro e w1 ⟨vx, rfl, HOx, HB1⟩
              have hO1 := hd_ (HI.out.1.fresh HB1 HOx (by rw [hLE.out]; have := hM3.out; omega))
              have hSp1 := hd_ (HI.out.2.1.keep HB1)
              have hU2 := hd_ HI.out.2.2
              have hr11 := hd_ (hr1.out.keep HB1)
              have p11 := cell_keep HB1 p1
              have q11 := cell_keep HB1 q1
              have hx1 := hd_ HOx.rd
              obtain ⟨Ax, cx, hvx, _⟩ := own_slice HOx
              subst hvx
              obtain ⟨u, hsu, hRu⟩ := hO1.out.fed.rd.sl_l Try.underlying24 info8 at_ hAtL.out
              have hsu : ∀ (W : World), Sem.run Try.prog (Instr.slice 24 (.slice (some ⟨gf, 0, none⟩) B.length capf) (some (Value.int IntKind.i64 (at_ : Int))) none none) W = Result.ok u W := hsu
              have hDec := hd_ (frame_Decode_any u (B.drop at_) w1 hRu)
              clear HOx HB1 HI p1 q1 hr1 hRu
              go_wp2_with fail
              refine hDec.out.mono ?_
              rintro e w2 ⟨vb, rfl, HOb, HB2⟩
              rw [hDE.out.1, hDE.out.2.1, hDE.out.2.2.1]
              rw [hDE.out.2.2.2] at HOb
              have hO2 := hd_ (hO1.out.fresh HB2 HOb (by have := hM3.out; omega))
              have hSp2 := hd_ (hSp1.out.keep HB2)
              have hr12 := hd_ (hr11.out.keep HB2)
              have p12 := cell_keep HB2 p11
              have q12 := cell_keep HB2 q11
              have hx2 := hd_ (hx1.out.keep HB2)
              have hb2 := hd_ HOb.rd
              obtain ⟨A2, c2, hv2, _⟩ := own_slice HOb
              subst hv2
              have hal := hd_ (al1 (Below.refl w2.heap.size w2) (.cells #[.int .i64 k, .slice A2 body.length c2] 28))
              have hbx := hd_ (Box.new w2 #[.int .i64 k, .slice A2 body.length c2] 28)
              have hO3 := hd_ (hO2.out.keep hal.out)
              have hSp3 := hd_ (hSp2.out.keep hal.out)
              have hr13 := hd_ (hr12.out.keep hal.out)
              have p13 := cell_keep hal.out p12
              have q13 := cell_keep hal.out q12
              have hx3 := hd_ (hx2.out.keep hal.out)
              have hb3 := hd_ (hb2.out.keep hal.out)
              clear HOb HB2 hO1 hSp1 hr11 p11 q11 hx1 hDec hO2 hSp2 hr12 p12 q12 hx2 hb2 hal
              go_upto_region 22 with fail
              generalize w2.alloc (.cells #[.int .i64 k, .slice A2 body.length c2] 28) = w3 at *
              generalize w2.heap.size = g17 at *
              go_wp2_with fail
              refine (frame_One_any _ _ _ hx3.out).mono ?_
              rintro e w4 ⟨vo, rfl, HOo, HB4⟩
              rw [hOE.out.1, hOE.out.2.1]
              rw [hOE.out.2.2] at HOo
              have hO4 := hd_ (hO3.out.fresh HB4 HOo (by have := hM3.out; omega))
              have hSp4 := hd_ (hSp3.out.keep HB4)
              have hr14 := hd_ (hr13.out.keep HB4)
              have p14 := cell_keep HB4 p13
              have q14 := cell_keep HB4 q13
              have hb4 := hd_ (hb3.out.keep HB4)
              have hbx4 := hd_ (hbx.out.keep HB4)
              have ho4 := hd_ HOo.rd
              obtain ⟨A4, c4, hv4, _⟩ := own_slice HOo
              subst hv4
              have hal := hd_ (al1 (Below.refl w4.heap.size w4) (.cells #[.int .i64 k, .slice A4 body.length c4] 28))
              have hby := hd_ (Box.new w4 #[.int .i64 k, .slice A4 body.length c4] 28)
              have hO5 := hd_ (hO4.out.keep hal.out)
              have hSp5 := hd_ (hSp4.out.keep hal.out)
              have hr15 := hd_ (hr14.out.keep hal.out)
              have p15 := cell_keep hal.out p14
              have q15 := cell_keep hal.out q14
              have hb5 := hd_ (hb4.out.keep hal.out)
              have ho5 := hd_ (ho4.out.keep hal.out)
              have hbx5 := hd_ (hbx4.out.keep hal.out)
              clear HOo HB4 hO3 hSp3 hr13 p13 q13 hb3 hbx hO4 hSp4 hr14 p14 q14 hb4 hbx4 ho4 hal hx3
              go_upto_region 23 with fail
              generalize w4.alloc (.cells #[.int .i64 k, .slice A4 body.length c4] 28) = w5' at *
              generalize w4.heap.size = g20 at *
              rw [hLE.out] at *
              refine region_J [] (fun W : World => W.cell? ⟨g17, 0, none⟩ = some (.int .i64 k) ∧ W.cell? ⟨g17, 1, none⟩ = some (.slice A2 body.length c2) ∧ W.cell? ⟨g20, 0, none⟩ = some (.int .i64 k) ∧ W.cell? ⟨g20, 1, none⟩ = some (.slice A4 body.length c4) ∧ W.cell? ⟨bl, off, none⟩ = some (.int .i64 k) ∧ W.cell? ⟨bl, off + 1, none⟩ = some (.slice A body.length c)) rfl ?_
              have hby5 := hby
              clear hby
              have hBd := hd_ ((Below.refl w5'.heap.size w5').drew)
              generalize w5'.drew = w6' at *
              have hO6 := hd_ (hO5.out.keep hBd.out)
              have hSp6 := hd_ (hSp5.out.keep hBd.out)
              have hr16 := hd_ (hr15.out.keep hBd.out)
              have hb6 := hd_ (hb5.out.keep hBd.out)
              have ho6 := hd_ (ho5.out.keep hBd.out)
              have hbx6 := hd_ (hbx5.out.keep hBd.out)
              have hby6 := hd_ (hby5.out.keep hBd.out)
              have p16 := cell_keep hBd.out p15
              have q16 := cell_keep hBd.out q15
              clear hO5 hSp5 hr15 hb5 ho5 hbx5 hby5 p15 q15
              have hC6 : (fun W : World => W.cell? ⟨g17, 0, none⟩ = some (.int .i64 k) ∧ W.cell? ⟨g17, 1, none⟩ = some (.slice A2 body.length c2) ∧ W.cell? ⟨g20, 0, none⟩ = some (.int .i64 k) ∧ W.cell? ⟨g20, 1, none⟩ = some (.slice A4 body.length c4) ∧ W.cell? ⟨bl, off, none⟩ = some (.int .i64 k) ∧ W.cell? ⟨bl, off + 1, none⟩ = some (.slice A body.length c)) w6' := ⟨hbx6.out.cell 0 rfl, hbx6.out.cell 1 rfl, hby6.out.cell 0 rfl, hby6.out.cell 1 rfl, p16, q16⟩
              refine take_JW 0 _ _ (v := ?_) rfl (by kernel_rfl) (by kernel_rfl) (by kernel_rfl) (by kernel_rfl) (fun _ _ _ h => h) rfl hC6 ?_ ?_
              rotate_left
              · intro W hC; obtain ⟨z1, z2, z3, z4, z5, z6⟩ := hC; go_simp; try with_reducible rfl
              simp only [Act.put, List.setIfInBounds_toArray, List.set_cons_zero, List.set_cons_succ]
              refine take_JW 1 _ _ (v := ?_) rfl (by kernel_rfl) (by kernel_rfl) (by kernel_rfl) (by kernel_rfl) (fun _ _ _ h => h) rfl hC6 ?_ ?_
              rotate_left
              · intro W hC; obtain ⟨z1, z2, z3, z4, z5, z6⟩ := hC; go_simp; try with_reducible rfl
              simp only [Act.put, List.setIfInBounds_toArray, List.set_cons_zero, List.set_cons_succ]
              refine take_JW 2 _ _ (v := ?_) rfl (by kernel_rfl) (by kernel_rfl) (by kernel_rfl) (by kernel_rfl) (fun _ _ _ h => h) rfl hC6 ?_ ?_
              rotate_left
              · intro W hC; obtain ⟨z1, z2, z3, z4, z5, z6⟩ := hC; go_simp; try with_reducible rfl
              simp only [Act.put, List.setIfInBounds_toArray, List.set_cons_zero, List.set_cons_succ]
              refine take_JW 3 _ _ (v := ?_) rfl (by kernel_rfl) (by kernel_rfl) (by kernel_rfl) (by kernel_rfl) (fun _ _ _ h => h) rfl hC6 ?_ ?_
              rotate_left
              · intro W hC; obtain ⟨z1, z2, z3, z4, z5, z6⟩ := hC; go_simp; try with_reducible rfl
              simp only [Act.put, List.setIfInBounds_toArray, List.set_cons_zero, List.set_cons_succ]
              refine take_JW 4 _ _ (v := ?_) rfl (by kernel_rfl) (by kernel_rfl) (by kernel_rfl) (by kernel_rfl) (fun _ _ _ h => h) rfl hC6 ?_ ?_
              rotate_left
              · intro W hC; obtain ⟨z1, z2, z3, z4, z5, z6⟩ := hC; go_simp; try with_reducible rfl
              simp only [Act.put, List.setIfInBounds_toArray, List.set_cons_zero, List.set_cons_succ]
              refine take_JW 5 _ _ (v := ?_) rfl (by kernel_rfl) (by kernel_rfl) (by kernel_rfl) (by kernel_rfl) (fun _ _ _ h => h) rfl hC6 ?_ ?_
              rotate_left
              · intro W hC; obtain ⟨z1, z2, z3, z4, z5, z6⟩ := hC; go_simp; try with_reducible rfl
              simp only [Act.put, List.setIfInBounds_toArray, List.set_cons_zero, List.set_cons_succ]
              refine take_JW 6 _ _ (v := ?_) rfl (by kernel_rfl) (by kernel_rfl) (by kernel_rfl) (by kernel_rfl) (fun _ _ _ h => h) rfl hC6 ?_ ?_
              rotate_left
              · intro W hC; obtain ⟨z1, z2, z3, z4, z5, z6⟩ := hC; go_simp; try with_reducible rfl
              simp only [Act.put, List.setIfInBounds_toArray, List.set_cons_zero, List.set_cons_succ]
              refine take_JW 7 _ _ (v := ?_) rfl (by kernel_rfl) (by kernel_rfl) (by kernel_rfl) (by kernel_rfl) (fun _ _ _ h => h) rfl hC6 ?_ ?_
              rotate_left
              · intro W hC; obtain ⟨z1, z2, z3, z4, z5, z6⟩ := hC; go_simp; try with_reducible rfl
              simp only [Act.put, List.setIfInBounds_toArray, List.set_cons_zero, List.set_cons_succ]
              refine take_JW 8 _ _ (v := ?_) rfl (by kernel_rfl) (by kernel_rfl) (by kernel_rfl) (by kernel_rfl) (fun _ _ _ h => h) rfl hC6 ?_ ?_
              rotate_left
              · intro W hC; obtain ⟨z1, z2, z3, z4, z5, z6⟩ := hC; go_simp; try with_reducible rfl
              simp only [Act.put, List.setIfInBounds_toArray, List.set_cons_zero, List.set_cons_succ]
              refine take_JW 9 _ _ (v := ?_) rfl (by kernel_rfl) (by kernel_rfl) (by kernel_rfl) (by kernel_rfl) (fun _ _ _ h => h) rfl hC6 ?_ ?_
              rotate_left
              · intro W hC; obtain ⟨z1, z2, z3, z4, z5, z6⟩ := hC; go_simp; try with_reducible rfl
              simp only [Act.put, List.setIfInBounds_toArray, List.set_cons_zero, List.set_cons_succ]
              refine take_JW 10 _ _ (v := ?_) rfl (by kernel_rfl) (by kernel_rfl) (by kernel_rfl) (by kernel_rfl) (fun _ _ _ h => h) rfl hC6 ?_ ?_
              rotate_left
              · intro W hC; obtain ⟨z1, z2, z3, z4, z5, z6⟩ := hC; go_simp; try with_reducible rfl
              simp only [Act.put, List.setIfInBounds_toArray, List.set_cons_zero, List.set_cons_succ]
              refine take_JW 11 _ _ (v := ?_) rfl (by kernel_rfl) (by kernel_rfl) (by kernel_rfl) (by kernel_rfl) (fun _ _ _ h => h) rfl hC6 ?_ ?_
              rotate_left
              · intro W hC; obtain ⟨z1, z2, z3, z4, z5, z6⟩ := hC; go_simp; try with_reducible rfl
              simp only [Act.put, List.setIfInBounds_toArray, List.set_cons_zero, List.set_cons_succ]
              refine take_JW 12 _ _ (v := ?_) rfl (by kernel_rfl) (by kernel_rfl) (by kernel_rfl) (by kernel_rfl) (fun _ _ _ h => h) rfl hC6 ?_ ?_
              rotate_left
              · intro W hC; obtain ⟨z1, z2, z3, z4, z5, z6⟩ := hC; go_simp; try with_reducible rfl
              simp only [Act.put, List.setIfInBounds_toArray, List.set_cons_zero, List.set_cons_succ]
              refine take_JW 13 _ _ (v := ?_) rfl (by kernel_rfl) (by kernel_rfl) (by kernel_rfl) (by kernel_rfl) (fun _ _ _ h => h) rfl hC6 ?_ ?_
              rotate_left
              · intro W hC; obtain ⟨z1, z2, z3, z4, z5, z6⟩ := hC; go_simp; try with_reducible rfl
              simp only [Act.put, List.setIfInBounds_toArray, List.set_cons_zero, List.set_cons_succ]
              refine take_JW 14 _ _ (v := ?_) rfl (by kernel_rfl) (by kernel_rfl) (by kernel_rfl) (by kernel_rfl) (fun _ _ _ h => h) rfl hC6 ?_ ?_
              rotate_left
              · intro W hC; obtain ⟨z1, z2, z3, z4, z5, z6⟩ := hC; go_simp; try with_reducible rfl
              simp only [Act.put, List.setIfInBounds_toArray, List.set_cons_zero, List.set_cons_succ]
              refine take_JW 15 _ _ (v := ?_) rfl (by kernel_rfl) (by kernel_rfl) (by kernel_rfl) (by kernel_rfl) (fun _ _ _ h => h) rfl hC6 ?_ ?_
              rotate_left
              · intro W hC; obtain ⟨z1, z2, z3, z4, z5, z6⟩ := hC; go_simp; try with_reducible rfl
              simp only [Act.put, List.setIfInBounds_toArray, List.set_cons_zero, List.set_cons_succ]
              refine ready_JW 16 _ _ rfl (by kernel_rfl) rfl (fun K hK => ?_)
              go_simp
              with_reducible refine (is_true k A2 body.length c2 A body.length c body _ hb6.out hr16.out).mono ?_
              rintro e w7 ⟨rfl, HBz⟩
              have hO7 := hd_ (hO6.out.keep HBz)
              have hSp7 := hd_ (hSp6.out.keep HBz)
              have hr17 := hd_ (hr16.out.keep HBz)
              have hb7 := hd_ (hb6.out.keep HBz)
              have ho7 := hd_ (ho6.out.keep HBz)
              have hbx7 := hd_ (hbx6.out.keep HBz)
              have hby7 := hd_ (hby6.out.keep HBz)
              have p17 := cell_keep HBz p16
              have q17 := cell_keep HBz q16
              clear hO6 hSp6 hr16 hb6 ho6 hbx6 hby6 p16 q16
              have hC7 : (fun W : World => W.cell? ⟨g17, 0, none⟩ = some (.int .i64 k) ∧ W.cell? ⟨g17, 1, none⟩ = some (.slice A2 body.length c2) ∧ W.cell? ⟨g20, 0, none⟩ = some (.int .i64 k) ∧ W.cell? ⟨g20, 1, none⟩ = some (.slice A4 body.length c4) ∧ W.cell? ⟨bl, off, none⟩ = some (.int .i64 k) ∧ W.cell? ⟨bl, off + 1, none⟩ = some (.slice A body.length c)) w7 := ⟨hbx7.out.cell 0 rfl, hbx7.out.cell 1 rfl, hby7.out.cell 0 rfl, hby7.out.cell 1 rfl, p17, q17⟩
              refine hK _ _ (fun _ => hC7) ?_
              clear hK K HBz hC6
              try simp only [Act.put, List.setIfInBounds_toArray, List.set_cons_zero, List.set_cons_succ]
              refine take_JW 17 _ _ (v := ?_) rfl (by kernel_rfl) (by kernel_rfl) (by kernel_rfl) (by kernel_rfl) (fun _ _ _ h => h) rfl hC7 ?_ ?_
              rotate_left
              · intro W hC; obtain ⟨z1, z2, z3, z4, z5, z6⟩ := hC; go_simp; try with_reducible rfl
              simp only [Act.put, List.setIfInBounds_toArray, List.set_cons_zero, List.set_cons_succ]
              refine take_JW 18 _ _ (v := ?_) rfl (by kernel_rfl) (by kernel_rfl) (by kernel_rfl) (by kernel_rfl) (fun _ _ _ h => h) rfl hC7 ?_ ?_
              rotate_left
              · intro W hC; obtain ⟨z1, z2, z3, z4, z5, z6⟩ := hC; go_simp; try with_reducible rfl
              simp only [Act.put, List.setIfInBounds_toArray, List.set_cons_zero, List.set_cons_succ]
              refine take_JW 19 _ _ (v := ?_) rfl (by kernel_rfl) (by kernel_rfl) (by kernel_rfl) (by kernel_rfl) (fun _ _ _ h => h) rfl hC7 ?_ ?_
              rotate_left
              · intro W hC; obtain ⟨z1, z2, z3, z4, z5, z6⟩ := hC; go_simp; try with_reducible rfl
              simp only [Act.put, List.setIfInBounds_toArray, List.set_cons_zero, List.set_cons_succ]
              refine take_JW 20 _ _ (v := ?_) rfl (by kernel_rfl) (by kernel_rfl) (by kernel_rfl) (by kernel_rfl) (fun _ _ _ h => h) rfl hC7 ?_ ?_
              rotate_left
              · intro W hC; obtain ⟨z1, z2, z3, z4, z5, z6⟩ := hC; go_simp; try with_reducible rfl
              simp only [Act.put, List.setIfInBounds_toArray, List.set_cons_zero, List.set_cons_succ]
              refine take_JW 21 _ _ (v := ?_) rfl (by kernel_rfl) (by kernel_rfl) (by kernel_rfl) (by kernel_rfl) (fun _ _ _ h => h) rfl hC7 ?_ ?_
              rotate_left
              · intro W hC; obtain ⟨z1, z2, z3, z4, z5, z6⟩ := hC; go_simp; try with_reducible rfl
              simp only [Act.put, List.setIfInBounds_toArray, List.set_cons_zero, List.set_cons_succ]
              refine take_JW 22 _ _ (v := ?_) rfl (by kernel_rfl) (by kernel_rfl) (by kernel_rfl) (by kernel_rfl) (fun _ _ _ h => h) rfl hC7 ?_ ?_
              rotate_left
              · intro W hC; obtain ⟨z1, z2, z3, z4, z5, z6⟩ := hC; go_simp; try with_reducible rfl
              simp only [Act.put, List.setIfInBounds_toArray, List.set_cons_zero, List.set_cons_succ]
              refine take_JW 23 _ _ (v := ?_) rfl (by kernel_rfl) (by kernel_rfl) (by kernel_rfl) (by kernel_rfl) (fun _ _ _ h => h) rfl hC7 ?_ ?_
              rotate_left
              · intro W hC; obtain ⟨z1, z2, z3, z4, z5, z6⟩ := hC; go_simp; try with_reducible rfl
              simp only [Act.put, List.setIfInBounds_toArray, List.set_cons_zero, List.set_cons_succ]
              refine take_JW 24 _ _ (v := ?_) rfl (by kernel_rfl) (by kernel_rfl) (by kernel_rfl) (by kernel_rfl) (fun _ _ _ h => h) rfl hC7 ?_ ?_
              rotate_left
              · intro W hC; obtain ⟨z1, z2, z3, z4, z5, z6⟩ := hC; go_simp; try with_reducible rfl
              simp only [Act.put, List.setIfInBounds_toArray, List.set_cons_zero, List.set_cons_succ]
              refine ready_JW 25 _ _ rfl (by kernel_rfl) rfl (fun K hK => ?_)
              go_simp
              with_reducible refine (is_true k A4 body.length c4 A body.length c body _ ho7.out hr17.out).mono ?_
              rintro e w8 ⟨rfl, HBz⟩
              have hO8 := hd_ (hO7.out.keep HBz)
              have hSp8 := hd_ (hSp7.out.keep HBz)
              have hr18 := hd_ (hr17.out.keep HBz)
              have hb8 := hd_ (hb7.out.keep HBz)
              have ho8 := hd_ (ho7.out.keep HBz)
              have hbx8 := hd_ (hbx7.out.keep HBz)
              have hby8 := hd_ (hby7.out.keep HBz)
              have p18 := cell_keep HBz p17
              have q18 := cell_keep HBz q17
              clear hO7 hSp7 hr17 hb7 ho7 hbx7 hby7 p17 q17
              have hC8 : (fun W : World => W.cell? ⟨g17, 0, none⟩ = some (.int .i64 k) ∧ W.cell? ⟨g17, 1, none⟩ = some (.slice A2 body.length c2) ∧ W.cell? ⟨g20, 0, none⟩ = some (.int .i64 k) ∧ W.cell? ⟨g20, 1, none⟩ = some (.slice A4 body.length c4) ∧ W.cell? ⟨bl, off, none⟩ = some (.int .i64 k) ∧ W.cell? ⟨bl, off + 1, none⟩ = some (.slice A body.length c)) w8 := ⟨hbx8.out.cell 0 rfl, hbx8.out.cell 1 rfl, hby8.out.cell 0 rfl, hby8.out.cell 1 rfl, p18, q18⟩
              refine hK _ _ (fun _ => hC8) ?_
              clear hK K HBz hC7
              try simp only [Act.put, List.setIfInBounds_toArray, List.set_cons_zero, List.set_cons_succ]
              refine take_JW 26 _ _ (v := ?_) rfl (by kernel_rfl) (by kernel_rfl) (by kernel_rfl) (by kernel_rfl) (fun _ _ _ h => h) rfl hC8 ?_ ?_
              rotate_left
              · intro W hC; obtain ⟨z1, z2, z3, z4, z5, z6⟩ := hC; go_simp; try with_reducible rfl
              simp only [Act.put, List.setIfInBounds_toArray, List.set_cons_zero, List.set_cons_succ]
              refine take_JW 27 _ _ (v := ?_) rfl (by kernel_rfl) (by kernel_rfl) (by kernel_rfl) (by kernel_rfl) (fun _ _ _ h => h) rfl hC8 ?_ ?_
              rotate_left
              · intro W hC; obtain ⟨z1, z2, z3, z4, z5, z6⟩ := hC; go_simp; try with_reducible rfl
              simp only [Act.put, List.setIfInBounds_toArray, List.set_cons_zero, List.set_cons_succ]
              refine wpAnyJ_done (by kernel_rfl) ?_ _
              clear hC8
              have y17 := hbx8.out.cell 1 (v := .slice A2 body.length c2) rfl
              have y20 := hby8.out.cell 1 (v := .slice A4 body.length c4) rfl
              go_upto_region 25 with fail
              have hal3 := hd_ (al1 (Below.refl w8.heap.size w8) (.cells #[.slice Ax (body.length + 14) cx, .slice A2 body.length c2, .slice A4 body.length c4] 24))
              have hRn3 := hd_ (rdc_new w8 [.slice Ax (body.length + 14) cx, .slice A2 body.length c2, .slice A4 body.length c4] 24 3 rfl (by decide))
              have hO9 := hd_ (hO8.out.keep hal3.out)
              have hSp9 := hd_ (hSp8.out.keep hal3.out)
              have hbs3 : Hid ((us2.length + 3) * 24 ≤ 140737488355328) := hd_ (by have := hU2.out; have := hrdU.out; omega)
              clear hO8 hSp8 hal3
              go_wp2_with (at_builtin; refine app_rd w6.heap.size rfl _ _ 76 24 (.slice none 0 0) 1 24 rfl Try.underlying76 infoSl rfl (by omega) u6 _ us2.length 3 us2 [.slice Ax (body.length + 14) cx, .slice A2 body.length c2, .slice A4 body.length c4] rfl rfl hO9.out.hel.1 hRn3.out (by intro u hu; simp only [List.mem_cons, List.not_mem_nil, or_false] at hu; rcases hu with rfl | rfl | rfl <;> rfl) hO9.out.bel.size (by omega) hbs3.out ?_; intro v10 w10 HO10 hg10 hat10; have hO10 := hd_ (hO9.out.took (ds := [.slice Ax (body.length + 14) cx, .slice A2 body.length c2, .slice A4 body.length c4]) (ext := []) HO10 hg10); have hSp10 := hd_ (hO9.out.splb hSp9.out hg10); clear HO10 hg10 hat10)
              go_roundw
              case rel => exact ⟨i + 1, _, by omega, by go_num, by rw [hD2.out]; go_num, hd_ ⟨hO10.out, hSp10.out, by rw [List.length_append]; have := hU2.out; simp only [List.length_cons, List.length_nil]; omega⟩⟩
              case measure => (simp [intOf]; try omega)
            · obtain rfl : i = S.length := by omega
              have hSc0 := hSC.out
              have hFe := Feed_anyB 0 g 2000 [] B 0 0 (.slice (some ⟨gf, 0, none⟩) B.length capf) wr HI.out.2.1 HI.out.1.fed.rd (by decide) (by rw [List.length_nil]; omega) (by rw [List.length_nil]; omega) (by rw [List.length_nil]; omega)
              rw [List.nil_append, hSc0] at hFe
              have hFe := hd_ hFe
              have hU3 := hd_ HI.out.2.2
              have hO0 := hd_ HI.out.1
              clear hSc0 HI
              go_wp2_with fail
              refine hFe.out.mono ?_
              rintro e w1 ⟨lv2, rfl, HS1, HF1, HG1⟩
              simp only at HS1 HF1
              obtain ⟨gs2, hgl2, hO1⟩ := hO0.out.again HG1 hg6.out (by obtain ⟨vq, hq, _⟩ := HS1; exact ⟨_, hq⟩) HF1 hSF.out
              have hO1 := hd_ hO1
              have hgl2 := hd_ hgl2
              have hF1 := hd_ HF1.l
              have hgfb : Hid (gf < wr.heap.size) := hd_ (hO0.out.fed.2.lt gf rfl).2
              obtain ⟨Al2, cl2, rfl⟩ := hF1.out.len
              have hlenL2 := hF1.out.lenF9
              clear HS1 HF1 HG1 hFe hO0 hlenL
              generalize wr.heap.size = bs at *
              go_wp2
              go_loopw [23] (fun vi wq => ∃ (i : Nat) (B' : List Int), i ≤ B.length ∧ vi = .int .i64 (i : Int) ∧ Hid (B'.length = B.length ∧ OwnSt w6 wq u6 us2 gs2 g gf capf B' (.slice Al2 S.length cl2) S gs2 ∧ FrL wq bs 28 5 (.slice Al2 S.length cl2) S)) (fun vi _ => B.length - (intOf vi).toNat)
              case atStart => exact ⟨0, B, Nat.zero_le _, rfl, hd_ ⟨rfl, hO1.out, hF1.out⟩⟩
              case round =>
                clear hO1 hF1
                obtain ⟨i, B', hi, rfl, HI⟩ := hrel
                by_cases hlt : i < B.length
                · have hiI : (i : Int) < (B.length : Int) := by omega
                  obtain ⟨hP, hPg⟩ := HI.out.2.1.put i 77 (by decide) (by decide)
                  have hFk := hd_ (HI.out.2.2.kept hPg hgfb.out)
                  have hPh := hd_ hP
                  obtain ⟨g', cap', hv', _, hle', hcap', hx1, hx2⟩ := HI.out.2.1.fed.slot (by intro h; have := HI.out.1; rw [h] at this; simp at this; omega)
                  injection hv' with e1 e2 e3
                  injection e1 with e1
                  injection e1 with e1
                  subst e1
                  subst e3
                  have hc9 := hx1 i (by rw [HI.out.1]; exact hlt)
                  have hz9 := hx2 i
                  have hBl := hd_ HI.out.1
                  rw [HI.out.1] at hle'
                  clear hP hPg hx1 hx2 e2 HI
                  go_wp2
                  go_roundw
                  case rel => exact ⟨i + 1, _, by omega, by go_num, hd_ ⟨by rw [List.length_set]; exact hBl.out, hPh.out, hFk.out⟩⟩
                  case measure => (simp [intOf]; try omega)
                · obtain rfl : i = B.length := by omega
                  have hO1 := hd_ HI.out.2.1
                  have hF1 := hd_ HI.out.2.2
                  have hBq : Below w6.heap.size w6 wr := HI.out.2.1.bel
                  have hS2r := hd_ ((hHF.out.keep hBq).mono hBq)
                  clear HI hBq
                  go_wp2_with ((go_at_call 41; with_reducible refine (alike_rd _ sv S _ hF1.out.rdf hS2r.out).mono ?_); rintro e w3 ⟨rfl, HB3⟩; have hO3 := hd_ (hO1.out.keep HB3); clear HB3)
                  clear hO1 hF1 hS2r
                  go_wp2
                  go_loopw [6, 24] (fun vh vi wq => ∃ (i : Nat), i ≤ S.length ∧ vi = .int .i64 (i : Int) ∧ Hid (OwnSt w6 wq vh (us2 ++ gs2.take i) (gs2.drop i) g gf capf B' (.slice Al2 S.length cl2) S gs2)) (fun _ vi _ => S.length - (intOf vi).toNat)
                  case atStart => exact ⟨0, Nat.zero_le _, rfl, hd_ (by rw [List.take_zero, List.append_nil, List.drop_zero]; exact hO3.out)⟩
                  case round =>
                    clear hO3
                    obtain ⟨i, hi, rfl, HI⟩ := hrel
                    by_cases hlt : i < S.length
                    · have hiI : (i : Int) < (S.length : Int) := by omega
                      obtain ⟨bl, off, i1, c1⟩ := got_at HI.out.got hgl2.out i hlt
                      have ht1 := hd_ (take_one (gs := gs2) (i := i) (by rw [hgl2.out]; exact hlt))
                      have hd1 := drop_one (gs := gs2) (i := i) (by rw [hgl2.out]; exact hlt)
                      rw [hd1] at HI
                      have hil := hd_ (show (us2 ++ gs2.take i).length = us2.length + i by rw [List.length_append, List.length_take, hgl2.out]; omega)
                      obtain ⟨u, hu⟩ : ∃ u, gs2.getD i undef = u := ⟨_, rfl⟩
                      rw [hu] at c1 ht1 HI
                      obtain ⟨A9, n9, c9, e9⟩ : ∃ A9 n9 c9, u = .slice A9 n9 c9 := by
                        obtain ⟨xs9, hx9, _⟩ := HI.out.hel.2.1 u (by simp)
                        obtain ⟨A9, c9, e9, _⟩ := own_slice hx9
                        exact ⟨_, _, _, e9⟩
                      subst e9
                      have hal9 := hd_ (al1 (Below.refl wr.heap.size wr) (.cells #[.slice A9 n9 c9] 24))
                      have hRn9 := hd_ (rdc_new wr [.slice A9 n9 c9] 24 1 rfl (by decide))
                      have hOk := hd_ (HI.out.keep hal9.out)
                      have hbs9 : Hid (((us2 ++ gs2.take i).length + 1) * 24 ≤ 140737488355328) := hd_ (by rw [hil.out]; have := hrdU.out; have := hU3.out; omega)
                      clear HI hu hd1 hal9
                      go_wp2_with (at_builtin; refine app_rd w6.heap.size rfl _ _ 76 24 (.slice none 0 0) 1 24 rfl Try.underlying76 infoSl rfl (by omega) u6 _ (us2 ++ gs2.take i).length 1 (us2 ++ gs2.take i) [.slice A9 n9 c9] rfl rfl hOk.out.hel.1 hRn9.out (by intro y hy; rw [List.mem_singleton] at hy; rw [hy]; rfl) hOk.out.bel.size (by omega) hbs9.out ?_; intro v9 w9 HO9 hg9 hat9; have hO9 := hd_ (hOk.out.took (ds := [.slice A9 n9 c9]) HO9 hg9); clear HO9 hg9 hat9)
                      go_roundw
                      case rel => exact ⟨i + 1, by omega, by go_num, hd_ (by rw [ht1.out, ← List.append_assoc]; exact hO9.out)⟩
                      case measure => (simp [intOf]; try omega)
                    · obtain rfl : i = S.length := by omega
                      have hDone := HI.out
                      rw [show gs2.take S.length = gs2 by rw [← hgl2.out, List.take_length], show gs2.drop S.length = [] by rw [← hgl2.out, List.drop_length]] at hDone
                      have hDone := hd_ hDone
                      clear HI
                      go_wp2
                      go_roundw
                      case rel => exact ⟨rd + 1, us2 ++ gs2, hR2.out, by go_num, hd_ ⟨hDone.out.hel, by rw [List.length_append, hgl2.out, hmul.out]; have h1 := hU3.out; have h2 := hU0.out; rw [hqq.out] at h2; omega, hDone.out.bel⟩⟩
                      case measure => (simp [intOf]; try omega)
    · obtain rfl : rd = 2 := by omega
      have hfin := hd_ (held_apart HI.out.1 HI.out.2.2 (by rw [HI.out.2.1]; have := hSN.out; omega) (by rw [HI.out.2.1]; have := hSN.out; omega))
      clear HI
      go_wp2_with fail
      refine hfin.out.mono ?_
      rintro e w9 ⟨rfl, HB9⟩
      go_wp2
      go_ret
      exact ⟨rfl, bel_trans hBw.out HB9⟩
end Go.Proofs.Ytilmmohkdgmhnaa
