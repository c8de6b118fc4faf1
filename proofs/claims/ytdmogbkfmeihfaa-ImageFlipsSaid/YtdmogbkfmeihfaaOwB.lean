/- The document's Own: marks, and the state of the lists. -/
import Derived.Test.YtdmogbkfmeihfaaOwA
namespace Go.Proofs.Ytdmogbkfmeihfaa
open Go.RowKit
set_option maxRecDepth 100000
set_option linter.unusedVariables false
def mkB (i k : Nat) : Int := ((i * 37 + k * 11 + 5 : Nat) : Int) % 256
def mkL (i n : Nat) : List Int := (List.range n).map (mkB i)
theorem mkB_byte (i k : Nat) : 0 ≤ mkB i k ∧ mkB i k < 256 := by unfold mkB; omega
theorem mkL_length (i n : Nat) : (mkL i n).length = n := by unfold mkL; simp
theorem mkL_bytes (i n : Nat) : IsBytes (mkL i n) := by
  intro b hb
  unfold mkL at hb
  obtain ⟨k, _, rfl⟩ := List.mem_map.1 hb
  exact mkB_byte i k
theorem mkL_succ (i n : Nat) : mkL i (n + 1) = mkL i n ++ [mkB i n] := by unfold mkL; rw [List.range_succ, List.map_append]; rfl
theorem mkL_getD (i n k : Nat) (h : k < n) : (mkL i n).getD k 0 = mkB i k := by
  unfold mkL
  rw [List.getD_eq_getElem?_getD, List.getElem?_map, List.getElem?_range h]
  rfl
theorem mkL_set (i k : Nat) (L : List Int) (h : k < L.length) : (mkL i k ++ L.drop k).set k (mkB i k) = mkL i (k + 1) ++ L.drop (k + 1) := by
  rw [List.set_append_right _ _ (by rw [mkL_length]; exact Nat.le_refl _), mkL_length, Nat.sub_self, List.drop_eq_getElem_cons h, List.set_cons_zero, mkL_succ, List.append_assoc]
  rfl
theorem mark_any (a b : Nat) (ha : a ≤ 1000000) (hb : b ≤ 281474976710656) (w : World) : Calls Try.prog 49 #[.int .i64 (a : Int), .int .i64 (b : Int)] w fun e w' => e = .returned (.int .u8 (mkB a b)) ∧ w = w' := by
  have w1 : wrap64 ((a : Int) * 37) = (a : Int) * 37 := by unfold wrap64; omega
  have w2 : wrap64 ((b : Int) * 11) = (b : Int) * 11 := by unfold wrap64; omega
  have w3 : wrap64 ((a : Int) * 37 + (b : Int) * 11) = (a : Int) * 37 + (b : Int) * 11 := by unfold wrap64; omega
  have w4 : wrap64 ((a : Int) * 37 + (b : Int) * 11 + 5) = (a : Int) * 37 + (b : Int) * 11 + 5 := by unfold wrap64; omega
  have w5 : IntKind.u8.wrap ((a : Int) * 37 + (b : Int) * 11 + 5) = mkB a b := by rw [IntKind.wrap_u8]; unfold mkB; omega
  go_enter Try.func49, Try.ntmps49
  go_wp2
  go_ret
  exact ⟨by first | rfl | (simp [w1, w2, w3, w4, w5]) | (congr 2; unfold mkB; omega), rfl⟩
/-- the lists' forms: nil, or the beginning of a variable that was there -/
def VF (w0 : World) (n : Nat) (vs : Nat → Value) (ls : Nat → Nat) : Prop :=
  ∀ j, j < n → (vs j = .slice none 0 0 ∧ ls j = 0) ∨ ∃ g cap, vs j = .slice (some ⟨g, 0, none⟩) (ls j) cap ∧ ls j ≤ cap ∧ cap ≤ maxLen ∧ g < w0.heap.size
theorem VF.lt {w0 : World} {n : Nat} {vs : Nat → Value} {ls : Nat → Nat} (F : VF w0 n vs ls) (j : Nat) (hj : j < n) (b : Nat) (hb : (vs j).ownBlock = some b) : b < w0.heap.size := by
  rcases F j hj with ⟨h, _⟩ | ⟨g, cap, h, _, _, h4⟩
  · rw [h] at hb; cases hb
  · rw [h] at hb
    have : some g = some b := hb
    injection this with this
    omega
structure OwS (w0 W : World) (n : Nat) (vs : Nat → Value) (ls : Nat → Nat) (ws : Nat → Value) (ys : Nat → List Int) : Prop where
  own : ∀ j, j < n → OwnN W (ws j) (ys j)
  rd : ∀ j, j < n → Rd W (vs j) (mkL j (ls j))
  apart : ∀ i j, i < n → j < n → i ≠ j → ∀ b, (ws i).ownBlock = some b → (ws j).ownBlock ≠ some b ∧ (vs j).ownBlock ≠ some b
  old : ∀ j, j < n → ∀ b, (ws j).ownBlock = some b → (vs j).ownBlock = some b ∨ w0.heap.size ≤ b
  pre : ∀ j, j < n → ∀ b, (ws j).ownBlock = some b → (vs j).ownBlock = some b → ∃ zs, ys j = mkL j (ls j) ++ zs
  chg : Chg (fun b => ∃ j, j < n ∧ (vs j).ownBlock = some b) w0 W
section
variable {w0 W W1 : World} {n : Nat} {vs : Nat → Value} {ls : Nat → Nat} {ws : Nat → Value} {ys : Nat → List Int}
theorem OwS.other (F : VF w0 n vs ls) (h : OwS w0 W n vs ls ws ys) {T : Nat → Prop} (hc : Chg T W W1) (hT : ∀ b, T b → w0.heap.size ≤ b) (h1 : ∀ j, j < n → ∀ b, (ws j).ownBlock = some b → ¬ T b) : OwS w0 W1 n vs ls ws ys :=
  ⟨fun j hj => (h.own j hj).chg hc (h1 j hj), fun j hj => (h.rd j hj).chg hc (fun b hb ht => by have := F.lt j hj b hb; have := hT b ht; omega), h.apart, h.old, h.pre, h.chg.trans hc (fun b hb ht => by have := hT b ht; omega)⟩
theorem OwS.keep (h : OwS w0 W n vs ls ws ys) (hb : Below W.heap.size W W1) : OwS w0 W1 n vs ls ws ys :=
  ⟨fun j hj => (h.own j hj).keep hb, fun j hj => (h.rd j hj).keep hb, h.apart, h.old, h.pre, h.chg.trans (Chg.below (S := fun _ => False) hb) (fun _ _ h => h.elim)⟩
theorem OwS.fresh (F : VF w0 n vs ls) (h : OwS w0 W n vs ls ws ys) (i : Nat) (hi : i < n) (v1 : Value) (L : List Int) (hO : OwnN W1 v1 L) (hf : ∀ k, v1.ownBlock = some k → W.heap.size ≤ k) (hb : Below W.heap.size W W1) : OwS w0 W1 n vs ls (upd ws i v1) (updL ys i L) := by
  have hs := h.chg.size
  refine ⟨fun j hj => ?_, fun j hj => (h.rd j hj).keep hb, fun a b ha hb2 hab c hc => ?_, fun j hj c hc => ?_, fun j hj c hc hv => ?_, h.chg.trans (Chg.below (S := fun _ => False) hb) (fun _ _ h => h.elim)⟩
  · by_cases e : j = i
    · subst e; rw [upd_self, updL_self]; exact hO
    · rw [upd_ne _ _ _ _ e, updL_ne _ _ _ _ e]; exact (h.own j hj).keep hb
  · by_cases e : a = i
    · subst e
      rw [upd_self] at hc
      have hge := hf c hc
      rw [upd_ne _ _ _ _ (fun x => hab x.symm)]
      exact ⟨fun h2 => by have := (h.own b hb2).lt c h2; omega, fun h2 => by have := F.lt b hb2 c h2; omega⟩
    · rw [upd_ne _ _ _ _ e] at hc
      by_cases e2 : b = i
      · subst e2
        rw [upd_self]
        have hlt := (h.own a ha).lt c hc
        exact ⟨fun h2 => by have := hf c h2; omega, (h.apart a b ha hb2 hab c hc).2⟩
      · rw [upd_ne _ _ _ _ e2]; exact h.apart a b ha hb2 hab c hc
  · by_cases e : j = i
    · subst e
      rw [upd_self] at hc
      exact .inr (Nat.le_trans hs (hf c hc))
    · rw [upd_ne _ _ _ _ e] at hc; exact h.old j hj c hc
  · by_cases e : j = i
    · subst e
      rw [upd_self] at hc
      have := hf c hc
      have := F.lt j hj c hv
      omega
    · rw [upd_ne _ _ _ _ e] at hc; rw [updL_ne _ _ _ _ e]; exact h.pre j hj c hc hv
theorem rd_alias {W : World} {v v1 : Value} {b cap : Nat} {M Z : List Int} (hv : v = .slice (some ⟨b, 0, none⟩) M.length cap) (hO : OwnN W v1 (M ++ Z)) (hb : v1.ownBlock = some b) (h1 : M.length ≤ cap) (h2 : cap ≤ maxLen) : Rd W v M := by
  rcases hO with ⟨h, _⟩ | ⟨k0, g, c, hv1, _, _, _, _, k5, _, _⟩
  · rw [h] at hb; cases hb
  · rw [hv1] at hb
    have hgb : some g = some b := hb
    injection hgb with hgb
    subst hgb
    subst hv
    refine ⟨fun x hx => k0 x (List.mem_append_left _ hx), by rw [nums8_length, Nat.mul_one], _, _, rfl, h1, h2, (fun h => by cases h), fun j hj => ⟨g, 0, rfl, ?_⟩⟩
    rw [nums8_length] at hj
    rw [Nat.zero_add, k5 j (by rw [List.length_append]; omega), nums8_get M j hj, List.getD_eq_getElem?_getD, List.getElem?_append_left hj, List.getD_eq_getElem?_getD]
theorem OwS.app (F : VF w0 n vs ls) (h : OwS w0 W n vs ls ws ys) (i : Nat) (hi : i < n) (v1 : Value) (zs : List Int) (hO : OwnN W1 v1 (ys i ++ zs))
    (hc : (v1.ownBlock = (ws i).ownBlock ∧ Chg (fun k => (ws i).ownBlock = some k) W W1) ∨ ((∀ k, v1.ownBlock = some k → W.heap.size ≤ k) ∧ Below W.heap.size W W1)) : OwS w0 W1 n vs ls (upd ws i v1) (updL ys i (ys i ++ zs)) := by
  rcases hc with ⟨hs, hc⟩ | ⟨hf, hb⟩
  · refine ⟨fun j hj => ?_, fun j hj => ?_, fun a b ha hb2 hab c hc2 => ?_, fun j hj c hc2 => ?_, fun j hj c hc2 hv => ?_, h.chg.trans hc (fun b hb e => ?_)⟩
    · by_cases e : j = i
      · subst e; rw [upd_self, updL_self]; exact hO
      · rw [upd_ne _ _ _ _ e, updL_ne _ _ _ _ e]
        exact (h.own j hj).chg hc (fun k hk e2 => (h.apart i j hi hj (fun x => e x.symm) k e2).1 hk)
    · by_cases e : j = i
      · subst e
        by_cases hal : ∃ b, (ws j).ownBlock = some b ∧ (vs j).ownBlock = some b
        · obtain ⟨b, hb1, hb2⟩ := hal
          obtain ⟨Z, hZ⟩ := h.pre j hj b hb1 hb2
          rcases F j hj with ⟨hn, _⟩ | ⟨g, cap, hv, k1, k2, _⟩
          · rw [hn] at hb2; cases hb2
          · rw [hv] at hb2
            have hgb : some g = some b := hb2
            injection hgb with hgb
            subst hgb
            rw [hZ, List.append_assoc] at hO
            have hml := mkL_length j (ls j)
            exact rd_alias (by rw [hml]; exact hv) hO (hs.trans hb1) (by rw [hml]; exact k1) k2
        · exact (h.rd j hj).chg hc (fun k hk e2 => hal ⟨k, e2, hk⟩)
      · exact (h.rd j hj).chg hc (fun k hk e2 => (h.apart i j hi hj (fun x => e x.symm) k e2).2 hk)
    · have e0 : ∀ a, ((upd ws i v1) a).ownBlock = (ws a).ownBlock := fun a => by
        by_cases e : a = i
        · subst e; rw [upd_self]; exact hs
        · rw [upd_ne _ _ _ _ e]
      rw [e0] at hc2 ⊢
      exact h.apart a b ha hb2 hab c hc2
    · by_cases e : j = i
      · subst e; rw [upd_self, hs] at hc2; exact h.old j hj c hc2
      · rw [upd_ne _ _ _ _ e] at hc2; exact h.old j hj c hc2
    · by_cases e : j = i
      · subst e
        rw [upd_self, hs] at hc2
        rw [updL_self]
        obtain ⟨Z, hZ⟩ := h.pre j hj c hc2 hv
        exact ⟨Z ++ zs, by rw [hZ, List.append_assoc]⟩
      · rw [upd_ne _ _ _ _ e] at hc2; rw [updL_ne _ _ _ _ e]; exact h.pre j hj c hc2 hv
    · rcases h.old i hi b e with e2 | e2
      · exact ⟨i, hi, e2⟩
      · omega
  · exact h.fresh F i hi v1 _ hO hf hb
end
/-- the first part: the lists are written over, one byte at a time -/
structure OwP (w0 W : World) (n : Nat) (vs : Nat → Value) (ls : Nat → Nat) (ys : Nat → List Int) : Prop where
  own : ∀ j, j < n → OwnN W (vs j) (ys j)
  len : ∀ j, j < n → (ys j).length = ls j
  chg : Chg (fun b => ∃ j, j < n ∧ (vs j).ownBlock = some b) w0 W
section
variable {w0 W W1 : World} {n : Nat} {vs : Nat → Value} {ls : Nat → Nat} {ys : Nat → List Int}
theorem OwP.keep (h : OwP w0 W n vs ls ys) (hb : Below W.heap.size W W1) : OwP w0 W1 n vs ls ys :=
  ⟨fun j hj => (h.own j hj).keep hb, h.len, h.chg.trans (Chg.below (S := fun _ => False) hb) (fun _ _ h => h.elim)⟩
theorem OwP.put (h : OwP w0 W n vs ls ys) (hd : ∀ i j, i < n → j < n → i ≠ j → ∀ b, (vs i).ownBlock = some b → (vs j).ownBlock ≠ some b) (i : Nat) (hi : i < n) (g len cap : Nat) (hv : vs i = .slice (some ⟨g, 0, none⟩) len cap) (k : Nat) (hk : k < (ys i).length) (b : Int) (h0 : 0 ≤ b) (h1 : b < 256) :
    OwP w0 (W.setCell ⟨g, k, none⟩ (.int .u8 b)) n vs ls (updL ys i ((ys i).set k b)) := by
  have hc := chg_put W g k (.int .u8 b)
  have hown : (vs i).ownBlock = some g := by rw [hv]; rfl
  refine ⟨fun j hj => ?_, fun j hj => ?_, h.chg.trans hc (fun c _ e => ⟨i, hi, by rw [e]; exact hown⟩)⟩
  · by_cases e : j = i
    · subst e
      rw [updL_self]
      rcases h.own j hj with ⟨h2, _⟩ | h2
      · rw [h2] at hown; cases hown
      · rw [hv] at h2 ⊢
        exact .inr (h2.put k hk b h0 h1)
    · rw [updL_ne _ _ _ _ e]
      exact (h.own j hj).chg hc (fun c hc2 e2 => hd j i hj hi e c hc2 (by rw [e2]; exact hown))
  · by_cases e : j = i
    · subst e; rw [updL_self, List.length_set]; exact h.len j hj
    · rw [updL_ne _ _ _ _ e]; exact h.len j hj
/-- all are written over -/
theorem OwP.done (h : OwP w0 W n vs ls ys) (hd : ∀ i j, i < n → j < n → i ≠ j → ∀ b, (vs i).ownBlock = some b → (vs j).ownBlock ≠ some b) (hm : ∀ j, j < n → ys j = mkL j (ls j)) : OwS w0 W n vs ls vs ys :=
  ⟨h.own, fun j hj => by rw [← hm j hj]; exact (h.own j hj).rd, fun i j hi hj hij b hb => ⟨hd i j hi hj hij b hb, hd i j hi hj hij b hb⟩, fun j hj b hb => .inl hb, fun j hj b _ _ => ⟨[], by rw [hm j hj, List.append_nil]⟩, h.chg⟩
end
section
variable {P : Program} {ops : Array Oper} {rest : List Oper} {o : Oper} {a : Act} {K : Act → World → Prop} {Q : Exit → Act → World → Prop}
theorem make_crow {W : World} (hg : o.guard = none) (l c : Operand) (t e : TypeId) (hop : o.op = Op.makeSlice t l c)
    (ht : P.underlying t = some (.slice e)) (hinfo : (P.info? e).map (fun i => (i.zero, i.size, i.bytes)) = some (some (.slice none 0 0), 1, 24)) (n : Nat) (hl : a.eval l = .int .i64 (n : Int)) (hc : a.eval c = .int .i64 (n : Int)) (hn : n ≤ 1000)
    (h : ∀ w1, CRow w1 W.heap.size n (fun _ => .slice none 0 0) → Below W.heap.size W w1 → wpList P ops Q rest (a.put o.dst (.slice (some ⟨W.heap.size, 0, none⟩) n n)) w1) :
    wpList P ops Q (o :: rest) a W := by
  obtain ⟨i0, hi, hz0, hz1, hz2⟩ := info_parts hinfo
  refine wpList_make_full W hg l c t hop W.heap.size e i0 (.slice none 0 0) 1 ht hi hz0 hz1 .i64 .i64 n n n hl hc rfl rfl (by rw [hz2]; omega) (by unfold maxLen; omega) (Nat.le_refl _) ?_
  intro w1 h1 h2
  have hb : Below W.heap.size W w1 := (Below.refl W.heap.size W).grown h2 (Nat.le_refl _) (fun k hk => by cases hk)
  refine h w1 ⟨(h1.lt W.heap.size rfl).2, fun j hj => ?_, fun j hj => h1.frozenAt j⟩ hb
  have := h1.cells (g := W.heap.size) rfl j (.slice none 0 0) (by
    rw [Nat.mul_one]
    show (madeCells #[Value.slice none 0 0] n).toList[j]? = _
    rw [toList_madeCells_one, List.getElem?_replicate, if_pos hj])
  rw [← this]
  unfold Addr.add
  split <;> simp_all
theorem wp_app_G {W : World} (s x : Operand) (t e : TypeId)
    (ho : o.op = .call { callee := .builtin .append, args := #[s, x], argTypes := #[t, t] })
    (ht : P.underlying t = some (.slice e)) (hinfo : (P.info? e).map (fun i => (i.zero, i.size, i.bytes)) = some (some (.int .u8 0), 1, 1))
    (v y : Value) (xs ys : List Int) (hs : a.eval s = v) (hx : a.eval x = y)
    (HO : OwnN W v xs) (HR : Rd W y ys) (hl : xs.length + ys.length ≤ 140737488355328)
    (h : ∀ v1 w1, OwnN w1 v1 (xs ++ ys) → ((v1.ownBlock = v.ownBlock ∧ Chg (fun k => v.ownBlock = some k) W w1) ∨ ((∀ k, v1.ownBlock = some k → W.heap.size ≤ k) ∧ Below W.heap.size W w1)) → K (a.put o.dst v1) w1) :
    Oper.wp P o a W K Q := by
  obtain ⟨v1, w1, hr, h2, h3⟩ := run_appG (P := P) t o.type e ht hinfo HO HR hl
  unfold Oper.wp execOp
  simp only [ho, resolve, invoke, builtin, Sem.run_bind, Sem.run_pure, Result.andThen_ok, List.map_toArray, List.map_cons, List.map_nil, hs, hx, hr]
  exact h v1 w1 h2 h3
theorem app_G {W : World} (hgd : o.guard = none) (s x : Operand) (t e : TypeId)
    (ho : o.op = .call { callee := .builtin .append, args := #[s, x], argTypes := #[t, t] })
    (ht : P.underlying t = some (.slice e)) (hinfo : (P.info? e).map (fun i => (i.zero, i.size, i.bytes)) = some (some (.int .u8 0), 1, 1))
    (v y : Value) (xs ys : List Int) (hs : a.eval s = v) (hx : a.eval x = y)
    (HO : OwnN W v xs) (HR : Rd W y ys) (hl : xs.length + ys.length ≤ 140737488355328)
    (h : ∀ v1 w1, OwnN w1 v1 (xs ++ ys) → ((v1.ownBlock = v.ownBlock ∧ Chg (fun k => v.ownBlock = some k) W w1) ∨ ((∀ k, v1.ownBlock = some k → W.heap.size ≤ k) ∧ Below W.heap.size W w1)) → wpList P ops Q rest (a.put o.dst v1) w1) :
    wpList P ops Q (o :: rest) a W := by
  unfold wpList
  rw [if_pos (by simp [Region.wanted, hgd])]
  exact .inl (wp_app_G s x t e ho ht hinfo v y xs ys hs hx HO HR hl h)
theorem wp_app_full {W : World} (s x : Operand) (t e : TypeId)
    (ho : o.op = .call { callee := .builtin .append, args := #[s, x], argTypes := #[t, t] })
    (ht : P.underlying t = some (.slice e)) (hinfo : (P.info? e).map (fun i => (i.zero, i.size, i.bytes)) = some (some (.int .u8 0), 1, 1))
    (A : Option Addr) (n : Nat) (y : Value) (xs ys : List Int) (hs : a.eval s = .slice A n n) (hx : a.eval x = y)
    (HX : Rd W (.slice A n n) xs) (HR : Rd W y ys) (hy : ys ≠ []) (hl : xs.length + ys.length ≤ 140737488355328)
    (h : ∀ v1 w1, OwnN w1 v1 (xs ++ ys) → (∀ k, v1.ownBlock = some k → W.heap.size ≤ k) → Below W.heap.size W w1 → K (a.put o.dst v1) w1) :
    Oper.wp P o a W K Q := by
  obtain ⟨v1, w1, hr, h2, h3, h4⟩ := run_app_full (P := P) t o.type e ht hinfo HX HR hy hl
  unfold Oper.wp execOp
  simp only [ho, resolve, invoke, builtin, Sem.run_bind, Sem.run_pure, Result.andThen_ok, List.map_toArray, List.map_cons, List.map_nil, hs, hx, hr]
  exact h v1 w1 h2 h3 h4
theorem Rd.sl_full {t e : TypeId} (ht : P.underlying t = some (.slice e)) (hinfo : (P.info? e).map (fun i => (i.zero, i.size, i.bytes)) = some (some (.int .u8 0), 1, 1)) {w : World} {v : Value} {xs : List Int} (h : Rd w v xs) (k : Nat) (hkn : k ≤ xs.length) :
    ∃ A, (∀ W, (Instr.slice t v none (some (.int .i64 k)) (some (.int .i64 k))).run P W = .ok (.slice A k k) W) ∧ Rd w (.slice A k k) (xs.take k) := by
  obtain ⟨A, cap, rfl, h1, h2, h3, h4⟩ := h.form
  have hel : P.elem t = e := by simp [Program.elem, ht]
  have hc := h.cut 0 k k (Nat.zero_le _) hkn (Nat.le_refl _) (by omega)
  rw [List.drop_zero] at hc
  obtain ⟨A2, hA2⟩ : ∃ A2, sliced A 0 k k 1 = .slice A2 k k := ⟨(if k = 0 then A else A.map (fun x => x.add (0 * 1))), by unfold sliced; simp only [Nat.sub_zero]⟩
  rw [hA2] at hc
  refine ⟨A2, fun W => ?_, hc⟩
  rw [run_slice_hm (P := P) W t A xs.length cap (by rw [hel]; exact ht) .i64 .i64 k k (by omega) (by omega) (by omega), hel, run_size hinfo, ← hA2]
  simp
end
end Go.Proofs.Ytdmogbkfmeihfaa
