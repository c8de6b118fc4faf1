import Derived.Test.YtdifppahpihhpaaCrcM
import Derived.Test.YtdifppahpihhpaaMem3
namespace Go.Proofs.Ytdifppahpihhpaa
open Go.RowKit
set_option maxRecDepth 100000
set_option linter.unusedVariables false
def marks8 : List Int := [201, 202, 203, 204, 205, 206, 207, 208]
theorem marks8_bytes : IsBytes marks8 := by intro b hb; simp [marks8] at hb; omega
theorem own_base2 {W : World} {b b' : Nat} {e : TypeId} {v : Value} {xs : List Int} (h : Own W b e v xs) (hb : b' ≤ b) : Own W b' e v xs := by
  refine ⟨h.1, h.2.1, ?_⟩
  rcases h.2.2 with h1 | ⟨g, cap, cur, h1, h2, h3⟩
  · exact .inl h1
  · exact .inr ⟨g, cap, cur, h1, Nat.le_trans hb h2, h3⟩
theorem Rd.front8 {w : World} {A : Option Addr} {cap : Nat} {l m : List Int} {n : Nat} (h : Rd w (.slice A n cap) (l ++ m)) (hn : n = (l ++ m).length) : Rd w (.slice A l.length cap) l := by
  subst hn
  obtain ⟨hb, hl, A', cap', hv, h1, h2, h3, h4⟩ := h
  injection hv with e1 _ e2
  subst e1; subst e2
  rw [List.length_append] at h1
  refine ⟨fun b hb' => hb b (List.mem_append_left _ hb'), by rw [nums8_length, Nat.mul_one], _, _, rfl, by omega, h2, h3, fun j hj => ?_⟩
  rw [nums8_length] at hj
  obtain ⟨b, off, ha, hc⟩ := h4 j (by rw [nums8_length, List.length_append]; omega)
  refine ⟨b, off, ha, ?_⟩
  rw [hc, nums8_append, List.getElem?_append_left (by rw [nums8_length]; exact hj)]
def fillA (c : Int) (k : Nat) (xs : List Int) : List Int := List.replicate k c ++ xs.drop k
theorem fill_set {c : Int} {k : Nat} {xs : List Int} (h : k < xs.length) : (fillA c k xs).set k c = fillA c (k + 1) xs := by
  unfold fillA
  rw [List.set_append_right _ _ (by rw [List.length_replicate]; exact Nat.le_refl _), List.length_replicate, Nat.sub_self, List.drop_eq_getElem_cons h, List.set_cons_zero, List.replicate_succ', List.append_assoc]
  rfl
theorem fill_length {c : Int} {k : Nat} {xs : List Int} (h : k ≤ xs.length) : (fillA c k xs).length = xs.length := by
  unfold fillA; rw [List.length_append, List.length_replicate, List.length_drop]; omega
theorem fill_all (c : Int) (xs : List Int) : fillA c xs.length xs = List.replicate xs.length c := by unfold fillA; rw [List.drop_length, List.append_nil]
structure SealSt (W w0 : World) (l : List Int) (n8 g cap : Nat) (va vb vw : Value) (a b : List Int) : Prop where
  hr : Own W w0.heap.size 5 (.slice (some ⟨g, 0, none⟩) n8 cap) (l ++ marks8)
  ha : Own W w0.heap.size 5 va a
  hb : Own W w0.heap.size 5 vb b
  hw : Own W w0.heap.size 5 vw (sealB l)
  ar : va.ownBlock ≠ some g
  br : vb.ownBlock ≠ some g
  ab : va.ownBlock ≠ vb.ownBlock
  aw : va.ownBlock ≠ vw.ownBlock
  bw : vb.ownBlock ≠ vw.ownBlock
  bel : Below w0.heap.size w0 W
theorem SealSt.keep {W W1 w0 : World} {l : List Int} {n8 g cap : Nat} {va vb vw : Value} {a b : List Int} (h : SealSt W w0 l n8 g cap va vb vw a b) (hb : Below W.heap.size W W1) : SealSt W1 w0 l n8 g cap va vb vw a b :=
  ⟨h.hr.keep hb, h.ha.keep hb, h.hb.keep hb, h.hw.keep hb, h.ar, h.br, h.ab, h.aw, h.bw, bel_trans h.bel hb⟩
theorem SealSt.growA {W W1 w0 : World} {l : List Int} {n8 g cap : Nat} {va vb vw v1 : Value} {a b a1 : List Int} (h : SealSt W w0 l n8 g cap va vb vw a b) (hg : W.grownBy W1 va.ownBlock) (ha : Own W1 w0.heap.size 5 v1 a1) (hat : v1.ownBlock = va.ownBlock ∨ v1.ownBlock = some W.heap.size) (hbel : Below w0.heap.size w0 W1) :
    SealSt W1 w0 l n8 g cap v1 vb vw a1 b := by
  refine ⟨h.hr.kept hg (.inr fun e => h.ar e.symm), ha, h.hb.kept hg (.inr fun e => h.ab e.symm), h.hw.kept hg (.inr fun e => h.aw e.symm), ?_, h.br, ?_, ?_, h.bw, hbel⟩
  · rcases hat with e | e
    · rw [e]; exact h.ar
    · rw [e]; intro e2; have := (h.hr.2.lt g rfl).2; injection e2 with e2; omega
  · rcases hat with e | e
    · rw [e]; exact h.ab
    · rw [e]; intro e2; have := (h.hb.2.lt _ e2.symm).2; omega
  · rcases hat with e | e
    · rw [e]; exact h.aw
    · rw [e]; intro e2; have := (h.hw.2.lt _ e2.symm).2; omega
theorem SealSt.swap {W w0 : World} {l : List Int} {n8 g cap : Nat} {va vb vw : Value} {a b : List Int} (h : SealSt W w0 l n8 g cap va vb vw a b) : SealSt W w0 l n8 g cap vb va vw b a :=
  ⟨h.hr, h.hb, h.ha, h.hw, h.br, h.ar, fun e => h.ab e.symm, h.bw, h.aw, h.bel⟩
theorem SealSt.put {W w0 : World} {l : List Int} {n8 g cap n ca ga : Nat} {vb vw : Value} {a b : List Int} (h : SealSt W w0 l n8 g cap (.slice (some ⟨ga, 0, none⟩) n ca) vb vw a b) (j : Nat) (c : Int) (h0 : 0 ≤ c) (h1 : c < 256) :
    SealSt (W.setCell ⟨ga, j, none⟩ (.int .u8 c)) w0 l n8 g cap (.slice (some ⟨ga, 0, none⟩) n ca) vb vw (a.set j c) b := by
  obtain ⟨k1, k2⟩ := h.ha.put j c h0 h1
  exact h.growA k2 k1 (.inl rfl) (below_put h.ha h.bel h.bel.size j _)
theorem slot_form {W : World} {base : Nat} {e : TypeId} {v : Value} {xs : List Int} (h : Own W base e v xs) (hne : 0 < xs.length) : ∃ g cap, v = .slice (some ⟨g, 0, none⟩) xs.length cap ∧ base ≤ g := by
  obtain ⟨g, cap, hv, hb, _⟩ := h.slot (by intro h; rw [h] at hne; simp at hne)
  exact ⟨g, cap, hv, hb⟩
set_option maxHeartbeats 8000000 in
theorem law_CrcSeals (w : World) (v : Value) (l : List Int) (HR : Rd w v l) (hl : l.length ≤ 140737488351232) :
    Calls Try.prog 9 #[v] w fun e w' => e = .returned (.bool true) ∧ Below w.heap.size w w' := by
  have hlen := HR.2.len (P := Try.prog) 23 5 3 Try.underlying23
  go_enter Try.func9, Try.ntmps9
  go_upto_region 2 with (first
    | (at_builtin; (refine app_bytes (w0 := w) w.heap.size rfl _ _ 23 5 rfl Try.underlying23 info8 (.slice none 0 0) v [] l rfl rfl (own_nil8 _ _ _) HR (Below.refl _ _) (Nat.le_refl _) (by simp; omega) ?_); intro v1 w1 HO1 HB1 hg1 hat1; rw [List.nil_append] at HO1)
    | (at_builtin; (refine app_bytes (w0 := w) w.heap.size rfl _ _ 23 5 rfl Try.underlying23 info8 v1 _ l marks8 rfl rfl (HO1.keep (al1 (Below.refl _ _) _)) (rd_new marks8 rfl rfl marks8_bytes (by decide)) (al1 HB1 _) (al1 HB1 _).size (by simp [marks8]; omega) ?_); intro v2 w2 HO2 HB2 hg2 hat2))
  obtain ⟨g, cap, rfl, hgb, hle, hcap, _, _⟩ := HO2.slot (by simp [marks8])
  have hlm : (l ++ marks8).length = l.length + 8 := by rw [List.length_append]; rfl
  rw [hlm] at HO2 hle ⊢
  obtain ⟨n8, hn8⟩ : ∃ n8, l.length + 8 = n8 := ⟨_, rfl⟩
  rw [hn8] at HO2 hle hlm ⊢
  have HN8 := hd_ hn8
  have hl8n : l.length ≤ n8 := by omega
  have hl8c : l.length ≤ cap := by omega
  have hg2 := (HO2.2.lt g rfl).2
  have HF2 := HO2.rd.front8 hlm.symm
  have hS4 : (sealB l).length = l.length + 4 := by unfold sealB; rw [List.length_append]; rfl
  clear HO1 HB1 hat1 hat2 hlm hn8
  have hl8 : l.length ≤ 140737488355320 := by omega
  go_wp2_with fail
  refine (crc_Seal_any _ l _ HF2 hl8).mono ?_
  rintro e w3 ⟨va, rfl, HO3, HB3⟩
  go_wp2_with fail
  refine (crc_Seal_any _ l _ (HF2.keep HB3) hl8).mono ?_
  rintro e w4 ⟨vb, rfl, HO4, HB4⟩
  have hK4 := bel_trans HB3 HB4
  go_wp2_with fail
  refine (ref_Seal_any _ l _ (HR.keep (bel_trans HB2 hK4)) hl8).mono ?_
  rintro e w5 ⟨vw, rfl, HO5, HB5⟩
  obtain ⟨ga, ca, rfl, hga⟩ := slot_form HO3 (by omega)
  obtain ⟨gb, cb, rfl, hgb'⟩ := slot_form HO4 (by omega)
  obtain ⟨gw, cw, rfl, hgw⟩ := slot_form HO5 (by omega)
  have hga2 := (HO3.2.lt ga rfl).2
  have hgb2 := (HO4.2.lt gb rfl).2
  have hK35 := bel_trans HB4 HB5
  have s2 := HB2.size
  have s3 := HB3.size
  have s4 := HB4.size
  have HS : SealSt w5 w l n8 g cap (.slice (some ⟨ga, 0, none⟩) (sealB l).length ca) (.slice (some ⟨gb, 0, none⟩) (sealB l).length cb) (.slice (some ⟨gw, 0, none⟩) (sealB l).length cw) (sealB l) (sealB l) :=
    ⟨HO2.keep (bel_trans hK4 HB5), own_base2 (HO3.keep hK35) (by omega), own_base2 (HO4.keep HB5) (by omega), own_base2 HO5 (by omega), (by simp [Value.ownBlock]; omega), (by simp [Value.ownBlock]; omega), (by simp [Value.ownBlock]; omega), (by simp [Value.ownBlock]; omega), (by simp [Value.ownBlock]; omega), bel_trans HB2 (bel_trans hK4 HB5)⟩
  clear HO2 HO3 HO4 HO5 HB2 HB3 HB4 HB5 hga hgb' hgw hga2 hgb2 hK35 s2 s3 s4 hK4 HF2
  have HRw := hd_ HR
  clear HR hlen hgb hg2
  obtain ⟨sb, hsb⟩ : ∃ sb, sealB l = sb := ⟨_, rfl⟩
  have hsw := HS.hw
  rw [hsb] at HS hS4 hsw ⊢
  have HSB := hd_ hsb
  clear hsb
  rw [hS4] at HS hsw ⊢
  obtain ⟨sn, hn⟩ : ∃ sn, l.length + 4 = sn := ⟨_, rfl⟩
  rw [hn] at HS hsw hS4 ⊢
  have hnl : sn ≤ 140737488351236 := by omega
  have HN := hd_ hn
  clear hn
  go_wp2_with (go_at_call 23; first
    | (with_reducible refine (sameBytes_any _ _ sb sb _ HS.ha.rd hsw.rd).mono ?_; rintro e w' ⟨rfl, rfl⟩; rw [decide_eq_true rfl])
    | (with_reducible refine (sameBytes_any _ _ sb sb _ HS.hb.rd hsw.rd).mono ?_; rintro e w' ⟨rfl, rfl⟩; rw [decide_eq_true rfl]))
  clear hsw hg1 hg2
  go_loopw [8] (fun vi wr => ∃ k : Nat, k ≤ sn ∧ vi = .int .i64 k ∧ SealSt wr w l n8 g cap (.slice (some ⟨ga, 0, none⟩) sn ca) (.slice (some ⟨gb, 0, none⟩) sn cb) (.slice (some ⟨gw, 0, none⟩) sn cw) (fillA 91 k sb) sb) (fun i _ => sn - (intOf i).toNat)
  case atStart => exact ⟨0, by omega, rfl, HS⟩
  case round =>
    clear HS
    obtain ⟨k, hk, rfl, HS⟩ := hrel
    by_cases hlt : k < sn
    · have hlI : (k : Int) < (sn : Int) := by omega
      have hfl := fill_length (c := 91) (xs := sb) (k := k) (by omega)
      obtain ⟨g', cp', he, _, _, _, e1, e2⟩ := HS.ha.slot (by intro h; rw [h] at hfl; simp at hfl; omega)
      injection he with he
      injection he with he
      injection he with he
      subst he
      have hcell := e1 k (by omega)
      have hfz := e2 k
      have HP := HS.put k 91 (by omega) (by omega)
      rw [fill_set (by omega)] at HP
      clear e1 e2 hfl
      go_wp2
      go_roundw
      case rel => exact ⟨k + 1, by omega, by go_num, HP⟩
      case measure => (simp [intOf]; try omega)
    · obtain rfl : sn = k := by omega
      rw [show fillA 91 sn sb = List.replicate sn 91 from by rw [← hS4, fill_all]] at HS
      clear hlt hk
      go_wp2
      go_loopw [9] (fun vi wr => ∃ k : Nat, k ≤ sn ∧ vi = .int .i64 k ∧ SealSt wr w l n8 g cap (.slice (some ⟨ga, 0, none⟩) sn ca) (.slice (some ⟨gb, 0, none⟩) sn cb) (.slice (some ⟨gw, 0, none⟩) sn cw) (List.replicate sn 91) (fillA 92 k sb)) (fun i _ => sn - (intOf i).toNat)
      case atStart => exact ⟨0, by omega, rfl, HS⟩
      case round =>
        clear HS
        obtain ⟨k, hk, rfl, HS⟩ := hrel
        by_cases hlt : k < sn
        · have hlI : (k : Int) < (sn : Int) := by omega
          have hfl := fill_length (c := 92) (xs := sb) (k := k) (by omega)
          obtain ⟨g', cp', he, _, _, _, e1, e2⟩ := HS.hb.slot (by intro h; rw [h] at hfl; simp at hfl; omega)
          injection he with he
          injection he with he
          injection he with he
          subst he
          have hcell := e1 k (by omega)
          have hfz := e2 k
          have HP := (HS.swap.put k 92 (by omega) (by omega)).swap
          rw [fill_set (by omega)] at HP
          clear e1 e2 hfl
          go_wp2
          go_roundw
          case rel => exact ⟨k + 1, by omega, by go_num, HP⟩
          case measure => (simp [intOf]; try omega)
        · obtain rfl : sn = k := by omega
          rw [show fillA 92 sn sb = List.replicate sn 92 from by rw [← hS4, fill_all]] at HS
          clear hlt hk
          go_wp2
          go_loopw [5, 6, 10] (fun va vb vi wr => ∃ k : Nat, k ≤ 40 ∧ vi = .int .i64 k ∧ SealSt wr w l n8 g cap va vb (.slice (some ⟨gw, 0, none⟩) sn cw) (List.replicate sn 91 ++ List.replicate k 93) (List.replicate sn 92 ++ List.replicate k 94)) (fun _ _ i _ => 40 - (intOf i).toNat)
          case atStart => exact ⟨0, by omega, rfl, by rw [List.replicate_zero, List.append_nil, List.replicate_zero, List.append_nil]; exact HS⟩
          case round =>
            clear HS
            obtain ⟨k, hk, rfl, HS⟩ := hrel
            by_cases hlt : k < 40
            · have hlI : (k : Int) < 40 := by omega
              have hL1 : Hid ((List.replicate sn (91 : Int) ++ List.replicate k 93).length + [(93 : Int)].length ≤ 140737488355328) := hd_ (by rw [List.length_append, List.length_replicate, List.length_replicate]; show _ + 1 ≤ _; omega)
              have hL2 : Hid ((List.replicate sn (92 : Int) ++ List.replicate k 94).length + [(94 : Int)].length ≤ 140737488355328) := hd_ (by rw [List.length_append, List.length_replicate, List.length_replicate]; show _ + 1 ≤ _; omega)
              have E1 : Hid (List.replicate sn (91 : Int) ++ List.replicate (k + 1) 93 = List.replicate sn (91 : Int) ++ List.replicate k 93 ++ [93]) := hd_ (by rw [show List.replicate (k + 1) (93 : Int) = List.replicate k 93 ++ [93] from List.replicate_succ', List.append_assoc])
              have E2 : Hid (List.replicate sn (92 : Int) ++ List.replicate (k + 1) 94 = List.replicate sn (92 : Int) ++ List.replicate k 94 ++ [94]) := hd_ (by rw [show List.replicate (k + 1) (94 : Int) = List.replicate k 94 ++ [94] from List.replicate_succ', List.append_assoc])
              generalize List.replicate sn (91 : Int) ++ List.replicate k 93 = aa at *
              generalize List.replicate sn (92 : Int) ++ List.replicate k 94 = bb at *
              have al93 := al1 (Below.refl wr.heap.size wr) (.cells #[.int .u8 93] 5)
              have R93 : Rd (wr.alloc (.cells #[.int .u8 93] 5)) (.slice (some ⟨wr.heap.size, 0, none⟩) 1 1) [93] := rd_new [93] rfl rfl (by intro y hy; rw [List.mem_singleton] at hy; subst hy; omega) (by decide)
              have HS1 := HS.keep al93
              go_upto_region 19 with (at_builtin; (refine app_bytes (w0 := w) w.heap.size rfl _ _ 23 5 rfl Try.underlying23 info8 u5 _ aa [93] rfl rfl HS1.ha R93 HS1.bel HS1.bel.size hL1.out ?_); intro v7 w7 HO7 HB7 hg7 hat7)
              have HS7 := HS1.growA hg7 HO7 hat7 HB7
              have al94 := al1 (Below.refl w7.heap.size w7) (.cells #[.int .u8 94] 5)
              have R94 : Rd (w7.alloc (.cells #[.int .u8 94] 5)) (.slice (some ⟨w7.heap.size, 0, none⟩) 1 1) [94] := rd_new [94] rfl rfl (by intro y hy; rw [List.mem_singleton] at hy; subst hy; omega) (by decide)
              have HS8 := HS7.keep al94
              clear HS HS1 HS7 R93 al93 al94 HO7 HB7 hg7 hat7
              go_wp2_with (at_builtin; (refine app_bytes (w0 := w) w.heap.size rfl _ _ 23 5 rfl Try.underlying23 info8 u6 _ bb [94] rfl rfl HS8.hb R94 HS8.bel HS8.bel.size hL2.out ?_); intro v9 w9 HO9 HB9 hg9 hat9)
              have HS9 := (HS8.swap.growA hg9 HO9 hat9 HB9).swap
              go_roundw
              case rel => exact ⟨k + 1, by omega, by go_num, by rw [E1.out, E2.out]; exact HS9⟩
              case measure => (simp [intOf]; try omega)
            · obtain rfl : k = 40 := by omega
              have hLa : (List.replicate sn (91 : Int) ++ List.replicate 40 93).length = sn + 40 := by rw [List.length_append, List.length_replicate, List.length_replicate]
              have hLb : (List.replicate sn (92 : Int) ++ List.replicate 40 94).length = sn + 40 := by rw [List.length_append, List.length_replicate, List.length_replicate]
              obtain ⟨ga2, ca2, rfl, _, hca, hca2, ea1, _⟩ := HS.ha.slot (by intro h; rw [h] at hLa; simp at hLa)
              obtain ⟨gb2, cb2, rfl, _, hcb, hcb2, eb1, _⟩ := HS.hb.slot (by intro h; rw [h] at hLb; simp at hLb)
              rw [hLa] at HS hca ea1 ⊢
              rw [hLb] at HS hcb eb1 ⊢
              have CA : Hid (∀ j, j < sn + 40 → wr.cell? ⟨ga2, j, none⟩ = some (.int .u8 (if j < sn then 91 else 93))) := hd_ fun j hj => by
                rw [ea1 j hj]
                by_cases h : j < sn
                · rw [if_pos h, getD_left (by rw [List.length_replicate]; exact h), List.getD_eq_getElem?_getD, List.getElem?_replicate, if_pos h]; rfl
                · rw [if_neg h, List.getD_eq_getElem?_getD, List.getElem?_append_right (by rw [List.length_replicate]; omega), List.length_replicate, List.getElem?_replicate, if_pos (by omega)]; rfl
              have CB : Hid (∀ j, j < sn + 40 → wr.cell? ⟨gb2, j, none⟩ = some (.int .u8 (if j < sn then 92 else 94))) := hd_ fun j hj => by
                rw [eb1 j hj]
                by_cases h : j < sn
                · rw [if_pos h, getD_left (by rw [List.length_replicate]; exact h), List.getD_eq_getElem?_getD, List.getElem?_replicate, if_pos h]; rfl
                · rw [if_neg h, List.getD_eq_getElem?_getD, List.getElem?_append_right (by rw [List.length_replicate]; omega), List.length_replicate, List.getElem?_replicate, if_pos (by omega)]; rfl
              have HFr := HS.hr.rd.front8 (by rw [List.length_append, ← HN8.out]; rfl)
              have hRl := HRw.out.keep HS.bel
              clear ea1 eb1 hLa hLb hlt hk
              go_wp2_with fail
              refine (crc_Seal_any _ l _ HFr hl8).mono ?_
              rintro e w10 ⟨vc, rfl, HO10, HB10⟩
              rw [HSB.out] at HO10
              have CA10 : Hid (∀ j, j < sn + 40 → w10.cell? ⟨ga2, j, none⟩ = some (.int .u8 (if j < sn then 91 else 93))) := hd_ fun j hj => cell_keep HB10 (CA.out j hj)
              have CB10 : Hid (∀ j, j < sn + 40 → w10.cell? ⟨gb2, j, none⟩ = some (.int .u8 (if j < sn then 92 else 94))) := hd_ fun j hj => cell_keep HB10 (CB.out j hj)
              have HS10 := HS.keep HB10
              clear CA CB HS HFr hRl
              go_wp2
              go_loop [12] (fun vi => ∃ k : Nat, k ≤ sn + 40 ∧ vi = .int .i64 k) (fun i => sn + 40 - (intOf i).toNat)
              case atStart => exact ⟨0, by omega, rfl⟩
              case round =>
                obtain ⟨k, hk, rfl⟩ := hrel
                by_cases hlt : k < sn + 40
                · have hA := CA10.out k hlt
                  have hB := CB10.out k hlt
                  have hlI : (k : Int) < (sn : Int) + 40 := by omega
                  by_cases h4 : k < sn
                  · rw [if_pos h4] at hA hB
                    have h4I : (k : Int) < (sn : Int) := by omega
                    go_wp2
                    go_round
                    case rel => exact ⟨k + 1, by omega, by go_num⟩
                    case measure => (simp [intOf]; try omega)
                  · rw [if_neg h4] at hA hB
                    have h4I : ¬ (k : Int) < (sn : Int) := by omega
                    go_wp2
                    go_round
                    case rel => exact ⟨k + 1, by omega, by go_num⟩
                    case measure => (simp [intOf]; try omega)
                · obtain rfl : k = sn + 40 := by omega
                  have HR10 := HRw.out.keep HS10.bel
                  go_wp2_with (first
                    | (at_builtin; (refine app_bytes (w0 := w10) w10.heap.size rfl _ _ 23 5 rfl Try.underlying23 info8 (.slice none 0 0) v [] l rfl rfl (own_nil8 _ _ _) HR10 (Below.refl _ _) (Nat.le_refl _) (by simp; omega) ?_); intro v11 w11 HO11 HB11 hg11 hat11; rw [List.nil_append] at HO11)
                    | (at_builtin; (refine app_bytes (w0 := w10) w10.heap.size rfl _ _ 23 5 rfl Try.underlying23 info8 v11 _ l marks8 rfl rfl (HO11.keep (al1 (Below.refl _ _) _)) (rd_new marks8 rfl rfl marks8_bytes (by decide)) (al1 HB11 _) (al1 HB11 _).size (by simp [marks8]; omega) ?_); intro v12 w12 HO12 HB12 hg12 hat12; have HS12 := HS10.keep HB12; have HOc := HO10.keep HB12; have hw12 := HS12.hw)
                    | (go_at_call 23; first
                      | (with_reducible refine (sameBytes_any _ _ sb _ _ HOc.rd hw12.rd).mono ?_; rintro e w' ⟨rfl, rfl⟩; rw [HSB.out, decide_eq_true rfl])
                      | (with_reducible refine (sameBytes_any _ _ (l ++ marks8) (l ++ marks8) _ HS12.hr.rd HO12.rd).mono ?_; rintro e w' ⟨rfl, rfl⟩; rw [decide_eq_true rfl])))
                  go_ret
                  exact ⟨rfl, HS12.bel⟩
end Go.Proofs.Ytdifppahpihhpaa
