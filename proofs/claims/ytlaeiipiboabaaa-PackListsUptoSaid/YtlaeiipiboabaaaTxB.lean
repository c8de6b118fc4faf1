/- Rising texts as bytes: pure, and the program's Texts. -/
import Derived.Test.YtlaeiipiboabaaaTxA
import Derived.Test.YtlaeiipiboabaaaOpen2
namespace Go.Proofs.Ytlaeiipiboabaaa
open Go.RowKit
set_option maxRecDepth 100000
set_option linter.unusedVariables false
/-- is the one not behind the other? -/
def lq (s a : ByteArray) : Bool := Op.bytesLess s.toList a.toList || s.toList == a.toList
def txR : List ByteArray → Bool → ByteArray → Nat → List Int → Int × List Int
  | [], _, _, _, L => (0, L)
  | s :: r, first, ahead, all, L =>
    if 65536 < s.size then (31, []) else if first = false ∧ lq s ahead = true then (33, []) else if 268435456 < all + s.size then (31, [])
    else txR r false s (all + s.size) (L ++ lebB (shL (byL ahead) (byL s)) ++ (lebB (s.size - shL (byL ahead) (byL s)) ++ (byL s).drop (shL (byL ahead) (byL s))))
def txA (l : List ByteArray) : Int × List Int := if 1048576 < l.length then (31, []) else txR l true ⟨#[]⟩ 0 (lebB l.length)
/-- a list of texts, read -/
def RdS (w : World) (v : Value) (l : List ByteArray) : Prop := RdC 1 w v l.length (l.map Value.string)
theorem RdS.keep {w w1 : World} {v : Value} {l : List ByteArray} (h : RdS w v l) (hb : Below w.heap.size w w1) : RdS w1 v l := RdC.keep h hb
theorem infoS : (Try.prog.info? 9).map (fun i => (i.zero, i.size, i.bytes)) = some (some (.string ⟨#[]⟩), 1, 16) := by kernel_rfl
theorem RdS.at {w : World} {v : Value} {l : List ByteArray} (h : RdS w v l) (k : Nat) (hk : k < l.length) : ∃ bl off, (∀ W, Sem.run Try.prog (Instr.indexAt 28 v (.int .i64 (k : Int))) W = .ok (.pointer (some ⟨bl, off, none⟩)) W) ∧ w.cell? ⟨bl, off, none⟩ = some (.string (l[k]'hk)) := by
  obtain ⟨bl, off, h1, h2⟩ := RdC.at (P := Try.prog) Try.underlying28 infoS h .i64 k hk (by decide)
  refine ⟨bl, off, h1, ?_⟩
  have := h2 0 (by decide)
  rw [Nat.add_zero, Nat.mul_one, Nat.add_zero, List.getElem?_map, List.getElem?_eq_getElem hk] at this
  exact this
/-- a writer without an error over a world -/
def Wk (w0 W : World) (g : Nat) (v : Value) (L : List Int) : Prop := Wr W g v (0, L) ∧ w0.heap.size ≤ g ∧ (∀ b, v.ownBlock = some b → w0.heap.size ≤ b) ∧ Below w0.heap.size w0 W
theorem Wk.step {w0 W W1 : World} {g : Nat} {v : Value} {L M : List Int} (t : Wk w0 W g v L) (p : WrPost W g v (0, M) W1) : ∃ v', Wk w0 W1 g v' M := by
  obtain ⟨v', h1, hC, ho⟩ := p
  refine ⟨v', h1, t.2.1, fun b e => ?_, hC.then t.2.2.2 (fun k e => ?_) t.2.2.2.size⟩
  · rcases ho with h2 | ⟨k, h2, h3⟩
    · exact t.2.2.1 b (h2 ▸ e)
    · rw [h2] at e; injection e with e; have := t.2.2.2.size; omega
  · rcases e with e | e
    · rw [e]; exact t.2.1
    · exact t.2.2.1 k e.symm
theorem Wk.keep {w0 W W1 : World} {g : Nat} {v : Value} {L : List Int} (t : Wk w0 W g v L) (hb : Below W.heap.size W W1) : Wk w0 W1 g v L :=
  ⟨⟨t.1.1.keep hb, t.1.2.keep hb⟩, t.2.1, t.2.2.1, bel_trans t.2.2.2 hb⟩
def TxRet (w : World) (R : Int × List Int) (e : Ending) (w' : World) : Prop := ∃ u, e = .returned (.tuple #[u, .int .i64 R.1]) ∧ Own w' w.heap.size 5 u R.2 ∧ Below w.heap.size w w'
theorem meas_k1t (k n : Nat) (h : k < n) : n - ((k : Int) + 1).toNat < n - k := by omega
set_option maxHeartbeats 8000000 in
theorem P_Texts_any (v : Value) (l : List ByteArray) (w : World) (HR : RdS w v l) (hsz : ∀ s ∈ l, s.size ≤ 140737488351232) (hlm : l.length ≤ 140737488351232) :
    Calls Try.prog 17 #[v] w (TxRet w (txA l)) := by
  have hlen : ∀ W, Sem.run Try.prog (Builtin.len_ #[28] 3 #[v]) W = .ok (.int .i64 (l.length : Int)) W := RdC.len (P := Try.prog) HR 28 9 3 Try.underlying28
  have hRH := hd_ HR
  have hsH := hd_ hsz
  clear HR hsz
  by_cases hbig : 1048576 < l.length
  · have hR : txA l = (31, []) := by unfold txA; rw [if_pos hbig]
    rw [hR]
    have hbI : 1048576 < (l.length : Int) := by omega
    clear hR
    go_enter Try.func17, Try.ntmps17
    go_wp2
    go_ret2
    exact ⟨_, rfl, own_nil8 _ _ _, Below.refl _ _⟩
  · have hbI : ¬ 1048576 < (l.length : Int) := by omega
    have hR : txA l = txR l true ⟨#[]⟩ 0 (lebB l.length) := by unfold txA; rw [if_neg hbig]
    rw [hR]
    clear hR
    obtain ⟨R, hRd⟩ : ∃ R, R = txR l true ⟨#[]⟩ 0 (lebB l.length) := ⟨_, rfl⟩
    rw [← hRd]
    have hB0 := al1 (Below.refl w.heap.size w) (.cells #[.int .i64 0, .slice none 0 0] 43)
    have hb0 := Box.new w #[.int .i64 0, .slice none 0 0] 43
    have hwl : IntKind.u64.wrap (l.length : Int) = (l.length : Int) := by rw [IntKind.wrap_u64]; omega
    have hU := hd_ (show Calls Try.prog 22 #[.pointer (some ⟨w.heap.size, 0, none⟩), .int .u64 (l.length : Int)] (w.alloc (.cells #[.int .i64 0, .slice none 0 0] 43)) (WrRet (w.alloc (.cells #[.int .i64 0, .slice none 0 0] 43)) w.heap.size (.slice none 0 0) (0, lebB l.length)) from W_Uint_any w.heap.size (.slice none 0 0) (0, []) l.length _ ⟨hb0, own_nil8 _ _ _⟩ (by omega) (by decide))
    have hW0 := hd_ (show Wk w (w.alloc (.cells #[.int .i64 0, .slice none 0 0] 43)) w.heap.size (.slice none 0 0) [] from ⟨⟨hb0, own_nil8 _ _ _⟩, Nat.le_refl _, fun b e => absurd e (by simp [Value.ownBlock]), hB0⟩)
    have hRH2 := hd_ hRd
    clear hB0 hb0 hRd
    go_enter Try.func17, Try.ntmps17
    go_upto_region 7 with (go_at_call 22; (with_reducible refine hU.out.mono ?_); rintro e w1 ⟨rfl, P1⟩)
    obtain ⟨v1, hW1⟩ := hW0.out.step P1
    have hW1 := hd_ hW1
    clear hU hW0 P1
    go_loopw [5, 6, 19] (fun va vall vi wr => ∃ (k : Nat) (ahead : ByteArray) (all : Nat) (L : List Int) (vw : Value), k ≤ l.length ∧ va = .string ahead ∧ vall = .int .i64 (all : Int) ∧ vi = .int .i64 (k : Int) ∧ Wk w wr w.heap.size vw L ∧ txR (l.drop k) (decide (k = 0)) ahead all L = R ∧ all ≤ 268435456 ∧ L.length ≤ 10 + 20 * k + all ∧ ahead.size ≤ 65536) (fun _ _ vi _ => l.length - (intOf vi).toNat)
    case atStart => exact ⟨0, ⟨#[]⟩, 0, lebB l.length, v1, Nat.zero_le _, rfl, rfl, rfl, hW1.out, hRH2.out.symm, by omega, by have := lebB_10 (v := l.length) (by omega); omega, by decide⟩
    case round =>
      clear hW1 hRH2
      obtain ⟨k, ahead, all, L, vw, hk, rfl, rfl, rfl, hX, hT, hal, hLl, hah⟩ := hrel
      by_cases hlt : k < l.length
      · have hkI : (k : Int) < (l.length : Int) := by omega
        obtain ⟨bl, off, hix, hcell0⟩ := hRH.out.at k hlt
        have hss := hsH.out _ (List.getElem_mem hlt)
        rw [List.drop_eq_getElem_cons hlt] at hT
        generalize l[k] = s at *
        have hcell := cell_keep hX.2.2.2 hcell0
        have hq0 : wr.cell? ⟨w.heap.size, 0, none⟩ = some (.int .i64 0) := hX.1.1.cell 0 rfl
        have hbx := hd_ hX.1.1
        have hXH := hd_ hX
        have hkx := hd_ hlt
        have hI1 : (Value.int IntKind.i64 (wrap64 ((k : Int) + 1))) = .int .i64 ((k : Int) + 1) := congrArg _ (by unfold wrap64; omega)
        have hall : wrap64 ((all : Int) + (s.size : Int)) = ((all + s.size : Nat) : Int) := by unfold wrap64; omega
        have hall2 : IntKind.i64.wrap ((all : Int) + (s.size : Int)) = ((all + s.size : Nat) : Int) := by rw [IntKind.wrap_i64]; omega
        have hall3 : (all : Int) + (s.size : Int) = ((all + s.size : Nat) : Int) := by omega
        have hsn := hd_ (And.intro hss (And.intro hal (And.intro hLl hah)))
        unfold txR at hT
        clear hcell0 hX hss hLl hk hah
        generalize hN : all + s.size = al2 at *
        have hNH := hd_ hN
        clear hN
        by_cases hk0 : k = 0
        · have hkz : ((k : Int) == 0) = true := by simp [hk0]
          have hkt : decide (k = 0) = true := decide_eq_true hk0
          rw [hkt] at hT
          clear hk0 hkt
          by_cases hA : 65536 < s.size
          · rw [if_pos hA] at hT
            subst hT
            have hAI : ¬ ((s.size : Int) ≤ 65536) := by omega
            have hAd : decide ((s.size : Int) ≤ 65536) = false := decide_eq_false hAI
            go_upto_region 13 with (first
              | (go_at_call 50; (with_reducible refine (must_no w.heap.size _ _ 31 wr hbx.out rfl (by decide) (by simp)).mono ?_); rintro e w9 ⟨rfl, hb9, hg9⟩; have hq9 : w9.cell? ⟨w.heap.size, 0, none⟩ = some (.int .i64 31) := hb9.cell 0 rfl)
              | (go_at_call 50; (with_reducible refine (must_bad w.heap.size _ _ 31 _ _ w9 hb9 rfl (by decide)).mono ?_); rintro e w2 ⟨rfl, rfl⟩))
            have hBe := hd_ (hXH.out.2.2.2.grown hg9 hXH.out.2.2.2.size (fun k hk => by injection hk with hk; omega))
            go_quiet (fail)
            go_wp2
            go_ret2
            exact ⟨_, rfl, own_nil8 _ _ _, below_drewN hBe.out _⟩
          rw [if_neg hA] at hT
          have hAI : (s.size : Int) ≤ 65536 := by omega
          have hAd : decide ((s.size : Int) ≤ 65536) = true := decide_eq_true hAI
          rw [if_neg (by simp)] at hT
          by_cases hM : 268435456 < al2
          · rw [if_pos hM] at hT
            subst hT
            have hMI : ¬ ((al2 : Int) ≤ 268435456) := by omega
            have hMd : decide ((al2 : Int) ≤ 268435456) = false := decide_eq_false hMI
            go_upto_region 13 with (first
              | (go_at_call 50; (with_reducible refine (must_go w.heap.size _ _ 33 wr hbx.out rfl).mono ?_); rintro e w2 ⟨rfl, rfl⟩)
              | (go_at_call 50; (with_reducible refine (must_go w.heap.size _ _ 31 wr hbx.out rfl).mono ?_); rintro e w2 ⟨rfl, rfl⟩)
              | (go_at_call 50; (with_reducible refine (must_no w.heap.size _ _ 31 wr hbx.out rfl (by decide) (by simp)).mono ?_); rintro e w9 ⟨rfl, hb9, hg9⟩; have hq9 : w9.cell? ⟨w.heap.size, 0, none⟩ = some (.int .i64 31) := hb9.cell 0 rfl))
            have hBe := hd_ (hXH.out.2.2.2.grown hg9 hXH.out.2.2.2.size (fun k hk => by injection hk with hk; omega))
            go_quiet (fail)
            go_wp2
            go_ret2
            exact ⟨_, rfl, own_nil8 _ _ _, below_drewN hBe.out _⟩
          rw [if_neg hM] at hT
          have hMI : (al2 : Int) ≤ 268435456 := by omega
          have hMd : decide ((al2 : Int) ≤ 268435456) = true := decide_eq_true hMI
          obtain ⟨nn, hnn⟩ : ∃ nn, nn = shL (byL ahead) (byL s) := ⟨_, rfl⟩
          have hnl := shL_le (byL ahead) (byL s)
          rw [byL_length, byL_length, ← hnn] at hnl
          rw [← hnn] at hT
          have hshc := hd_ (show Calls Try.prog 51 #[.string ahead, .string s] wr (fun e w' => e = .returned (.int .i64 (nn : Int)) ∧ ∃ m, w' = wr.drewN m) by rw [hnn]; exact P_shared_any ahead s (by have := hsn.out.2.2.2; omega) wr)
          have hwn : IntKind.u64.wrap (nn : Int) = (nn : Int) := by rw [IntKind.wrap_u64]; omega
          have hsl : ∀ W, Sem.run Try.prog (Instr.slice 9 (.string s) (some (.int .i64 (nn : Int))) none none) W = .ok (.string (dropS s nn)) W := fun W => by have := run_slice_string_l (P := Try.prog) W 9 s Try.underlying9 .i64 (nn : Int) (by omega) (by omega); rw [Int.toNat_natCast] at this; exact this
          have hdz := dropS_size s nn hnl.2
          have hdb := dropS_byL s nn hnl.2
          have hLl := hsn.out.2.2.1
          have hlb1 := lebB_10 (v := nn) (by omega)
          have hlb2 := lebB_10 (v := s.size - nn) (by omega)
          have hWU := hd_ (fun W vw1 (h : Wr W w.heap.size vw1 (0, L)) => show Calls Try.prog 22 #[.pointer (some ⟨w.heap.size, 0, none⟩), .int .u64 (nn : Int)] W (WrRet W w.heap.size vw1 (0, L ++ lebB nn)) from by have := W_Uint_any w.heap.size vw1 (0, L) nn W h (by omega) (by simp only; omega); exact this)
          have hWT := hd_ (fun W vw1 (h : Wr W w.heap.size vw1 (0, L ++ lebB nn)) => show Calls Try.prog 39 #[.pointer (some ⟨w.heap.size, 0, none⟩), .string (dropS s nn), .int .i64 65536] W (WrRet W w.heap.size vw1 (0, L ++ lebB nn ++ (lebB (s.size - nn) ++ (byL s).drop nn))) from by
            have := W_Text_any w.heap.size vw1 (0, L ++ lebB nn) (dropS s nn) 65536 W h (by simp only [List.length_append]; omega)
            have e : wText (0, L ++ lebB nn) (byL (dropS s nn)) 65536 = (0, L ++ lebB nn ++ (lebB (s.size - nn) ++ (byL s).drop nn)) := by
              unfold wText
              rw [if_neg (by simp), if_neg (by decide), if_neg (by rw [byL_length, hdz]; omega), byL_length, hdz, hdb]
            rw [e] at this
            exact this)
          obtain ⟨L2, hL2⟩ : ∃ L2, L2 = L ++ lebB nn ++ (lebB (s.size - nn) ++ (byL s).drop nn) := ⟨_, rfl⟩
          have hL2l := hd_ (show L2.length ≤ 10 + 20 * (k + 1) + al2 by
            have h1 : ((byL s).drop nn).length = s.size - nn := by rw [List.length_drop, byL_length]
            have h2 := hNH.out
            rw [hL2]; simp only [List.length_append]; omega)
          rw [← hL2] at hT hWT
          have hTH := hd_ hT
          have hsm := hd_ (show s.size ≤ 65536 ∧ al2 ≤ 268435456 by omega)
          clear hnl hdz hdb hLl hlb1 hlb2 hL2 hT hnn
          go_wp2_with (first
            | (go_at_call 50; (with_reducible refine (must_go w.heap.size _ _ 31 wr hbx.out rfl).mono ?_); rintro e w2 ⟨rfl, rfl⟩)
            | (go_at_call 50; (with_reducible refine (must_go w.heap.size _ _ 33 wr hbx.out rfl).mono ?_); rintro e w2 ⟨rfl, rfl⟩)
            | (go_at_call 51; (with_reducible refine hshc.out.mono ?_); rintro e w3 ⟨rfl, m3, rfl⟩; have P3 := hXH.out.keep (below_drewN (Below.refl wr.heap.size wr) m3); have hU3 := hWU.out _ _ P3.1)
            | (go_at_call 22; (with_reducible refine hU3.mono ?_); rintro e w4 ⟨rfl, H4⟩; obtain ⟨v4, P4⟩ := P3.step H4; have hT4 := hWT.out _ _ P4.1)
            | (go_at_call 39; (with_reducible refine hT4.mono ?_); rintro e w5 ⟨rfl, H5⟩; obtain ⟨v5, P5⟩ := P4.step H5))
          go_roundw
          case rel => exact ⟨k + 1, s, al2, L2, v5, hkx.out, rfl, rfl, by first | rfl | (rw [hI1]; rfl), P5, hTH.out, hsm.out.2, hL2l.out, hsm.out.1⟩
          case measure => first | (rw [hI1]; exact meas_k1t _ _ hkx.out) | exact meas_k1t _ _ hkx.out
        · have hkz : ((k : Int) == 0) = false := by rw [beq_eq_false_iff_ne]; omega
          have hkf0 : decide (k = 0) = false := decide_eq_false hk0
          by_cases hA : 65536 < s.size
          · rw [if_pos hA] at hT
            subst hT
            have hAI : ¬ ((s.size : Int) ≤ 65536) := by omega
            have hAd : decide ((s.size : Int) ≤ 65536) = false := decide_eq_false hAI
            go_upto_region 13 with (first
              | (go_at_call 50; (with_reducible refine (must_no w.heap.size _ _ 31 wr hbx.out rfl (by decide) (by simp)).mono ?_); rintro e w9 ⟨rfl, hb9, hg9⟩; have hq9 : w9.cell? ⟨w.heap.size, 0, none⟩ = some (.int .i64 31) := hb9.cell 0 rfl)
              | (go_at_call 50; (with_reducible refine (must_bad w.heap.size _ _ 31 _ _ w9 hb9 rfl (by decide)).mono ?_); rintro e w2 ⟨rfl, rfl⟩))
            have hBe := hd_ (hXH.out.2.2.2.grown hg9 hXH.out.2.2.2.size (fun k hk => by injection hk with hk; omega))
            go_quiet (fail)
            go_wp2
            go_ret2
            exact ⟨_, rfl, own_nil8 _ _ _, below_drewN hBe.out _⟩
          rw [if_neg hA] at hT
          have hAI : (s.size : Int) ≤ 65536 := by omega
          have hAd : decide ((s.size : Int) ≤ 65536) = true := decide_eq_true hAI
          have hkf : decide (k = 0) = false := decide_eq_false hk0
          by_cases hQ : lq s ahead = true
          · rw [if_pos ⟨hkf, hQ⟩] at hT
            subst hT
            have hQ2 : (Op.bytesLess s.toList ahead.toList || s.toList == ahead.toList) = true := hQ
            go_upto_region 13 with (first
              | (go_at_call 50; (with_reducible refine (must_go w.heap.size _ _ 31 wr hbx.out rfl).mono ?_); rintro e w2 ⟨rfl, rfl⟩)
              | (go_at_call 50; (with_reducible refine (must_no w.heap.size _ _ 33 wr hbx.out rfl (by decide) (by simp)).mono ?_); rintro e w9 ⟨rfl, hb9, hg9⟩; have hq9 : w9.cell? ⟨w.heap.size, 0, none⟩ = some (.int .i64 33) := hb9.cell 0 rfl)
              | (go_at_call 50; (with_reducible refine (must_bad w.heap.size _ _ 33 _ _ w9 hb9 rfl (by decide)).mono ?_); rintro e w2 ⟨rfl, rfl⟩))
            have hBe := hd_ (hXH.out.2.2.2.grown hg9 hXH.out.2.2.2.size (fun k hk => by injection hk with hk; omega))
            go_quiet (fail)
            go_wp2
            go_ret2
            exact ⟨_, rfl, own_nil8 _ _ _, below_drewN hBe.out _⟩
          rw [if_neg (fun h => hQ h.2)] at hT
          have hQ2 : (Op.bytesLess s.toList ahead.toList || s.toList == ahead.toList) = false := by simpa [lq] using hQ
          by_cases hM : 268435456 < al2
          · rw [if_pos hM] at hT
            subst hT
            have hMI : ¬ ((al2 : Int) ≤ 268435456) := by omega
            have hMd : decide ((al2 : Int) ≤ 268435456) = false := decide_eq_false hMI
            go_upto_region 13 with (first
              | (go_at_call 50; (with_reducible refine (must_go w.heap.size _ _ 33 wr hbx.out rfl).mono ?_); rintro e w2 ⟨rfl, rfl⟩)
              | (go_at_call 50; (with_reducible refine (must_go w.heap.size _ _ 31 wr hbx.out rfl).mono ?_); rintro e w2 ⟨rfl, rfl⟩)
              | (go_at_call 50; (with_reducible refine (must_no w.heap.size _ _ 31 wr hbx.out rfl (by decide) (by simp)).mono ?_); rintro e w9 ⟨rfl, hb9, hg9⟩; have hq9 : w9.cell? ⟨w.heap.size, 0, none⟩ = some (.int .i64 31) := hb9.cell 0 rfl))
            have hBe := hd_ (hXH.out.2.2.2.grown hg9 hXH.out.2.2.2.size (fun k hk => by injection hk with hk; omega))
            go_quiet (fail)
            go_wp2
            go_ret2
            exact ⟨_, rfl, own_nil8 _ _ _, below_drewN hBe.out _⟩
          rw [if_neg hM] at hT
          have hMI : (al2 : Int) ≤ 268435456 := by omega
          have hMd : decide ((al2 : Int) ≤ 268435456) = true := decide_eq_true hMI
          obtain ⟨nn, hnn⟩ : ∃ nn, nn = shL (byL ahead) (byL s) := ⟨_, rfl⟩
          have hnl := shL_le (byL ahead) (byL s)
          rw [byL_length, byL_length, ← hnn] at hnl
          rw [← hnn] at hT
          have hshc := hd_ (show Calls Try.prog 51 #[.string ahead, .string s] wr (fun e w' => e = .returned (.int .i64 (nn : Int)) ∧ ∃ m, w' = wr.drewN m) by rw [hnn]; exact P_shared_any ahead s (by have := hsn.out.2.2.2; omega) wr)
          have hwn : IntKind.u64.wrap (nn : Int) = (nn : Int) := by rw [IntKind.wrap_u64]; omega
          have hsl : ∀ W, Sem.run Try.prog (Instr.slice 9 (.string s) (some (.int .i64 (nn : Int))) none none) W = .ok (.string (dropS s nn)) W := fun W => by have := run_slice_string_l (P := Try.prog) W 9 s Try.underlying9 .i64 (nn : Int) (by omega) (by omega); rw [Int.toNat_natCast] at this; exact this
          have hdz := dropS_size s nn hnl.2
          have hdb := dropS_byL s nn hnl.2
          have hLl := hsn.out.2.2.1
          have hlb1 := lebB_10 (v := nn) (by omega)
          have hlb2 := lebB_10 (v := s.size - nn) (by omega)
          have hWU := hd_ (fun W vw1 (h : Wr W w.heap.size vw1 (0, L)) => show Calls Try.prog 22 #[.pointer (some ⟨w.heap.size, 0, none⟩), .int .u64 (nn : Int)] W (WrRet W w.heap.size vw1 (0, L ++ lebB nn)) from by have := W_Uint_any w.heap.size vw1 (0, L) nn W h (by omega) (by simp only; omega); exact this)
          have hWT := hd_ (fun W vw1 (h : Wr W w.heap.size vw1 (0, L ++ lebB nn)) => show Calls Try.prog 39 #[.pointer (some ⟨w.heap.size, 0, none⟩), .string (dropS s nn), .int .i64 65536] W (WrRet W w.heap.size vw1 (0, L ++ lebB nn ++ (lebB (s.size - nn) ++ (byL s).drop nn))) from by
            have := W_Text_any w.heap.size vw1 (0, L ++ lebB nn) (dropS s nn) 65536 W h (by simp only [List.length_append]; omega)
            have e : wText (0, L ++ lebB nn) (byL (dropS s nn)) 65536 = (0, L ++ lebB nn ++ (lebB (s.size - nn) ++ (byL s).drop nn)) := by
              unfold wText
              rw [if_neg (by simp), if_neg (by decide), if_neg (by rw [byL_length, hdz]; omega), byL_length, hdz, hdb]
            rw [e] at this
            exact this)
          obtain ⟨L2, hL2⟩ : ∃ L2, L2 = L ++ lebB nn ++ (lebB (s.size - nn) ++ (byL s).drop nn) := ⟨_, rfl⟩
          have hL2l := hd_ (show L2.length ≤ 10 + 20 * (k + 1) + al2 by
            have h1 : ((byL s).drop nn).length = s.size - nn := by rw [List.length_drop, byL_length]
            have h2 := hNH.out
            rw [hL2]; simp only [List.length_append]; omega)
          rw [← hL2] at hT hWT
          have hTH := hd_ hT
          have hsm := hd_ (show s.size ≤ 65536 ∧ al2 ≤ 268435456 by omega)
          clear hnl hdz hdb hLl hlb1 hlb2 hL2 hT hnn
          go_wp2_with (first
            | (go_at_call 50; (with_reducible refine (must_go w.heap.size _ _ 31 wr hbx.out rfl).mono ?_); rintro e w2 ⟨rfl, rfl⟩)
            | (go_at_call 50; (with_reducible refine (must_go w.heap.size _ _ 33 wr hbx.out rfl).mono ?_); rintro e w2 ⟨rfl, rfl⟩)
            | (go_at_call 51; (with_reducible refine hshc.out.mono ?_); rintro e w3 ⟨rfl, m3, rfl⟩; have P3 := hXH.out.keep (below_drewN (Below.refl wr.heap.size wr) m3); have hU3 := hWU.out _ _ P3.1)
            | (go_at_call 22; (with_reducible refine hU3.mono ?_); rintro e w4 ⟨rfl, H4⟩; obtain ⟨v4, P4⟩ := P3.step H4; have hT4 := hWT.out _ _ P4.1)
            | (go_at_call 39; (with_reducible refine hT4.mono ?_); rintro e w5 ⟨rfl, H5⟩; obtain ⟨v5, P5⟩ := P4.step H5))
          go_roundw
          case rel => exact ⟨k + 1, s, al2, L2, v5, hkx.out, rfl, rfl, by first | rfl | (rw [hI1]; rfl), P5, hTH.out, hsm.out.2, hL2l.out, hsm.out.1⟩
          case measure => first | (rw [hI1]; exact meas_k1t _ _ hkx.out) | exact meas_k1t _ _ hkx.out
      · obtain rfl : k = l.length := by omega
        rw [List.drop_length] at hT
        have hRe : R = (0, L) := hT.symm
        have hReH := hd_ hRe
        have hWB := hd_ (show Calls Try.prog 23 #[.pointer (some ⟨w.heap.size, 0, none⟩)] wr (fun e w' => ∃ u, e = .returned (.tuple #[u, .int .i64 0]) ∧ Own w' wr.heap.size 5 u L ∧ Below wr.heap.size wr w') from W_Bytes_any w.heap.size vw (0, L) wr hX.1 (by simp only; omega))
        have hBe := hd_ hX.2.2.2
        clear hX hT hRe
        go_wp2_with (go_at_call 23; (with_reducible refine hWB.out.mono ?_); rintro e w2 ⟨u, rfl, hO2, hB2⟩)
        go_ret2
        rw [hReH.out]
        exact ⟨u, rfl, ⟨hO2.1, row_base hO2.2 hBe.out.size⟩, bel_trans hBe.out hB2⟩
end Go.Proofs.Ytlaeiipiboabaaa
