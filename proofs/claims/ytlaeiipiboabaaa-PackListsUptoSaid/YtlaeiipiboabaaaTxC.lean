/- Rising texts as bytes: the document's Texts. -/
import Derived.Test.YtlaeiipiboabaaaTxB
namespace Go.Proofs.Ytlaeiipiboabaaa
open Go.RowKit
set_option maxRecDepth 100000
set_option linter.unusedVariables false
/-- the document's writer without an error over a world -/
def Xk (w0 W : World) (g : Nat) (v : Value) (L : List Int) : Prop := Xr W g v (0, L) ∧ w0.heap.size ≤ g ∧ (∀ b, v.ownBlock = some b → w0.heap.size ≤ b) ∧ Below w0.heap.size w0 W
theorem Xk.step {w0 W W1 : World} {g : Nat} {v : Value} {L M : List Int} (t : Xk w0 W g v L) (p : XrPost W g v (0, M) W1) : ∃ v', Xk w0 W1 g v' M := by
  obtain ⟨v', h1, hC, ho⟩ := p
  refine ⟨v', h1, t.2.1, fun b e => ?_, hC.then t.2.2.2 (fun k e => ?_) t.2.2.2.size⟩
  · rcases ho with h2 | ⟨k, h2, h3⟩
    · exact t.2.2.1 b (h2 ▸ e)
    · rw [h2] at e; injection e with e; have := t.2.2.2.size; omega
  · rcases e with e | e
    · rw [e]; exact t.2.1
    · exact t.2.2.1 k e.symm
theorem Xk.keep {w0 W W1 : World} {g : Nat} {v : Value} {L : List Int} (t : Xk w0 W g v L) (hb : Below W.heap.size W W1) : Xk w0 W1 g v L :=
  ⟨⟨t.1.1.keep hb, t.1.2.keep hb⟩, t.2.1, t.2.2.1, bel_trans t.2.2.2 hb⟩
theorem own_raise {W : World} {b b2 : Nat} {e : TypeId} {v : Value} {xs : List Int} (h : Own W b e v xs) (hb : ∀ k, v.ownBlock = some k → b2 ≤ k) : Own W b2 e v xs := by
  refine ⟨h.1, h.2.1, ?_⟩
  rcases h.2.2 with h1 | ⟨g, cap, cur, rfl, h2, h3⟩
  · exact .inl h1
  · exact .inr ⟨g, cap, cur, rfl, hb g rfl, h3⟩
set_option maxHeartbeats 8000000 in
theorem X_Texts_any (v : Value) (l : List ByteArray) (w : World) (HR : RdS w v l) (hsz : ∀ s ∈ l, s.size ≤ 140737488351232) (hlm : l.length ≤ 140737488351232) :
    Calls Try.prog 18 #[v] w (TxRet w (txA l)) := by
  have hlen : ∀ W, Sem.run Try.prog (Builtin.len_ #[28] 3 #[v]) W = .ok (.int .i64 (l.length : Int)) W := RdC.len (P := Try.prog) HR 28 9 3 Try.underlying28
  have hRH := hd_ HR
  have hsH := hd_ hsz
  clear HR hsz
  by_cases hbig : 1048576 < l.length
  · have hR : txA l = (31, []) := by unfold txA; rw [if_pos hbig]
    rw [hR]
    have hbI : 1048576 < (l.length : Int) := by omega
    clear hR
    go_enter Try.func18, Try.ntmps18
    go_wp2
    go_ret2
    exact ⟨_, rfl, own_nil8 _ _ _, Below.refl _ _⟩
  · have hbI : ¬ 1048576 < (l.length : Int) := by omega
    have hR : txA l = txR l true ⟨#[]⟩ 0 (lebB l.length) := by unfold txA; rw [if_neg hbig]
    rw [hR]
    clear hR
    obtain ⟨R, hRd⟩ : ∃ R, R = txR l true ⟨#[]⟩ 0 (lebB l.length) := ⟨_, rfl⟩
    rw [← hRd]
    have hB0 := al1 (Below.refl w.heap.size w) (.cells #[.slice none 0 0, .int .i64 0] 48)
    have hb0 := Box.new w #[.slice none 0 0, .int .i64 0] 48
    have hwl : IntKind.u64.wrap (l.length : Int) = (l.length : Int) := by rw [IntKind.wrap_u64]; omega
    have hU := hd_ (show Calls Try.prog 24 #[.pointer (some ⟨w.heap.size, 0, none⟩), .int .u64 (l.length : Int)] (w.alloc (.cells #[.slice none 0 0, .int .i64 0] 48)) (XrRet (w.alloc (.cells #[.slice none 0 0, .int .i64 0] 48)) w.heap.size (.slice none 0 0) (0, lebB l.length)) from X_Uint_any w.heap.size (.slice none 0 0) (0, []) l.length _ ⟨hb0, own_nil8 _ _ _⟩ (by omega) (by decide))
    have hW0 := hd_ (show Xk w (w.alloc (.cells #[.slice none 0 0, .int .i64 0] 48)) w.heap.size (.slice none 0 0) [] from ⟨⟨hb0, own_nil8 _ _ _⟩, Nat.le_refl _, fun b e => absurd e (by simp [Value.ownBlock]), hB0⟩)
    have hRH2 := hd_ hRd
    clear hB0 hb0 hRd
    go_enter Try.func18, Try.ntmps18
    go_upto_region 7 with (go_at_call 24; (with_reducible refine hU.out.mono ?_); rintro e w1 ⟨rfl, P1⟩)
    obtain ⟨v1, hW1⟩ := hW0.out.step P1
    have hW1 := hd_ hW1
    clear hU hW0 P1
    go_loopw [5, 21] (fun vall vi wr => ∃ (k : Nat) (ahead : ByteArray) (all : Nat) (L : List Int) (vw : Value), k ≤ l.length ∧ vall = .int .i64 (all : Int) ∧ vi = .int .i64 (k : Int) ∧ Xk w wr w.heap.size vw L ∧ txR (l.drop k) (decide (k = 0)) ahead all L = R ∧ all ≤ 268435456 ∧ L.length ≤ 10 + 20 * k + all ∧ ahead.size ≤ 65536 ∧ (k = 0 → ahead = ⟨#[]⟩) ∧ (∀ p, k = p + 1 → l[p]? = some ahead)) (fun _ vi _ => l.length - (intOf vi).toNat)
    case atStart => exact ⟨0, ⟨#[]⟩, 0, lebB l.length, v1, Nat.zero_le _, rfl, rfl, hW1.out, hRH2.out.symm, by omega, by have := lebB_10 (v := l.length) (by omega); omega, by decide, fun _ => rfl, fun p h => by omega⟩
    case round =>
      clear hW1 hRH2
      obtain ⟨k, ahead, all, L, vw, hk, rfl, rfl, hX, hT, hal, hLl, hah, hz, hpr⟩ := hrel
      by_cases hlt : k < l.length
      · have hkI : (k : Int) < (l.length : Int) := by omega
        obtain ⟨bl, off, hix, hcell0⟩ := hRH.out.at k hlt
        have hss := hsH.out _ (List.getElem_mem hlt)
        rw [List.drop_eq_getElem_cons hlt] at hT
        have hget : l[k]? = some l[k] := List.getElem?_eq_getElem hlt
        generalize l[k] = s at *
        have hgetH := hd_ hget
        have hcell := cell_keep hX.2.2.2 hcell0
        have hXH := hd_ hX
        have hBe := hd_ hX.2.2.2
        have hkx := hd_ hlt
        have hI1 : (Value.int IntKind.i64 (wrap64 ((k : Int) + 1))) = .int .i64 ((k : Int) + 1) := congrArg _ (by unfold wrap64; omega)
        have hall : wrap64 ((all : Int) + (s.size : Int)) = ((all + s.size : Nat) : Int) := by unfold wrap64; omega
        have hall2 : IntKind.i64.wrap ((all : Int) + (s.size : Int)) = ((all + s.size : Nat) : Int) := by rw [IntKind.wrap_i64]; omega
        have hall3 : (all : Int) + (s.size : Int) = ((all + s.size : Nat) : Int) := by omega
        have hsn := hd_ (And.intro hss (And.intro hal (And.intro hLl hah)))
        have hpH := hd_ hpr
        have hzH := hd_ hz
        unfold txR at hT
        clear hcell0 hX hss hLl hk hah hget hz hpr
        generalize hN : all + s.size = al2 at *
        have hNH := hd_ hN
        clear hN
        by_cases hk0 : k = 0
        · have hkz : ¬ 0 < (k : Int) := by omega
          have hkt : decide (k = 0) = true := decide_eq_true hk0
          rw [hkt] at hT
          have hk00 := hd_ hk0
          clear hk0 hkt
          by_cases hA : 65536 < s.size
          · rw [if_pos hA] at hT
            subst hT
            have hAI : 65536 < (s.size : Int) := by omega
            go_wp2
            go_ret2
            exact ⟨_, rfl, own_nil8 _ _ _, hBe.out⟩
          rw [if_neg hA] at hT
          have hAI : ¬ 65536 < (s.size : Int) := by omega
          rw [if_neg (by simp)] at hT
          obtain ⟨nn, hnn⟩ : ∃ nn, nn = shL (byL ahead) (byL s) := ⟨_, rfl⟩
          have hn0 : nn = 0 := by rw [hnn, hzH.out hk00.out]; exact shL_nil _
          by_cases hM : 268435456 < al2
          · rw [if_pos hM] at hT
            subst hT
            have hMI : 268435456 < (al2 : Int) := by omega
            go_wp2
            go_ret2
            exact ⟨_, rfl, own_nil8 _ _ _, hBe.out⟩
          rw [if_neg hM] at hT
          have hMI : ¬ 268435456 < (al2 : Int) := by omega
          have hnl := shL_le (byL ahead) (byL s)
          rw [byL_length, byL_length, ← hnn] at hnl
          rw [← hnn] at hT
          have hsl : ∀ W, Sem.run Try.prog (Instr.slice 9 (.string s) (some (.int .i64 0)) none none) W = .ok (.string (dropS s nn)) W := fun W => by have := run_slice_string_l (P := Try.prog) W 9 s Try.underlying9 .i64 (nn : Int) (by omega) (by omega); rw [Int.toNat_natCast] at this; rw [hn0] at this ⊢; exact this
          have hdz := dropS_size s nn hnl.2
          have hdb := dropS_byL s nn hnl.2
          have hLl := hsn.out.2.2.1
          have hlb1 := lebB_10 (v := nn) (by omega)
          have hlb2 := lebB_10 (v := s.size - nn) (by omega)
          have hWU := hd_ (fun W vw1 (h : Xr W w.heap.size vw1 (0, L)) => show Calls Try.prog 24 #[.pointer (some ⟨w.heap.size, 0, none⟩), .int .u64 0] W (XrRet W w.heap.size vw1 (0, L ++ lebB nn)) from by have := X_Uint_any w.heap.size vw1 (0, L) nn W h (by omega) (by simp only; omega); rw [hn0] at this ⊢; exact this)
          have hWT := hd_ (fun W vw1 (h : Xr W w.heap.size vw1 (0, L ++ lebB nn)) => show Calls Try.prog 53 #[.pointer (some ⟨w.heap.size, 0, none⟩), .string (dropS s nn), .int .i64 65536] W (XrRet W w.heap.size vw1 (0, L ++ lebB nn ++ (lebB (s.size - nn) ++ (byL s).drop nn))) from by
            have := X_Text_any w.heap.size vw1 (0, L ++ lebB nn) (dropS s nn) 65536 W h (by simp only [List.length_append]; omega)
            have e : wText (0, L ++ lebB nn) (byL (dropS s nn)) 65536 = (0, L ++ lebB nn ++ (lebB (s.size - nn) ++ (byL s).drop nn)) := by
              unfold wText
              rw [if_neg (by simp), if_neg (by decide), if_neg (by rw [byL_length, hdz]; omega), byL_length, hdz, hdb]
            rw [e] at this
            exact this)
          obtain ⟨L2, hL2⟩ : ∃ L2, L2 = L ++ lebB nn ++ (lebB (s.size - nn) ++ (byL s).drop nn) := ⟨_, rfl⟩
          have hL2l := hd_ (show L2.length ≤ 10 + 20 * (k + 1) + al2 by
            have h1 : ((byL s).drop nn).length = s.size - nn := by rw [List.length_drop, byL_length]
            have h2 := hNH.out
            rw [hL2]; simp only [List.length_append]; omega)
          rw [← hL2] at hT hWT
          have hTH := hd_ hT
          have hsm := hd_ (show s.size ≤ 65536 ∧ al2 ≤ 268435456 by omega)
          have hU3 := hWU.out _ _ hXH.out.1
          clear hnl hdz hdb hLl hlb1 hlb2 hL2 hT hnn hn0
          go_wp2_with (first
            | fail
            | (go_at_call 24; (with_reducible refine hU3.mono ?_); rintro e w4 ⟨rfl, H4⟩; obtain ⟨v4, P4⟩ := hXH.out.step H4; have hT4 := hWT.out _ _ P4.1)
            | (go_at_call 53; (with_reducible refine hT4.mono ?_); rintro e w5 ⟨rfl, H5⟩; obtain ⟨v5, P5⟩ := P4.step H5))
          go_roundw
          case rel => exact ⟨k + 1, s, al2, L2, v5, hkx.out, rfl, by first | rfl | (rw [hI1]; rfl), P5, hTH.out, hsm.out.2, hL2l.out, hsm.out.1, fun h => by omega, fun p h => by have h2 : p = k := (by omega); rw [h2]; exact hgetH.out⟩
          case measure => first | (rw [hI1]; exact meas_k1t _ _ hkx.out) | exact meas_k1t _ _ hkx.out
        · have hkz : 0 < (k : Int) := by omega
          have hkf0 : decide (k = 0) = false := decide_eq_false hk0
          obtain ⟨p, hp⟩ : ∃ p, p = k - 1 := ⟨_, rfl⟩
          have hplt : p < l.length := by omega
          have hpa := hpH.out p (by omega)
          obtain ⟨bl1, off1, hix1, hcell1⟩ := hRH.out.at p hplt
          rw [List.getElem?_eq_getElem hplt] at hpa
          injection hpa with hpa
          rw [hpa] at hcell1
          have hcell1 := cell_keep hBe.out hcell1
          have hpw : wrap64 ((k : Int) - 1) = (p : Int) := by unfold wrap64; omega
          have hpw2 : IntKind.i64.wrap ((k : Int) - 1) = (p : Int) := by rw [IntKind.wrap_i64]; omega
          have hpw3 : (k : Int) - 1 = (p : Int) := by omega
          clear hpa hp hplt
          by_cases hA : 65536 < s.size
          · rw [if_pos hA] at hT
            subst hT
            have hAI : 65536 < (s.size : Int) := by omega
            go_wp2
            go_ret2
            exact ⟨_, rfl, own_nil8 _ _ _, hBe.out⟩
          rw [if_neg hA] at hT
          have hAI : ¬ 65536 < (s.size : Int) := by omega
          have hkf : decide (k = 0) = false := decide_eq_false hk0
          by_cases hQ : lq s ahead = true
          · rw [if_pos ⟨hkf, hQ⟩] at hT
            subst hT
            have hQ2 : (Op.bytesLess s.toList ahead.toList || s.toList == ahead.toList) = true := hQ
            go_wp2
            go_ret2
            exact ⟨_, rfl, own_nil8 _ _ _, hBe.out⟩
          rw [if_neg (fun h => hQ h.2)] at hT
          have hQ2 : (Op.bytesLess s.toList ahead.toList || s.toList == ahead.toList) = false := by simpa [lq] using hQ
          obtain ⟨nn, hnn⟩ : ∃ nn, nn = shL (byL ahead) (byL s) := ⟨_, rfl⟩
          have hshc := hd_ (show Calls Try.prog 52 #[.string ahead, .string s] wr (fun e w' => e = .returned (.int .i64 (nn : Int)) ∧ ∃ m, w' = wr.drewN m) by rw [hnn]; exact X_shared_any ahead s (by have := hsn.out.2.2.2; omega) wr)
          by_cases hM : 268435456 < al2
          · rw [if_pos hM] at hT
            subst hT
            have hMI : 268435456 < (al2 : Int) := by omega
            clear hnn
            go_wp2_with (go_at_call 52; (with_reducible refine hshc.out.mono ?_); rintro e w3 ⟨rfl, m3, rfl⟩)
            go_ret2
            exact ⟨_, rfl, own_nil8 _ _ _, below_drewN hBe.out _⟩
          rw [if_neg hM] at hT
          have hMI : ¬ 268435456 < (al2 : Int) := by omega
          have hnl := shL_le (byL ahead) (byL s)
          rw [byL_length, byL_length, ← hnn] at hnl
          rw [← hnn] at hT
          have hwn : IntKind.u64.wrap (nn : Int) = (nn : Int) := by rw [IntKind.wrap_u64]; omega
          have hsl : ∀ W, Sem.run Try.prog (Instr.slice 9 (.string s) (some (.int .i64 (nn : Int))) none none) W = .ok (.string (dropS s nn)) W := fun W => by have := run_slice_string_l (P := Try.prog) W 9 s Try.underlying9 .i64 (nn : Int) (by omega) (by omega); rw [Int.toNat_natCast] at this; exact this
          have hdz := dropS_size s nn hnl.2
          have hdb := dropS_byL s nn hnl.2
          have hLl := hsn.out.2.2.1
          have hlb1 := lebB_10 (v := nn) (by omega)
          have hlb2 := lebB_10 (v := s.size - nn) (by omega)
          have hWU := hd_ (fun W vw1 (h : Xr W w.heap.size vw1 (0, L)) => show Calls Try.prog 24 #[.pointer (some ⟨w.heap.size, 0, none⟩), .int .u64 (nn : Int)] W (XrRet W w.heap.size vw1 (0, L ++ lebB nn)) from by have := X_Uint_any w.heap.size vw1 (0, L) nn W h (by omega) (by simp only; omega); exact this)
          have hWT := hd_ (fun W vw1 (h : Xr W w.heap.size vw1 (0, L ++ lebB nn)) => show Calls Try.prog 53 #[.pointer (some ⟨w.heap.size, 0, none⟩), .string (dropS s nn), .int .i64 65536] W (XrRet W w.heap.size vw1 (0, L ++ lebB nn ++ (lebB (s.size - nn) ++ (byL s).drop nn))) from by
            have := X_Text_any w.heap.size vw1 (0, L ++ lebB nn) (dropS s nn) 65536 W h (by simp only [List.length_append]; omega)
            have e : wText (0, L ++ lebB nn) (byL (dropS s nn)) 65536 = (0, L ++ lebB nn ++ (lebB (s.size - nn) ++ (byL s).drop nn)) := by
              unfold wText
              rw [if_neg (by simp), if_neg (by decide), if_neg (by rw [byL_length, hdz]; omega), byL_length, hdz, hdb]
            rw [e] at this
            exact this)
          obtain ⟨L2, hL2⟩ : ∃ L2, L2 = L ++ lebB nn ++ (lebB (s.size - nn) ++ (byL s).drop nn) := ⟨_, rfl⟩
          have hL2l := hd_ (show L2.length ≤ 10 + 20 * (k + 1) + al2 by
            have h1 : ((byL s).drop nn).length = s.size - nn := by rw [List.length_drop, byL_length]
            have h2 := hNH.out
            rw [hL2]; simp only [List.length_append]; omega)
          rw [← hL2] at hT hWT
          have hTH := hd_ hT
          have hsm := hd_ (show s.size ≤ 65536 ∧ al2 ≤ 268435456 by omega)
          clear hnl hdz hdb hLl hlb1 hlb2 hL2 hT hnn
          go_wp2_with (first
            | fail
            | (go_at_call 52; (with_reducible refine hshc.out.mono ?_); rintro e w3 ⟨rfl, m3, rfl⟩; have P3 := hXH.out.keep (below_drewN (Below.refl wr.heap.size wr) m3); have hU3 := hWU.out _ _ P3.1)
            | (go_at_call 24; (with_reducible refine hU3.mono ?_); rintro e w4 ⟨rfl, H4⟩; obtain ⟨v4, P4⟩ := P3.step H4; have hT4 := hWT.out _ _ P4.1)
            | (go_at_call 53; (with_reducible refine hT4.mono ?_); rintro e w5 ⟨rfl, H5⟩; obtain ⟨v5, P5⟩ := P4.step H5))
          go_roundw
          case rel => exact ⟨k + 1, s, al2, L2, v5, hkx.out, rfl, by first | rfl | (rw [hI1]; rfl), P5, hTH.out, hsm.out.2, hL2l.out, hsm.out.1, fun h => by omega, fun p h => by have h2 : p = k := (by omega); rw [h2]; exact hgetH.out⟩
          case measure => first | (rw [hI1]; exact meas_k1t _ _ hkx.out) | exact meas_k1t _ _ hkx.out
      · obtain rfl : k = l.length := by omega
        rw [List.drop_length] at hT
        have hRe : R = (0, L) := hT.symm
        have hReH := hd_ hRe
        have hq0 : wr.cell? ⟨w.heap.size, 0, none⟩ = some vw := hX.1.1.cell 0 rfl
        have hXe := hd_ hX
        clear hX hT hRe
        go_wp2
        go_ret2
        rw [hReH.out]
        exact ⟨vw, rfl, own_raise hXe.out.1.2 hXe.out.2.2.1, hXe.out.2.2.2⟩
end Go.Proofs.Ytlaeiipiboabaaa
