/- The document's Open, walked. -/
import Derived.Test.YtlaeiipiboabaaaTyC
namespace Go.Proofs.Ytlaeiipiboabaaa
open Go.RowKit
set_option maxRecDepth 100000
set_option linter.unusedVariables false
theorem rd_oldT {w : World} {v : Value} {B : List Int} (h : Rd w v B) : B = [] ∨ ∀ k, v.ownBlock = some k → k < w.heap.size := by
  by_cases hB : B = []
  · exact .inl hB
  · refine .inr fun k hk => ?_
    obtain ⟨A, cap, hv, _, _, _, hc⟩ := h.form
    obtain ⟨b, off, hA, hcell⟩ := hc 0 (by cases B with | nil => exact absurd rfl hB | cons => simp)
    rw [hv, hA] at hk
    have e : (Value.slice (some ⟨b, off, none⟩) B.length cap).ownBlock = some b ∨ (Value.slice (some ⟨b, off, none⟩) B.length cap).ownBlock = none := by
      first | exact .inl rfl | (unfold Value.ownBlock; split <;> simp)
    rcases e with e | e
    · rw [e] at hk
      injection hk with hk
      subst hk
      exact World.block_lt_of_cell? w _ hcell
    · rw [e] at hk; cases hk
/-- the document's reader and a list of texts that grows -/
def Lq (w0 W : World) (g : Nat) (v : Value) (B : List Int) (a : Nat) (err : Int) (u : Value) (l : List ByteArray) : Prop :=
  Qr W g v B a err ∧ W.ownsRow w0.heap.size 9 1 u l.length (l.map Value.string) ∧ w0.heap.size ≤ g ∧ Below w0.heap.size w0 W ∧ Rd w0 v B
section
variable {w0 W W1 : World} {g : Nat} {v u : Value} {B : List Int} {a a1 : Nat} {err e1 : Int} {l : List ByteArray}
theorem Lq.post (t : Lq w0 W g v B a err u l) (p : QrPost W g v B a1 e1 W1) : Lq w0 W1 g v B a1 e1 u l := by
  refine ⟨p.1, row_chg t.2.1 p.2 (fun k hk h => ?_), t.2.2.1, p.2.then t.2.2.2.1 (fun k h => by rw [h]; exact t.2.2.1) t.2.2.2.1.size, t.2.2.2.2⟩
  subst h
  rcases own_ne t.2.1 t.1.1 (by decide) with h1 | h1
  · rw [h1] at hk; cases hk
  · exact h1 hk
theorem Lq.keep (t : Lq w0 W g v B a err u l) (hb : Below W.heap.size W W1) : Lq w0 W1 g v B a err u l :=
  ⟨t.1.keep hb, row_keep t.2.1 hb, t.2.2.1, bel_trans t.2.2.2.1 hb, t.2.2.2.2⟩
theorem Lq.app {s : ByteArray} {u1 : Value} (t : Lq w0 W g v B a err u l) (h1 : W1.ownsRow w0.heap.size 9 1 u1 (l.length + 1) (l.map Value.string ++ [Value.string s])) (hg : W.grownBy W1 u.ownBlock) : Lq w0 W1 g v B a err u1 (l ++ [s]) := by
  have HB := t.2.2.2.1.grown hg t.2.2.2.1.size (fun k hk => (t.2.1.lt k hk).1)
  refine ⟨⟨t.1.1.grown hg ?_, t.2.2.2.2.keep HB, t.1.2.2⟩, by rw [List.length_append, List.map_append]; exact h1, t.2.2.1, HB, t.2.2.2.2⟩
  intro h
  rcases own_ne t.2.1 t.1.1 (by decide) with h2 | h2
  · rw [h2] at h; cases h
  · exact h2 h.symm
end
theorem wrap_m2 (a b : Nat) (h : a + b ≤ 1000000000) (c : Nat) (hc : c = a + b) : wrap64 ((a : Int) + (b : Int)) = (c : Int) := by rw [hc]; exact wrap_addN a b h
theorem wrap_m3 (a b : Nat) (h : a + b ≤ 1000000000) (c : Nat) (hc : c = a + b) : IntKind.i64.wrap ((a : Int) + (b : Int)) = (c : Int) := by rw [hc]; exact wrap_addK a b h
theorem shL_nil2 (s : ByteArray) : shL (byL ⟨#[]⟩) (byL s) = 0 := shL_nil _
set_option maxHeartbeats 8000000 in
theorem X_Open_any (v : Value) (B : List Int) (w : World) (HR : Rd w v B) (hl : B.length ≤ 140737488351241) :
    Calls Try.prog 34 #[v] w (OpRet w (opA B)) := by
  obtain ⟨n, hn, hnm⟩ := rCount_n B HR.1
  have hBy := hd_ HR.1
  obtain ⟨ce, hce⟩ : ∃ e, e = (rCount B 0 0 1048576 2).2.2 := ⟨_, rfl⟩
  obtain ⟨ca, hca⟩ : ∃ e, e = (rCount B 0 0 1048576 2).2.1 := ⟨_, rfl⟩
  obtain ⟨A0, c0, hv0, hjk⟩ := HR.form
  clear hjk
  have hold := rd_oldT HR
  have hb0 := Box.new w #[.slice A0 B.length c0, .int .i64 0, .int .i64 0] 72
  have hB0 := al1 (Below.refl w.heap.size w) (.cells #[.slice A0 B.length c0, .int .i64 0, .int .i64 0] 72)
  rw [hv0] at HR hold
  have hLq0 := hd_ (show Lq w (w.alloc (.cells #[.slice A0 B.length c0, .int .i64 0, .int .i64 0] 72)) w.heap.size (.slice A0 B.length c0) B 0 0 (.slice none 0 0) [] from ⟨⟨hb0, HR.keep hB0, hold.imp id (fun h e => by have := h _ e; omega), Nat.zero_le _⟩, World.ownsRow_nil _ _ _ _, Nat.le_refl _, hB0, HR⟩)
  have hC := hd_ (show Calls Try.prog 71 #[.pointer (some ⟨w.heap.size, 0, none⟩), .int .i64 1048576, .int .i64 2] (w.alloc (.cells #[.slice A0 B.length c0, .int .i64 0, .int .i64 0] 72)) (QRet (w.alloc (.cells #[.slice A0 B.length c0, .int .i64 0, .int .i64 0] 72)) w.heap.size (.slice A0 B.length c0) B (.int .i64 (n : Int)) ca ce) from by have := Q_Count_any _ _ B 0 0 1048576 2 _ hLq0.out.1 (by decide) (by decide); rw [hn, ← hce, ← hca] at this; exact this)
  subst hv0
  have hRd : opC0 B = if ce ≠ 0 then (ce, 0, []) else opR B n true ⟨#[]⟩ 0 [] ca := by unfold opC0; rw [hn, ← hce, ← hca, Int.toNat_natCast]
  obtain ⟨Q, hQ⟩ : ∃ Q, Q = opA B := ⟨_, rfl⟩
  rw [← hQ]
  unfold opA at hQ
  generalize opC0 B = R at *
  have hExit := hd_ (show ∀ a err l, rEnd B R.2.1 R.1 = rEnd B a err → (err = 0 → R.2.2 = l) → (rEnd B a err ≠ 0 → Q = (rEnd B a err, [])) ∧ (rEnd B a err = 0 → Q = (0, l)) from fun a err l h1 h2 => by
    rw [hQ, h1]
    refine ⟨fun h => by rw [if_pos h], fun h => ?_⟩
    rw [if_neg (fun h3 => h3 h), h2 (rEnd_z h)])
  have hRH := hd_ hRd
  have hnH := hd_ hnm
  clear hn hce hca hRd hQ HR hl hold hb0 hB0
  go_enter Try.func34, Try.ntmps34
  go_wp2_with (go_at_call 71; (with_reducible refine hC.out.mono ?_); rintro e w2 ⟨rfl, HP2⟩; have hL2 := hd_ (hLq0.out.post HP2))
  clear hC hLq0 HP2
  have hLk0 := hL2
  clear hL2
  go_loopw [6, 7, 8, 9] (fun vu va vall vi wr => ∃ (k : Nat) (ahead : ByteArray) (all a : Nat) (err : Int) (l : List ByteArray), k ≤ n ∧ va = .string ahead ∧ vall = .int .i64 (all : Int) ∧ vi = .int .i64 (k : Int) ∧ Lq w wr w.heap.size (.slice A0 B.length c0) B a err vu l ∧ l.length = k ∧ (k = 0 → ahead = ⟨#[]⟩) ∧ (err ≠ 0 → R.1 = err) ∧ (err = 0 → opR B (n - k) (decide (k = 0)) ahead all l a = R ∧ all ≤ 268435456 ∧ ahead.size ≤ 65536)) (fun _ _ _ vi _ => n - (intOf vi).toNat)
  case atStart =>
    refine ⟨0, ⟨#[]⟩, 0, ca, ce, [], Nat.zero_le _, rfl, rfl, rfl, hLk0.out, rfl, fun _ => rfl, fun h => by rw [hRH.out, if_pos h], fun h => ⟨by rw [hRH.out, if_neg (fun h2 => h2 h)]; rfl, by decide, by decide⟩⟩
  case round =>
    obtain ⟨k, ahead, all, a, err, l, hk, rfl, rfl, rfl, hX, hlk, hah0, hbad, hgood⟩ := hrel
    have hq0 : wr.cell? ⟨w.heap.size, 2, none⟩ = some (.int .i64 err) := hX.1.1.cell 2 rfl
    have hXH := hd_ hX
    have hlkH := hd_ hlk
    have hah0 := hd_ hah0
    clear hX hLk0 hRH hlk
    by_cases hlt : k < n
    · have hkI : (k : Int) < (n : Int) := by omega
      by_cases h0 : err = 0
      · subst h0
        obtain ⟨hT, hall, hah⟩ := hgood rfl
        clear hgood hbad
        have hnk : n - k = (n - (k + 1)) + 1 := by omega
        rw [hnk, opR_succ] at hT
        obtain ⟨xn, hxn, hxm⟩ := rInt_n B hBy.out a hXH.out.1.2.2.2 0
        have ha1m := rInt_atT B hBy.out a hXH.out.1.2.2.2 0
        have hIc := Q_Int_any w.heap.size (.slice A0 B.length c0) B a 0 65536 wr hXH.out.1 (by decide)
        obtain ⟨a1, ha1⟩ : ∃ z, z = (rInt B a 0 65536).2.1 := ⟨_, rfl⟩
        obtain ⟨e1, he1⟩ : ∃ z, z = (rInt B a 0 65536).2.2 := ⟨_, rfl⟩
        have hi : rInt B a 0 65536 = ((xn : Int), a1, e1) := by rw [ha1, he1, ← hxn]
        rw [hi] at hIc ha1m
        have hIc := hd_ hIc
        clear ha1 he1 hxn hnk
        have hTbad := hd_ (fun W u e (he : e ≠ 0) (h : Lq w W w.heap.size (.slice A0 B.length c0) B a1 e u l) => show Calls Try.prog 74 #[.pointer (some ⟨w.heap.size, 0, none⟩), .int .i64 65536] W (QRet W w.heap.size (.slice A0 B.length c0) B (.string ⟨#[]⟩) a1 e) from by
          have := Q_Text_any w.heap.size (.slice A0 B.length c0) B a1 e 65536 W h.1 (by decide)
          have e2 : rText B a1 e 65536 = ([], a1, e) := by unfold rText; rw [if_pos he]
          rw [e2] at this
          exact this)
        by_cases h1 : e1 = 0
        · subst h1
          have hFc := hd_ (fun (x : Int) W a u (h : Lq w W w.heap.size (.slice A0 B.length c0) B a 0 u l) => show Calls Try.prog 73 #[.pointer (some ⟨w.heap.size, 0, none⟩), .int .i64 x] W (QFailRet W w.heap.size (.slice A0 B.length c0) B a x) from by have := Q_Fail_any w.heap.size (.slice A0 B.length c0) B a 0 x W h.1; exact this)
          by_cases hle : xn ≤ ahead.size
          · have hleI : ¬ (ahead.size : Int) < (xn : Int) := by omega
            obtain ⟨hrl, hrb⟩ := rText_n B hBy.out a1 ha1m 0
            obtain ⟨r, hr⟩ : ∃ z, z = (rText B a1 0 65536).1 := ⟨_, rfl⟩
            obtain ⟨a2, ha2⟩ : ∃ z, z = (rText B a1 0 65536).2.1 := ⟨_, rfl⟩
            obtain ⟨e2, he2⟩ : ∃ z, z = (rText B a1 0 65536).2.2 := ⟨_, rfl⟩
            have ht : rText B a1 0 65536 = (r, a2, e2) := by rw [hr, ha2, he2]
            have hTc := hd_ (fun W u (h : Lq w W w.heap.size (.slice A0 B.length c0) B a1 0 u l) => show Calls Try.prog 74 #[.pointer (some ⟨w.heap.size, 0, none⟩), .int .i64 65536] W (QRet W w.heap.size (.slice A0 B.length c0) B (.string (strOfNums r)) a2 e2) from by have := Q_Text_any w.heap.size (.slice A0 B.length c0) B a1 0 65536 W h.1 (by decide); rw [ht] at this; exact this)
            rw [ht] at hrl hrb
            simp only at hrl hrb
            obtain ⟨s, hs⟩ : ∃ s, s = ahead.extract 0 xn ++ strOfNums r := ⟨_, rfl⟩
            by_cases h2 : e2 = 0
            · subst h2
              have hsz : s.size = xn + (strOfNums r).size := by rw [hs, app_size, take_size _ _ hle]
              have hrz : (strOfNums r).size = r.length := strOfNums_size r
              generalize hrs : strOfNums r = rs at *
              obtain ⟨nn, hnn⟩ : ∃ nn, nn = shL (byL ahead) (byL s) := ⟨_, rfl⟩
              have hopS : opS B (decide (k = 0)) ahead all a = if 65536 < s.size ∨ 268435456 < all + s.size then (31, 0, ahead) else if (xn : Int) < (nn : Int) then (32, 0, ahead) else if (decide (k = 0)) = false ∧ lq s ahead = true then (33, 0, ahead) else (0, a2, s) := by
                unfold opS
                rw [hi]
                simp only
                rw [ht, Int.toNat_natCast, hrs, ← hs, if_neg (by simp), if_neg (by omega)]
                simp only
                rw [if_neg (by simp), ← hnn]
              obtain ⟨ss, hss⟩ : ∃ ss, ss = s.size := ⟨_, rfl⟩
              obtain ⟨al2, hal2⟩ : ∃ al2, al2 = all + ss := ⟨_, rfl⟩
              obtain ⟨rz, hrz2⟩ : ∃ rz, rz = rs.size := ⟨_, rfl⟩
              have hb8 : al2 ≤ 1000000000 := by omega
              have b1 : xn + rs.size ≤ 1000000000 := by omega
              have b2 : all + ss ≤ 1000000000 := by omega
              have b3 : ss = xn + rs.size := by omega
              have w1 : wrap64 ((xn : Int) + (rs.size : Int)) = (ss : Int) := wrap_m2 xn rs.size b1 ss b3
              have w2 : wrap64 ((all : Int) + (ss : Int)) = (al2 : Int) := wrap_m2 all ss b2 al2 hal2
              have w3 : IntKind.i64.wrap ((xn : Int) + (rs.size : Int)) = (ss : Int) := wrap_m3 xn rs.size b1 ss b3
              have w4 : IntKind.i64.wrap ((all : Int) + (ss : Int)) = (al2 : Int) := wrap_m3 all ss b2 al2 hal2
              have w1 := hd_ w1
              have w2 := hd_ w2
              have w3 := hd_ w3
              have w4 := hd_ w4
              have b4 : (ahead.extract 0 xn).size + rs.size ≤ 9223372036854775807 := by rw [take_size _ _ hle]; exact Nat.le_trans b1 (by decide)
              have b5 : ahead.size ≤ 4611686018427387904 := by omega
              have b6 : (l.length + 1) * 16 ≤ 140737488355328 := by have := hlkH.out; omega
              have b7 : all + s.size = al2 := by omega
              clear b1 b2 b3
              have hb7 := hd_ b7
              have hb6 := hd_ b6
              clear b7 b6
              rw [← hss, ← hal2] at hopS
              have hopS := hd_ hopS
              have hI1 : (Value.int IntKind.i64 (wrap64 ((k : Int) + 1))) = .int .i64 ((k : Int) + 1) := congrArg _ (wrap_add1 k (by omega))
              have g1 : (0 : Int) ≤ (xn : Int) := Int.natCast_nonneg _
              have g2 : (xn : Int) ≤ (ahead.size : Int) := Int.ofNat_le.2 hle
              have hsl : ∀ W, Sem.run Try.prog (Instr.slice 9 (.string ahead) none (some (.int .i64 (xn : Int))) none) W = .ok (.string (ahead.extract 0 xn)) W := fun W => by have := run_slice_string_h (P := Try.prog) W 9 ahead Try.underlying9 .i64 (xn : Int) g1 g2; rw [Int.toNat_natCast] at this; exact this
              have hadd : ∀ W, Sem.run Try.prog (Op.stringOp .add (ahead.extract 0 xn) rs) W = .ok (.string s) W := fun W => by rw [hs]; exact run_string_add_sum (P := Try.prog) W _ _ b4
              have hshc := hd_ (fun W => show Calls Try.prog 52 #[.string ahead, .string s] W (fun e w' => e = .returned (.int .i64 (nn : Int)) ∧ ∃ m, w' = W.drewN m) by rw [hnn]; exact X_shared_any ahead s b5 W)
              have hnz := hd_ (show k = 0 → nn = 0 from fun h => by rw [hnn, hah0.out h]; exact shL_nil2 _)
              have hlb := hb6
              clear b4 b5
              clear hnn hs hrl hrb hr ha2 he2 ht hi hxm ha1m hah hall hrs hrz hsz hrz2
              have w1 := w1.out
              have w2 := w2.out
              have w3 := w3.out
              have w4 := w4.out
              have hssH := hd_ hss
              clear hss
              by_cases hA : 65536 < ss
              · rw [hopS.out, if_pos (show 65536 < ss ∨ 268435456 < al2 from .inl hA)] at hT
                rw [if_pos (by simp)] at hT
                clear hopS
                have hAI : 65536 < (ss : Int) := by omega
                clear hal2
                obtain ⟨hx1, _⟩ := hExit.out a2 31 l (by rw [show R.1 = 31 from by rw [← hT], rEnd_ne (by decide), rEnd_ne (by decide)]) (fun h => absurd h (by decide))
                rw [rEnd_ne (by decide)] at hx1
                obtain rfl := hx1 (by decide)
                have hEnd := hd_ (fun W u (h : Lq w W w.heap.size (.slice A0 B.length c0) B a2 31 u l) => show Calls Try.prog 75 #[.pointer (some ⟨w.heap.size, 0, none⟩)] W (fun e w' => e = .returned (.int .i64 31) ∧ Below W.heap.size W w') from by have := Q_End_any w.heap.size (.slice A0 B.length c0) B a2 31 W h.1; rw [rEnd_ne (by decide)] at this; exact this)
                clear hT hExit
                go_wp2_with (first
                  | (go_at_call 72; (with_reducible refine hIc.out.mono ?_); rintro e w4 ⟨rfl, HP4⟩; have hX4 := hXH.out.post HP4; have q4 : w4.cell? ⟨w.heap.size, 2, none⟩ = some (.int .i64 0) := HP4.1.1.cell 2 rfl; have hT5 := hTc.out _ _ hX4)
                  | (go_at_call 74; (with_reducible refine hT5.mono ?_); rintro e w5 ⟨rfl, HP5⟩; have hX5 := hX4.post HP5; have q5 : w5.cell? ⟨w.heap.size, 2, none⟩ = some (.int .i64 0) := HP5.1.1.cell 2 rfl; skip)
                  | (go_at_call 73; (with_reducible refine (hFc.out 31 _ _ _ hX5).mono ?_); rintro e w6 ⟨rfl, HP6⟩; have hXz := hX5.post HP6; have q6 : w6.cell? ⟨w.heap.size, 2, none⟩ = some (.int .i64 31) := HP6.1.1.cell 2 rfl; have hEz := hEnd.out _ _ hXz)
                  | (go_at_call 75; (with_reducible refine hEz.mono ?_); rintro e wy ⟨rfl, HBy⟩))
                go_ret2
                exact ⟨_, rfl, rds_nil _, bel_trans hXz.2.2.2.1 HBy⟩
              by_cases hM : 268435456 < al2
              · rw [hopS.out, if_pos (show 65536 < ss ∨ 268435456 < al2 from .inr hM)] at hT
                rw [if_pos (by simp)] at hT
                clear hopS
                have hAI : ¬ 65536 < (ss : Int) := by omega
                have hMI : 268435456 < (al2 : Int) := by omega
                clear hal2
                obtain ⟨hx1, _⟩ := hExit.out a2 31 l (by rw [show R.1 = 31 from by rw [← hT], rEnd_ne (by decide), rEnd_ne (by decide)]) (fun h => absurd h (by decide))
                rw [rEnd_ne (by decide)] at hx1
                obtain rfl := hx1 (by decide)
                have hEnd := hd_ (fun W u (h : Lq w W w.heap.size (.slice A0 B.length c0) B a2 31 u l) => show Calls Try.prog 75 #[.pointer (some ⟨w.heap.size, 0, none⟩)] W (fun e w' => e = .returned (.int .i64 31) ∧ Below W.heap.size W w') from by have := Q_End_any w.heap.size (.slice A0 B.length c0) B a2 31 W h.1; rw [rEnd_ne (by decide)] at this; exact this)
                clear hT hExit
                go_wp2_with (first
                  | (go_at_call 72; (with_reducible refine hIc.out.mono ?_); rintro e w4 ⟨rfl, HP4⟩; have hX4 := hXH.out.post HP4; have q4 : w4.cell? ⟨w.heap.size, 2, none⟩ = some (.int .i64 0) := HP4.1.1.cell 2 rfl; have hT5 := hTc.out _ _ hX4)
                  | (go_at_call 74; (with_reducible refine hT5.mono ?_); rintro e w5 ⟨rfl, HP5⟩; have hX5 := hX4.post HP5; have q5 : w5.cell? ⟨w.heap.size, 2, none⟩ = some (.int .i64 0) := HP5.1.1.cell 2 rfl; skip)
                  | (go_at_call 73; (with_reducible refine (hFc.out 31 _ _ _ hX5).mono ?_); rintro e w6 ⟨rfl, HP6⟩; have hXz := hX5.post HP6; have q6 : w6.cell? ⟨w.heap.size, 2, none⟩ = some (.int .i64 31) := HP6.1.1.cell 2 rfl; have hEz := hEnd.out _ _ hXz)
                  | (go_at_call 75; (with_reducible refine hEz.mono ?_); rintro e wy ⟨rfl, HBy⟩))
                go_ret2
                exact ⟨_, rfl, rds_nil _, bel_trans hXz.2.2.2.1 HBy⟩
              have hopS := hopS.out
              rw [if_neg (show ¬ (65536 < ss ∨ 268435456 < al2) from fun h => h.elim hA hM)] at hopS
              have hAI : ¬ 65536 < (ss : Int) := by omega
              have hMI : ¬ 268435456 < (al2 : Int) := by omega
              have hsm := hd_ (show al2 ≤ 268435456 ∧ s.size ≤ 65536 by have := hssH.out; omega)
              have hal2H := hb7
              clear hal2
              by_cases hk0 : k = 0
              · have hn0 := hnz.out hk0
                have hkz : ¬ 0 < (k : Int) := by omega
                rw [if_neg (show ¬ (xn : Int) < (nn : Int) by omega), if_neg (show ¬ (decide (k = 0) = false ∧ lq s ahead = true) by rw [decide_eq_true hk0]; simp)] at hopS
                rw [hopS, if_neg (by simp)] at hT
                simp only at hT
                rw [hal2H.out] at hT
                clear hopS
                have hf := hd_ (And.intro hlt hT)
                clear hk0 hn0
                go_wp2_with (first
                  | (go_at_call 72; (with_reducible refine hIc.out.mono ?_); rintro e w4 ⟨rfl, HP4⟩; have hX4 := hXH.out.post HP4; have q4 : w4.cell? ⟨w.heap.size, 2, none⟩ = some (.int .i64 0) := HP4.1.1.cell 2 rfl; have hT5 := hTc.out _ _ hX4)
                  | (go_at_call 74; (with_reducible refine hT5.mono ?_); rintro e w5 ⟨rfl, HP5⟩; have hX5 := hX4.post HP5; have q5 : w5.cell? ⟨w.heap.size, 2, none⟩ = some (.int .i64 0) := HP5.1.1.cell 2 rfl; have hX7 := hX5.keep (al1 (Below.refl w5.heap.size w5) (.cells #[.string s] 9)); have hrow := hX7.2.1; have hbelow := hX7.2.2.2.1)
                  | (at_builtin; (refine app_rd w.heap.size rfl _ _ 28 9 (.string ⟨#[]⟩) 1 16 rfl Try.underlying28 infoS rfl (by omega) _ _ l.length 1 (l.map Value.string) [.string s] rfl rfl hrow (box_one _ _ _) (one_str s) hbelow.size (by omega) hlb.out ?_); intro v12 w12 HO12 hg12 hat12; have hX12 := hX7.app HO12 hg12))
                go_roundw
                case rel =>
                  exact ⟨k + 1, s, al2, a2, 0, l ++ [s], hf.out.1, rfl, rfl, by first | rfl | (rw [hI1]; rfl), hX12, by rw [List.length_append, hlkH.out]; rfl, fun h => by omega, fun h => absurd rfl h, fun _ => ⟨by rw [decide_eq_false (by omega)]; exact hf.out.2, hsm.out⟩⟩
                case measure => first | (rw [hI1]; exact meas_k1t _ _ hf.out.1) | exact meas_k1t _ _ hf.out.1
              · have hkz : 0 < (k : Int) := by omega
                rw [decide_eq_false hk0] at hT hopS
                by_cases hN : xn < nn
                · have hNI : (xn : Int) < (nn : Int) := Int.ofNat_lt.2 hN
                  rw [if_pos hNI] at hopS
                  rw [hopS, if_pos (by simp)] at hT
                  clear hopS
                  obtain ⟨hx1, _⟩ := hExit.out a2 32 l (by rw [show R.1 = 32 from by rw [← hT], rEnd_ne (by decide), rEnd_ne (by decide)]) (fun h => absurd h (by decide))
                  rw [rEnd_ne (by decide)] at hx1
                  obtain rfl := hx1 (by decide)
                  have hEnd := hd_ (fun W u (h : Lq w W w.heap.size (.slice A0 B.length c0) B a2 32 u l) => show Calls Try.prog 75 #[.pointer (some ⟨w.heap.size, 0, none⟩)] W (fun e w' => e = .returned (.int .i64 32) ∧ Below W.heap.size W w') from by have := Q_End_any w.heap.size (.slice A0 B.length c0) B a2 32 W h.1; rw [rEnd_ne (by decide)] at this; exact this)
                  clear hT hExit
                  go_wp2_with (first
                    | (go_at_call 72; (with_reducible refine hIc.out.mono ?_); rintro e w4 ⟨rfl, HP4⟩; have hX4 := hXH.out.post HP4; have q4 : w4.cell? ⟨w.heap.size, 2, none⟩ = some (.int .i64 0) := HP4.1.1.cell 2 rfl; have hT5 := hTc.out _ _ hX4)
                    | (go_at_call 74; (with_reducible refine hT5.mono ?_); rintro e w5 ⟨rfl, HP5⟩; have hX5 := hX4.post HP5; have q5 : w5.cell? ⟨w.heap.size, 2, none⟩ = some (.int .i64 0) := HP5.1.1.cell 2 rfl; skip)
                    | (go_at_call 52; (with_reducible refine (hshc.out _).mono ?_); rintro e w6 ⟨rfl, m6, rfl⟩; have hX6 := hX5.keep (below_drewN (Below.refl w5.heap.size w5) m6))
                    | (go_at_call 73; (with_reducible refine (hFc.out 32 _ _ _ hX6).mono ?_); rintro e w7 ⟨rfl, HP7⟩; have hXz := hX6.post HP7; have q7 : w7.cell? ⟨w.heap.size, 2, none⟩ = some (.int .i64 32) := HP7.1.1.cell 2 rfl; have hEz := hEnd.out _ _ hXz)
                    | (go_at_call 75; (with_reducible refine hEz.mono ?_); rintro e wy ⟨rfl, HBy⟩))
                  go_ret2
                  exact ⟨_, rfl, rds_nil _, bel_trans hXz.2.2.2.1 HBy⟩
                have hNI : ¬ (xn : Int) < (nn : Int) := fun h => hN (Int.ofNat_lt.1 h)
                rw [if_neg hNI] at hopS
                by_cases hQ0 : lq s ahead = true
                · rw [if_pos (show false = false ∧ lq s ahead = true from ⟨rfl, hQ0⟩)] at hopS
                  rw [hopS, if_pos (by simp)] at hT
                  clear hopS
                  have hQ2 : (Op.bytesLess s.toList ahead.toList || s.toList == ahead.toList) = true := hQ0
                  obtain ⟨hx1, _⟩ := hExit.out a2 33 l (by rw [show R.1 = 33 from by rw [← hT], rEnd_ne (by decide), rEnd_ne (by decide)]) (fun h => absurd h (by decide))
                  rw [rEnd_ne (by decide)] at hx1
                  obtain rfl := hx1 (by decide)
                  have hEnd := hd_ (fun W u (h : Lq w W w.heap.size (.slice A0 B.length c0) B a2 33 u l) => show Calls Try.prog 75 #[.pointer (some ⟨w.heap.size, 0, none⟩)] W (fun e w' => e = .returned (.int .i64 33) ∧ Below W.heap.size W w') from by have := Q_End_any w.heap.size (.slice A0 B.length c0) B a2 33 W h.1; rw [rEnd_ne (by decide)] at this; exact this)
                  clear hT hExit
                  go_wp2_with (first
                    | (go_at_call 72; (with_reducible refine hIc.out.mono ?_); rintro e w4 ⟨rfl, HP4⟩; have hX4 := hXH.out.post HP4; have q4 : w4.cell? ⟨w.heap.size, 2, none⟩ = some (.int .i64 0) := HP4.1.1.cell 2 rfl; have hT5 := hTc.out _ _ hX4)
                    | (go_at_call 74; (with_reducible refine hT5.mono ?_); rintro e w5 ⟨rfl, HP5⟩; have hX5 := hX4.post HP5; have q5 : w5.cell? ⟨w.heap.size, 2, none⟩ = some (.int .i64 0) := HP5.1.1.cell 2 rfl; skip)
                    | (go_at_call 52; (with_reducible refine (hshc.out _).mono ?_); rintro e w6 ⟨rfl, m6, rfl⟩; have hX6 := hX5.keep (below_drewN (Below.refl w5.heap.size w5) m6))
                    | (go_at_call 73; (with_reducible refine (hFc.out 33 _ _ _ hX6).mono ?_); rintro e w7 ⟨rfl, HP7⟩; have hXz := hX6.post HP7; have q7 : w7.cell? ⟨w.heap.size, 2, none⟩ = some (.int .i64 33) := HP7.1.1.cell 2 rfl; have hEz := hEnd.out _ _ hXz)
                    | (go_at_call 75; (with_reducible refine hEz.mono ?_); rintro e wy ⟨rfl, HBy⟩))
                  go_ret2
                  exact ⟨_, rfl, rds_nil _, bel_trans hXz.2.2.2.1 HBy⟩
                · rw [if_neg (show ¬ (false = false ∧ lq s ahead = true) from fun h => hQ0 h.2)] at hopS
                  rw [hopS, if_neg (by simp)] at hT
                  simp only at hT
                  rw [hal2H.out] at hT
                  clear hopS
                  have hQ2 : (Op.bytesLess s.toList ahead.toList || s.toList == ahead.toList) = false := by simpa [lq] using hQ0
                  have hf := hd_ (And.intro hlt hT)
                  clear hk0
                  go_wp2_with (first
                    | (go_at_call 72; (with_reducible refine hIc.out.mono ?_); rintro e w4 ⟨rfl, HP4⟩; have hX4 := hXH.out.post HP4; have q4 : w4.cell? ⟨w.heap.size, 2, none⟩ = some (.int .i64 0) := HP4.1.1.cell 2 rfl; have hT5 := hTc.out _ _ hX4)
                    | (go_at_call 74; (with_reducible refine hT5.mono ?_); rintro e w5 ⟨rfl, HP5⟩; have hX5 := hX4.post HP5; have q5 : w5.cell? ⟨w.heap.size, 2, none⟩ = some (.int .i64 0) := HP5.1.1.cell 2 rfl; skip)
                    | (go_at_call 52; (with_reducible refine (hshc.out _).mono ?_); rintro e w6 ⟨rfl, m6, rfl⟩; have hX6 := hX5.keep (below_drewN (Below.refl w5.heap.size w5) m6); have hX7 := hX6.keep (al1 (Below.refl (w5.drewN m6).heap.size (w5.drewN m6)) (.cells #[.string s] 9)); have hrow := hX7.2.1; have hbelow := hX7.2.2.2.1)
                    | (at_builtin; (refine app_rd w.heap.size rfl _ _ 28 9 (.string ⟨#[]⟩) 1 16 rfl Try.underlying28 infoS rfl (by omega) _ _ l.length 1 (l.map Value.string) [.string s] rfl rfl hrow (box_one _ _ _) (one_str s) hbelow.size (by omega) hlb.out ?_); intro v12 w12 HO12 hg12 hat12; have hX12 := hX7.app HO12 hg12))
                  go_roundw
                  case rel =>
                    exact ⟨k + 1, s, al2, a2, 0, l ++ [s], hf.out.1, rfl, rfl, by first | rfl | (rw [hI1]; rfl), hX12, by rw [List.length_append, hlkH.out]; rfl, fun h => by omega, fun h => absurd rfl h, fun _ => ⟨by rw [decide_eq_false (by omega)]; exact hf.out.2, hsm.out⟩⟩
                  case measure => first | (rw [hI1]; exact meas_k1t _ _ hf.out.1) | exact meas_k1t _ _ hf.out.1
            · have h2B : (e2 == 0) = false := by rw [beq_eq_false_iff_ne]; exact h2
              have h2N : (e2 != 0) = true := by rw [bne, h2B]; rfl
              have hopS : (opS B (decide (k = 0)) ahead all a).1 = e2 := by
                unfold opS
                rw [hi]
                simp only
                rw [ht, Int.toNat_natCast, if_neg (by simp), if_neg (by omega)]
                simp only
                rw [if_pos h2]
              rw [if_pos (by rw [hopS]; exact h2)] at hT
              rw [hopS] at hT
              clear hs hrl hrb hr ha2 he2 ht hi hxm ha1m hah hall hopS
              generalize strOfNums r = rs at *
              obtain ⟨hx1, _⟩ := hExit.out a2 e2 l (by rw [show R.1 = e2 from by rw [← hT], rEnd_ne h2, rEnd_ne h2]) (fun h => absurd h h2)
              rw [rEnd_ne h2] at hx1
              obtain rfl := hx1 h2
              have hEnd := hd_ (fun W u (h : Lq w W w.heap.size (.slice A0 B.length c0) B a2 e2 u l) => show Calls Try.prog 75 #[.pointer (some ⟨w.heap.size, 0, none⟩)] W (fun e w' => e = .returned (.int .i64 e2) ∧ Below W.heap.size W w') from by have := Q_End_any w.heap.size (.slice A0 B.length c0) B a2 e2 W h.1; rw [rEnd_ne h2] at this; exact this)
              clear hT hExit
              go_wp2_with (first
                | (go_at_call 72; (with_reducible refine hIc.out.mono ?_); rintro e w4 ⟨rfl, HP4⟩; have hX4 := hXH.out.post HP4; have q4 : w4.cell? ⟨w.heap.size, 2, none⟩ = some (.int .i64 0) := HP4.1.1.cell 2 rfl; have hT5 := hTc.out _ _ hX4)
                | (go_at_call 74; (with_reducible refine hT5.mono ?_); rintro e w5 ⟨rfl, HP5⟩; have hXz := hX4.post HP5; have q5 : w5.cell? ⟨w.heap.size, 2, none⟩ = some (.int .i64 e2) := HP5.1.1.cell 2 rfl; have hEz := hEnd.out _ _ hXz)
                | (go_at_call 75; (with_reducible refine hEz.mono ?_); rintro e wy ⟨rfl, HBy⟩))
              go_ret2
              exact ⟨_, rfl, rds_nil _, bel_trans hXz.2.2.2.1 HBy⟩
          · have hleI : (ahead.size : Int) < (xn : Int) := by omega
            have hopS : (opS B (decide (k = 0)) ahead all a).1 = 32 := by
              unfold opS
              rw [hi]
              simp only
              rw [if_neg (by simp), if_pos hleI]
            rw [if_pos (by rw [hopS]; decide)] at hT
            rw [hopS] at hT
            clear hi hxm ha1m hah hall hopS
            obtain ⟨hx1, _⟩ := hExit.out a1 32 l (by rw [show R.1 = 32 from by rw [← hT], rEnd_ne (by decide), rEnd_ne (by decide)]) (fun h => absurd h (by decide))
            rw [rEnd_ne (by decide)] at hx1
            obtain rfl := hx1 (by decide)
            have hEnd := hd_ (fun W u (h : Lq w W w.heap.size (.slice A0 B.length c0) B a1 32 u l) => show Calls Try.prog 75 #[.pointer (some ⟨w.heap.size, 0, none⟩)] W (fun e w' => e = .returned (.int .i64 32) ∧ Below W.heap.size W w') from by have := Q_End_any w.heap.size (.slice A0 B.length c0) B a1 32 W h.1; rw [rEnd_ne (by decide)] at this; exact this)
            clear hT hExit
            go_wp2_with (first
              | (go_at_call 72; (with_reducible refine hIc.out.mono ?_); rintro e w4 ⟨rfl, HP4⟩; have hX4 := hXH.out.post HP4; have q4 : w4.cell? ⟨w.heap.size, 2, none⟩ = some (.int .i64 0) := HP4.1.1.cell 2 rfl)
              | (go_at_call 73; (with_reducible refine (hFc.out 32 _ _ _ hX4).mono ?_); rintro e w5 ⟨rfl, HP5⟩; have hX5 := hX4.post HP5; have q5 : w5.cell? ⟨w.heap.size, 2, none⟩ = some (.int .i64 32) := HP5.1.1.cell 2 rfl; have hT6 := hTbad.out _ _ _ (by decide) hX5)
              | (go_at_call 74; (with_reducible refine hT6.mono ?_); rintro e w6 ⟨rfl, HP6⟩; have hXz := hX5.post HP6; have q6 : w6.cell? ⟨w.heap.size, 2, none⟩ = some (.int .i64 32) := HP6.1.1.cell 2 rfl; have hEz := hEnd.out _ _ hXz)
              | (go_at_call 75; (with_reducible refine hEz.mono ?_); rintro e wy ⟨rfl, HBy⟩))
            go_ret2
            exact ⟨_, rfl, rds_nil _, bel_trans hXz.2.2.2.1 HBy⟩
        · have h1B : (e1 == 0) = false := by rw [beq_eq_false_iff_ne]; exact h1
          have h1N : (e1 != 0) = true := by rw [bne, h1B]; rfl
          have hopS : (opS B (decide (k = 0)) ahead all a).1 = e1 := by
            unfold opS
            rw [hi]
            simp only
            rw [if_pos h1]
          rw [if_pos (by rw [hopS]; exact h1)] at hT
          rw [hopS] at hT
          clear hi hxm ha1m hah hall hopS
          obtain ⟨hx1, _⟩ := hExit.out a1 e1 l (by rw [show R.1 = e1 from by rw [← hT], rEnd_ne h1, rEnd_ne h1]) (fun h => absurd h h1)
          rw [rEnd_ne h1] at hx1
          obtain rfl := hx1 h1
          have hEnd := hd_ (fun W u (h : Lq w W w.heap.size (.slice A0 B.length c0) B a1 e1 u l) => show Calls Try.prog 75 #[.pointer (some ⟨w.heap.size, 0, none⟩)] W (fun e w' => e = .returned (.int .i64 e1) ∧ Below W.heap.size W w') from by have := Q_End_any w.heap.size (.slice A0 B.length c0) B a1 e1 W h.1; rw [rEnd_ne h1] at this; exact this)
          clear hT hExit
          go_wp2_with (first
            | (go_at_call 72; (with_reducible refine hIc.out.mono ?_); rintro e w4 ⟨rfl, HP4⟩; have hX4 := hXH.out.post HP4; have q4 : w4.cell? ⟨w.heap.size, 2, none⟩ = some (.int .i64 e1) := HP4.1.1.cell 2 rfl; have hT5 := hTbad.out _ _ _ h1 hX4)
            | (go_at_call 74; (with_reducible refine hT5.mono ?_); rintro e w5 ⟨rfl, HP5⟩; have hXz := hX4.post HP5; have q5 : w5.cell? ⟨w.heap.size, 2, none⟩ = some (.int .i64 e1) := HP5.1.1.cell 2 rfl; have hEz := hEnd.out _ _ hXz)
            | (go_at_call 75; (with_reducible refine hEz.mono ?_); rintro e wy ⟨rfl, HBy⟩))
          go_ret2
          exact ⟨_, rfl, rds_nil _, bel_trans hXz.2.2.2.1 HBy⟩
      · have h0B : (err == 0) = false := by rw [beq_eq_false_iff_ne]; exact h0
        have hEnd := hd_ (Q_End_any w.heap.size (.slice A0 B.length c0) B a err wr hXH.out.1)
        rw [rEnd_ne h0] at hEnd
        obtain ⟨hx1, _⟩ := hExit.out a err l (by rw [hbad h0, rEnd_ne h0, rEnd_ne h0]) (fun h => absurd h h0)
        rw [rEnd_ne h0] at hx1
        obtain rfl := hx1 h0
        go_wp2_with (go_at_call 75; (with_reducible refine hEnd.out.mono ?_); rintro e w4 ⟨rfl, HB4⟩)
        go_ret2
        exact ⟨_, rfl, rds_nil _, bel_trans hXH.out.2.2.2.1 HB4⟩
    · obtain rfl : k = n := by omega
      have hEnd := hd_ (Q_End_any w.heap.size (.slice A0 B.length c0) B a err wr hXH.out.1)
      have hx := hExit.out a err l (by
        by_cases h0 : err = 0
        · obtain ⟨h1, _⟩ := hgood h0
          rw [Nat.sub_self] at h1
          rw [← h1, h0]; rfl
        · rw [hbad h0, rEnd_ne h0, rEnd_ne h0]) (fun h0 => by
          obtain ⟨h1, _⟩ := hgood h0
          rw [Nat.sub_self] at h1
          rw [← h1]; rfl)
      generalize rEnd B a err = E at *
      have hxH := hd_ hx
      clear hx hbad hgood
      by_cases hE : E = 0
      · subst hE
        obtain rfl := hxH.out.2 rfl
        go_wp2_with (go_at_call 75; (with_reducible refine hEnd.out.mono ?_); rintro e w4 ⟨rfl, HB4⟩)
        go_ret2
        exact ⟨_, rfl, (rds_row hXH.out.2.1).keep HB4, bel_trans hXH.out.2.2.2.1 HB4⟩
      · obtain rfl := hxH.out.1 hE
        have hEB : (E == 0) = false := by rw [beq_eq_false_iff_ne]; exact hE
        go_wp2_with (go_at_call 75; (with_reducible refine hEnd.out.mono ?_); rintro e w4 ⟨rfl, HB4⟩)
        go_ret2
        exact ⟨_, rfl, rds_nil _, bel_trans hXH.out.2.2.2.1 HB4⟩
end Go.Proofs.Ytlaeiipiboabaaa
