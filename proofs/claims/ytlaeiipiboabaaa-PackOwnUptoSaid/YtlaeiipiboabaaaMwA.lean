/- The law's function 'write', with both writers. -/
import Derived.Test.YtlaeiipiboabaaaMdE
namespace Go.Proofs.Ytlaeiipiboabaaa
open Go.RowKit
set_option maxRecDepth 100000
set_option linter.unusedVariables false
theorem box_ne {W : World} {g h : Nat} {t t2 : TypeId} {cs cs2 : Array Value} (hb : Box W g t cs) (hb2 : Box W h t2 cs2) (hne : t ≠ t2) : g ≠ h := by
  rintro rfl
  have := hb.symm.trans hb2
  injection this with this
  injection this with _ h3 _
  exact hne h3
/-- what belongs to a pair of writers -/
def bwS (g h : Nat) (v u : Value) (k : Nat) : Prop := k = g ∨ k = h ∨ some k = v.ownBlock ∨ some k = u.ownBlock
/-- both writers, in one state -/
def Bw (W : World) (g h : Nat) (v u : Value) (s : WS) : Prop := Wr W g v s ∧ Xr W h u s ∧ ∀ b, v.ownBlock = some b → u.ownBlock ≠ some b
def BwPost (w : World) (g h : Nat) (v u : Value) (s : WS) (w' : World) : Prop :=
  ∃ v' u', Bw w' g h v' u' s ∧ Chg (bwS g h v u) w w' ∧ ∀ k, bwS g h v' u' k → bwS g h v u k ∨ w.heap.size ≤ k
theorem Bw.keep {w w1 : World} {g h : Nat} {v u : Value} {s : WS} (t : Bw w g h v u s) (hb : Below w.heap.size w w1) : Bw w1 g h v u s := ⟨t.1.keep hb, t.2.1.keep hb, t.2.2⟩
theorem Bw.lt {w : World} {g h : Nat} {v u : Value} {s : WS} (t : Bw w g h v u s) (k : Nat) (hk : bwS g h v u k) : k < w.heap.size := by
  rcases hk with rfl | rfl | e | e
  · exact t.1.1.lt
  · exact t.2.1.1.lt
  · exact (own_lt t.1.2 k e.symm).2
  · exact (own_lt t.2.1.2 k e.symm).2
theorem Bw.chg {S : Nat → Prop} {w w1 : World} {g h : Nat} {v u : Value} {s : WS} (t : Bw w g h v u s) (hc : Chg S w w1) (hn : ∀ k, bwS g h v u k → ¬ S k) : Bw w1 g h v u s :=
  ⟨⟨t.1.1.chg hc (hn g (.inl rfl)), t.1.2.chg hc (fun k e => hn k (.inr (.inr (.inl e.symm))))⟩, ⟨t.2.1.1.chg hc (hn h (.inr (.inl rfl))), t.2.1.2.chg hc (fun k e => hn k (.inr (.inr (.inr e.symm))))⟩, t.2.2⟩
theorem Bw.same {w : World} {g h : Nat} {v u : Value} {s : WS} (t : Bw w g h v u s) : BwPost w g h v u s w := ⟨v, u, t, Chg.refl _ _, fun _ h => .inl h⟩
/-- behind the program's writer the document's is as it was -/
theorem bw_x {w w1 : World} {g h : Nat} {v u : Value} {s s1 : WS} (t : Bw w g h v u s) (p : WrPost w g v s1 w1) : Xr w1 h u s := by
  obtain ⟨v', hW, hC, ho⟩ := p
  have n1 := box_ne t.1.1 t.2.1.1 (by decide)
  have n2 := own_box t.1.2 t.2.1.1 (by decide)
  have n3 := own_box t.2.1.2 t.1.1 (by decide)
  refine ⟨t.2.1.1.chg hC ?_, t.2.1.2.chg hC ?_⟩
  · rintro (e | e)
    · exact n1 e.symm
    · exact n2 e.symm
  · rintro k e (rfl | e2)
    · exact n3 e
    · exact t.2.2 k e2.symm e
theorem bw_post {w w0 w1 w2 : World} {g h : Nat} {v u : Value} {s s1 : WS} (tw : Bw w g h v u s) (hb : Below w.heap.size w w0) (p : WrPost w0 g v s1 w1) (q : XrPost w1 h u s1 w2) : BwPost w g h v u s1 w2 := by
  have t := tw.keep hb
  obtain ⟨v', hW, hC, ho⟩ := p
  obtain ⟨u', hX, hD, ho2⟩ := q
  have n1 := box_ne t.1.1 t.2.1.1 (by decide)
  have n2 := own_box t.1.2 t.2.1.1 (by decide)
  have n3 := own_box t.2.1.2 t.1.1 (by decide)
  have hvl : ∀ b, v'.ownBlock = some b → v.ownBlock = some b ∨ w0.heap.size ≤ b := fun b e => by
    rcases ho with h | ⟨k, h, h2⟩
    · exact .inl (h ▸ e)
    · rw [h] at e; injection e with e; exact .inr (by omega)
  have hul : ∀ b, u'.ownBlock = some b → u.ownBlock = some b ∨ w1.heap.size ≤ b := fun b e => by
    rcases ho2 with h | ⟨k, h, h2⟩
    · exact .inl (h ▸ e)
    · rw [h] at e; injection e with e; exact .inr (by omega)
  have hult : ∀ b, u.ownBlock = some b → b < w0.heap.size := fun b e => (own_lt t.2.1.2 b e).2
  have hdis : ∀ b, v'.ownBlock = some b → u.ownBlock ≠ some b := fun b e e2 => by
    rcases hvl b e with h | h
    · exact t.2.2 b h e2
    · have := hult b e2; omega
  have hgl := t.1.1.lt
  have hhl := t.2.1.1.lt
  refine ⟨v', u', ⟨⟨hW.1.chg hD ?_, hW.2.chg hD ?_⟩, hX, ?_⟩, ?_, ?_⟩
  · rintro (e | e)
    · exact n1 e
    · exact n3 e.symm
  · rintro k e (rfl | e2)
    · rcases hvl _ e with h | h
      · exact n2 h
      · omega
    · exact hdis k e e2.symm
  · intro b e e2
    rcases hul b e2 with h | h
    · exact hdis b e h
    · have := (own_lt hW.2 b e).2; omega
  · exact ((Chg.below hb : Chg (bwS g h v u) w w0).trans hC (fun b _ e => e.elim (fun e => .inl e) (fun e => .inr (.inr (.inl e))))).trans hD (fun b _ e => e.elim (fun e => .inr (.inl e)) (fun e => .inr (.inr (.inr e))))
  · have hsz := hb.size
    have hsz1 := hC.size
    rintro k (rfl | rfl | e | e)
    · exact .inl (.inl rfl)
    · exact .inl (.inr (.inl rfl))
    · rcases hvl k e.symm with h | h
      · exact .inl (.inr (.inr (.inl h.symm)))
      · exact .inr (by omega)
    · rcases hul k e.symm with h | h
      · exact .inl (.inr (.inr (.inr h.symm)))
      · exact .inr (by omega)
theorem BwPost.after {w w0 w2 : World} {g h : Nat} {v u : Value} {s : WS} (hb : Below w.heap.size w w0) (p : BwPost w0 g h v u s w2) : BwPost w g h v u s w2 := by
  obtain ⟨v', u', t, hC, hk⟩ := p
  refine ⟨v', u', t, (Chg.below hb : Chg (bwS g h v u) w w0).trans hC (fun _ _ h => h), fun k h => ?_⟩
  rcases hk k h with e | e
  · exact .inl e
  · exact .inr (Nat.le_trans hb.size e)
def BwRet (w : World) (g h : Nat) (v u : Value) (s : WS) (e : Ending) (w' : World) : Prop := e = .returned (.tuple #[]) ∧ BwPost w g h v u s w'
set_option maxHeartbeats 2000000 in
theorem B_write (g h : Nat) (v x : Value) (s : WS) (call n most m : Int) (V : Nat) (S k u : ByteArray) (F : Bool) (ds : List Int) (w : World) (t : Bw w g h v x s) (hV : V < 18446744073709551616) (hn : n ≤ 9223372036854775807) (hd : ds.length = 32) (hb : IsBytes ds) (hm0 : -9223372036854775808 ≤ m) (hm : m ≤ 9223372036854775807) (hl : s.2.length + S.size + k.size + u.size ≤ 140737488270000) :
    Calls Try.prog 25 #[.pointer (some ⟨g, 0, none⟩), .pointer (some ⟨h, 0, none⟩), .agg (opC call V n most S F ds k u m)] w (BwRet w g h v x (wStep s call V n most S F ds k u m)) := by
  have hbx := Box.new w (opC call V n most S F ds k u m) 53
  have hB0 := al1 (Below.refl w.heap.size w) (.cells (opC call V n most S F ds k u m) 53)
  have q0 := hbx.cell 0 (v := .int .i64 call) (opC_lo call V n most S F ds k u m 0 (by decide))
  have q1 := hbx.cell 1 (v := .int .u64 (V : Int)) (opC_lo call V n most S F ds k u m 1 (by decide))
  have q2 := hbx.cell 2 (v := .int .i64 n) (opC_lo call V n most S F ds k u m 2 (by decide))
  have q3 := hbx.cell 3 (v := .int .i64 most) (opC_lo call V n most S F ds k u m 3 (by decide))
  have q4 := hbx.cell 4 (v := .string S) (opC_lo call V n most S F ds k u m 4 (by decide))
  have q5 := hbx.cell 5 (v := .bool F) (opC_lo call V n most S F ds k u m 5 (by decide))
  have hp6 := hd_ (opC_ds call V n most S F ds k u m)
  have hp38 := hd_ (opC_row call V n most S F ds hd k u m)
  have hbxH := hd_ hbx
  have hT := hd_ t
  have hT0 := hd_ (t.keep hB0)
  have hW := hd_ (t.1.keep hB0)
  have HB0 := hd_ hB0
  have hlH := hd_ hl
  have hdH := hd_ hd
  have hnb := hd_ (show ¬ (w.heap.size = g ∨ some w.heap.size = v.ownBlock) by
    rintro (e | e)
    · have := t.1.1.lt; omega
    · have := (own_lt t.1.2 _ e.symm).2; omega)
  have hiA : (Try.prog.info? 49).map (·.size) = some (u8A ds).size := by rw [u8A_size, hd]; exact infoA32
  have hiR : (Try.prog.info? 51).map (·.size) = some (rowC k u m).size := infoRw
  have hbH := hd_ (And.intro hb (And.intro hm0 (And.intro hm (And.intro hV hn))))
  have hpost := hd_ (fun w1 w2 (s1 : WS) (p : WrPost _ g v s1 w1) (q : XrPost w1 h x s1 w2) => bw_post t hB0 p q)
  have hcc := hd_ (fun w1 (s1 : WS) (p : WrPost _ g v s1 w1) => (show Xr w1 h x s ∧ Box w1 w.heap.size 53 (opC call V n most S F ds k u m) from ⟨bw_x (t.keep hB0) p, by obtain ⟨_, _, hC, _⟩ := p; exact hbx.chg hC hnb.out⟩))
  have e1 := hd_ (opC_lo call V n most S F ds k u m 1 (by decide))
  have e2 := hd_ (opC_lo call V n most S F ds k u m 2 (by decide))
  have e3 := hd_ (opC_lo call V n most S F ds k u m 3 (by decide))
  have e4 := hd_ (opC_lo call V n most S F ds k u m 4 (by decide))
  have e5 := hd_ (opC_lo call V n most S F ds k u m 5 (by decide))
  clear hbx t hB0 hl hd hb hm0 hm hn hV
  generalize hC : opC call V n most S F ds k u m = C at *
  clear hC
  by_cases h0 : call = 0
  · subst h0
    have hS : wStep s 0 V n most S F ds k u m = wUint s V := rfl
    rw [hS]
    clear hS
    go_enter Try.func25, Try.ntmps25
    go_wp2_with (first
      | (go_at_call 22; (with_reducible refine (W_Uint_any g v s V _ hW.out hbH.out.2.2.2.1 (by have := hlH.out; omega)).mono ?_); rintro e w1 ⟨rfl, P1⟩; obtain ⟨X1, hbx1⟩ := hcc.out _ _ P1; have p1 := hbx1.cell 1 (v := .int .u64 (V : Int)) e1.out; have p2 := hbx1.cell 2 (v := .int .i64 n) e2.out; have p3 := hbx1.cell 3 (v := .int .i64 most) e3.out; have p4 := hbx1.cell 4 (v := .string S) e4.out; have p5 := hbx1.cell 5 (v := .bool F) e5.out)
      | (go_at_call 24; (with_reducible refine (X_Uint_any h x s V _ X1 hbH.out.2.2.2.1 (by have := hlH.out; omega)).mono ?_); rintro e w2 ⟨rfl, P2⟩))
    go_end0
    exact ⟨rfl, hpost.out _ _ _ P1 P2⟩
  by_cases h1 : call = 1
  · subst h1
    have hS : wStep s 1 V n most S F ds k u m = wInt s n most := rfl
    rw [hS]
    clear hS
    go_enter Try.func25, Try.ntmps25
    go_wp2_with (first
      | (go_at_call 59; (with_reducible refine (W_Int_any g v s n most _ hW.out (by have := hbH.out.2.2.2.2; omega) (by have := hlH.out; omega)).mono ?_); rintro e w1 ⟨rfl, P1⟩; obtain ⟨X1, hbx1⟩ := hcc.out _ _ P1; have p1 := hbx1.cell 1 (v := .int .u64 (V : Int)) e1.out; have p2 := hbx1.cell 2 (v := .int .i64 n) e2.out; have p3 := hbx1.cell 3 (v := .int .i64 most) e3.out; have p4 := hbx1.cell 4 (v := .string S) e4.out; have p5 := hbx1.cell 5 (v := .bool F) e5.out)
      | (go_at_call 60; (with_reducible refine (X_Int_any h x s n most _ X1 (by have := hbH.out.2.2.2.2; omega) (by have := hlH.out; omega)).mono ?_); rintro e w2 ⟨rfl, P2⟩))
    go_end0
    exact ⟨rfl, hpost.out _ _ _ P1 P2⟩
  by_cases h2 : call = 2
  · subst h2
    have hS : wStep s 2 V n most S F ds k u m = wText s (byL S) most := rfl
    rw [hS]
    clear hS
    go_enter Try.func25, Try.ntmps25
    go_wp2_with (first
      | (go_at_call 39; (with_reducible refine (W_Text_any g v s S most _ hW.out (by have := hlH.out; omega)).mono ?_); rintro e w1 ⟨rfl, P1⟩; obtain ⟨X1, hbx1⟩ := hcc.out _ _ P1; have p1 := hbx1.cell 1 (v := .int .u64 (V : Int)) e1.out; have p2 := hbx1.cell 2 (v := .int .i64 n) e2.out; have p3 := hbx1.cell 3 (v := .int .i64 most) e3.out; have p4 := hbx1.cell 4 (v := .string S) e4.out; have p5 := hbx1.cell 5 (v := .bool F) e5.out)
      | (go_at_call 53; (with_reducible refine (X_Text_any h x s S most _ X1 (by have := hlH.out; omega)).mono ?_); rintro e w2 ⟨rfl, P2⟩))
    go_end0
    exact ⟨rfl, hpost.out _ _ _ P1 P2⟩
  by_cases h3 : call = 3
  · subst h3
    have hS : wStep s 3 V n most S F ds k u m = wFlag s F := rfl
    rw [hS]
    clear hS
    go_enter Try.func25, Try.ntmps25
    go_wp2_with (first
      | (go_at_call 41; (with_reducible refine (W_Flag_any g v s F _ hW.out (by have := hlH.out; omega)).mono ?_); rintro e w1 ⟨rfl, P1⟩; obtain ⟨X1, hbx1⟩ := hcc.out _ _ P1; have p1 := hbx1.cell 1 (v := .int .u64 (V : Int)) e1.out; have p2 := hbx1.cell 2 (v := .int .i64 n) e2.out; have p3 := hbx1.cell 3 (v := .int .i64 most) e3.out; have p4 := hbx1.cell 4 (v := .string S) e4.out; have p5 := hbx1.cell 5 (v := .bool F) e5.out)
      | (go_at_call 61; (with_reducible refine (X_Flag_any h x s F _ X1 (by have := hlH.out; omega)).mono ?_); rintro e w2 ⟨rfl, P2⟩))
    go_end0
    exact ⟨rfl, hpost.out _ _ _ P1 P2⟩
  by_cases h4 : call = 4
  · subst h4
    have hS : wStep s 4 V n most S F ds k u m = wLay s ds := rfl
    rw [hS]
    clear hS
    go_enter Try.func25, Try.ntmps25
    go_wp2_with (first
      | (refine load_at rfl 49 _ rfl w.heap.size 6 (u8A ds) _ rfl (hbxH.out.part 6 hp6.out) Try.underlying49 rfl hiA ?_)
      | (refine load_at rfl 49 _ rfl w.heap.size 6 (u8A ds) _ rfl (hbx1.part 6 hp6.out) Try.underlying49 rfl hiA ?_)
      | (go_at_call 62; (with_reducible refine (W_Digest_any g v s ds hdH.out hbH.out.1 _ hW.out (by have := hlH.out; omega)).mono ?_); rintro e w1 ⟨rfl, P1⟩; obtain ⟨X1, hbx1⟩ := hcc.out _ _ P1; have p1 := hbx1.cell 1 (v := .int .u64 (V : Int)) e1.out; have p2 := hbx1.cell 2 (v := .int .i64 n) e2.out; have p3 := hbx1.cell 3 (v := .int .i64 most) e3.out; have p4 := hbx1.cell 4 (v := .string S) e4.out; have p5 := hbx1.cell 5 (v := .bool F) e5.out)
      | (go_at_call 63; (with_reducible refine (X_Digest_any h x s ds hdH.out hbH.out.1 _ X1 (by have := hlH.out; omega)).mono ?_); rintro e w2 ⟨rfl, P2⟩))
    go_end0
    exact ⟨rfl, hpost.out _ _ _ P1 P2⟩
  by_cases h5 : call = 5
  · subst h5
    have hS : wStep s 5 V n most S F ds k u m = wRow s (byL k) (byL u) m := rfl
    rw [hS]
    clear hS
    go_enter Try.func25, Try.ntmps25
    go_wp2_with (first
      | (refine load_at rfl 51 _ rfl w.heap.size 38 (rowC k u m) _ rfl (hbxH.out.part 38 hp38.out) Try.underlying51 rfl hiR ?_)
      | (refine load_at rfl 51 _ rfl w.heap.size 38 (rowC k u m) _ rfl (hbx1.part 38 hp38.out) Try.underlying51 rfl hiR ?_)
      | (go_at_call 43; (with_reducible refine (W_Row_any g v s k u m _ hW.out (by have := hlH.out; omega) (by have := hlH.out; omega) (by have := hlH.out; omega)).mono ?_); rintro e w1 ⟨rfl, P1⟩; obtain ⟨X1, hbx1⟩ := hcc.out _ _ P1; have p1 := hbx1.cell 1 (v := .int .u64 (V : Int)) e1.out; have p2 := hbx1.cell 2 (v := .int .i64 n) e2.out; have p3 := hbx1.cell 3 (v := .int .i64 most) e3.out; have p4 := hbx1.cell 4 (v := .string S) e4.out; have p5 := hbx1.cell 5 (v := .bool F) e5.out)
      | (go_at_call 64; (with_reducible refine (X_Row_any h x s k u m _ X1 hbH.out.2.1 hbH.out.2.2.1 (by have := hlH.out; omega)).mono ?_); rintro e w2 ⟨rfl, P2⟩))
    go_end0
    exact ⟨rfl, hpost.out _ _ _ P1 P2⟩
  by_cases h6 : call = 6
  · subst h6
    have hS : wStep s 6 V n most S F ds k u m = wFail s n := rfl
    rw [hS]
    clear hS
    go_enter Try.func25, Try.ntmps25
    go_wp2_with (first
      | (go_at_call 65; (with_reducible refine (W_Fail_any g v s n _ hW.out).mono ?_); rintro e w1 ⟨rfl, P1⟩; obtain ⟨X1, hbx1⟩ := hcc.out _ _ P1; have p1 := hbx1.cell 1 (v := .int .u64 (V : Int)) e1.out; have p2 := hbx1.cell 2 (v := .int .i64 n) e2.out; have p3 := hbx1.cell 3 (v := .int .i64 most) e3.out; have p4 := hbx1.cell 4 (v := .string S) e4.out; have p5 := hbx1.cell 5 (v := .bool F) e5.out)
      | (go_at_call 66; (with_reducible refine (X_Fail_any h x s n _ X1).mono ?_); rintro e w2 ⟨rfl, P2⟩))
    go_end0
    exact ⟨rfl, hpost.out _ _ _ P1 P2⟩
  have b0 : (call == 0) = false := beq_false_of_ne h0
  have b1 : (call == 1) = false := beq_false_of_ne h1
  have b2 : (call == 2) = false := beq_false_of_ne h2
  have b3 : (call == 3) = false := beq_false_of_ne h3
  have b4 : (call == 4) = false := beq_false_of_ne h4
  have b5 : (call == 5) = false := beq_false_of_ne h5
  have b6 : (call == 6) = false := beq_false_of_ne h6
  have hS : wStep s call V n most S F ds k u m = s := by unfold wStep; rw [if_neg h0, if_neg h1, if_neg h2, if_neg h3, if_neg h4, if_neg h5, if_neg h6]
  rw [hS]
  clear hS
  go_enter Try.func25, Try.ntmps25
  go_wp2
  go_end0
  exact ⟨rfl, BwPost.after HB0.out hT0.out.same⟩
end Go.Proofs.Ytlaeiipiboabaaa
