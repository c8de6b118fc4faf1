/- The document's splitter over a whole stream. -/
import Derived.Test.YtilmmohkdgmhnaaFrameEa
import Derived.Test.YtilmmohkdgmhnaaFrameL
import Derived.Test.YtilmmohkdgmhnaaRegJ
namespace Go.Proofs.Ytilmmohkdgmhnaa
open Go.RowKit
set_option maxRecDepth 100000
set_option linter.unusedVariables false
theorem infoSeen : (Try.prog.info? 69).map (·.size) = some 4 := by kernel_rfl
theorem infoGr : (Try.prog.info? 33).map (fun i => (i.zero, i.size, i.bytes)) = some (some (.agg #[.int .i64 0, .slice none 0 0]), 2, 32) := by kernel_rfl
section
variable {P : Program} {o : Oper} {a : Act} {K : Act → World → Prop} {Q : Exit → Act → World → Prop}
theorem wp_app_O {W : World} (base : Nat) (s x : Operand) (t e : TypeId)
    (ho : o.op = .call { callee := .builtin .append, args := #[s, x], argTypes := #[t, t] })
    (ht : P.underlying t = some (.slice e)) (hinfo : (P.info? e).map (fun i => (i.zero, i.size, i.bytes)) = some (some (.int .u8 0), 1, 1))
    (v y : Value) (xs ys : List Int) (hs : a.eval s = v) (hx : a.eval x = y)
    (HO : Own W base e v xs) (HR : Rd W y ys) (hbase : base ≤ W.heap.size) (hl : xs.length + ys.length ≤ 140737488355328)
    (h : ∀ v1 w1, Own w1 base e v1 (xs ++ ys) → W.grownBy w1 v.ownBlock → (v1.ownBlock = v.ownBlock ∨ v1.ownBlock = some W.heap.size) → K (a.put o.dst v1) w1) :
    Oper.wp P o a W K Q := by
  obtain ⟨v1, w1, hr, h2, h3, h4⟩ := run_app (P := P) (W := W) base t o.type e (.int .u8 0) 1 1 ht hinfo rfl (by omega) HO.2 HR.2 (nums8_one ys) hbase (by omega) (by rw [Nat.mul_one]; exact hl)
  unfold Oper.wp execOp
  simp only [ho, resolve, invoke, builtin, Sem.run_bind, Sem.run_pure, Result.andThen_ok, List.map_toArray, List.map_cons, List.map_nil, hs, hx, hr]
  exact h v1 w1 ⟨bytes_append HO.1 HR.1, by rw [nums8_append, List.length_append]; exact h2⟩ h3 h4
theorem wp_app_frame {w0 W : World} (base : Nat) (s x : Operand) (t e e8 : TypeId) (z : Value)
    (ho : o.op = .call { callee := .builtin .append, args := #[s, x], argTypes := #[t, t] })
    (ht : P.underlying t = some (.slice e)) (hinfo : (P.info? e).map (fun i => (i.zero, i.size, i.bytes)) = some (some z, 2, 32)) (hzs : z.cells.size = 2) (hne : e ≠ e8)
    (v y u : Value) (fs : List (Int × List Int)) (f : Int × List Int) (hs : a.eval s = v) (hx : a.eval x = y)
    (HF : FrL W base e e8 v fs) (HR : RdC 2 W y 1 [.int .i64 f.1, u]) (hu1 : u.oneCell' = true) (HU : Own W base e8 u f.2) (HB : Below base w0 W) (hbase : base ≤ W.heap.size) (hl : (fs.length + 1) * 32 ≤ 140737488355328)
    (h : ∀ v1 w1, FrL w1 base e e8 v1 (fs ++ [f]) → Below base w0 w1 → W.grownBy w1 v.ownBlock → (∀ b cur ty, W.heap[b]? = some (.cells cur ty (0, 0)) → e ≠ ty → some b ≠ v.ownBlock) → K (a.put o.dst v1) w1) :
    Oper.wp P o a W K Q := by
  obtain ⟨us, h1, h2, h3⟩ := HF
  obtain ⟨v1, w1, hr, k1, k2, k3⟩ := run_app (P := P) (W := W) base t o.type e z 2 32 ht hinfo hzs (by omega) h2 HR (fun w hw => by
    simp only [List.mem_cons, List.not_mem_nil, or_false] at hw
    rcases hw with rfl | rfl
    · rfl
    · exact hu1) hbase (by omega) hl
  unfold Oper.wp execOp
  simp only [ho, resolve, invoke, builtin, Sem.run_bind, Sem.run_pure, Result.andThen_ok, List.map_toArray, List.map_cons, List.map_nil, hs, hx, hr]
  refine h v1 w1 ⟨us ++ [u], by simp [h1], ?_, fun i hi => ?_⟩ (HB.grown k2 hbase fun k hk => (h2.lt k hk).1) k2 (fun b cur ty hb hn => kind_ne h2 hb hn)
  · rw [frCells_append fs us f u h1, List.length_append]
    exact k1
  · have hnb : ∀ {v' : Value} {xs : List Int}, Own W base e8 v' xs → Own w1 base e8 v' xs := fun ho => ho.kept k2 (own_types ho.2 h2 (fun e => hne e.symm))
    rw [List.length_append, List.length_singleton] at hi
    by_cases hlt : i < fs.length
    · rw [getD_left (by omega), getD_left hlt]
      exact hnb (h3 i hlt)
    · obtain rfl : i = fs.length := by omega
      rw [getD_mid h1.symm, getD_mid rfl]
      exact hnb HU
end
/-- where the document stands in a stream -/
def StrI (m : Int) (en : Bool) (b : List Int) (R : List (Int × List Int) × List Int × Nat × Nat) (at_ n : Nat) (fs : List (Int × List Int)) (j lo : Nat) : Prop :=
  at_ ≤ b.length ∧ b.length - at_ ≤ n ∧ scanA m en n (b.drop at_) fs j lo = R ∧ fs.length * 14 ≤ at_ ∧ j ≤ at_ ∧ lo ≤ at_
section
variable {m : Int} {en : Bool} {b : List Int} {R : List (Int × List Int) × List Int × Nat × Nat} {at_ n : Nat} {fs : List (Int × List Int)} {j lo : Nat}
theorem StrI.succ (h : StrI m en b R at_ n fs j lo) (ha : at_ < b.length) : ∃ n', n = n' + 1 ∧ b.length - (at_ + 1) ≤ n' ∧ ¬ (b.drop at_).length = 0 := by
  obtain ⟨h1, h2, _⟩ := h
  exact ⟨n - 1, by omega, by omega, by rw [List.length_drop]; omega⟩
theorem StrI.skip (h : StrI m en b R at_ n fs j lo) (ha : at_ < b.length) (hE : lookN m (b.drop at_) = 0 ∨ (lookN m (b.drop at_) = 1 ∧ en = true)) : ∃ n', StrI m en b R (at_ + 1) n' fs (j + 1) lo := by
  obtain ⟨n', rfl, hn, h0⟩ := h.succ ha
  obtain ⟨_, _, h3, h4, h5, h6⟩ := h
  rw [scanA, if_neg h0, if_neg (by omega), if_neg (by omega), if_neg (by rcases hE with e | ⟨e, e2⟩ <;> simp [*]), List.drop_drop] at h3
  exact ⟨n', by omega, hn, h3, by omega, by omega, by omega⟩
theorem StrI.lose (h : StrI m en b R at_ n fs j lo) (ha : at_ < b.length) (hE : lookN m (b.drop at_) = 2) : ∃ n', StrI m en b R (at_ + 1) n' fs (j + 1) (lo + 1) := by
  obtain ⟨n', rfl, hn, h0⟩ := h.succ ha
  obtain ⟨_, _, h3, h4, h5, h6⟩ := h
  rw [scanA, if_neg h0, if_neg (by omega), if_pos hE, List.drop_drop] at h3
  exact ⟨n', by omega, hn, h3, by omega, by omega, by omega⟩
theorem StrI.wait (h : StrI m en b R at_ n fs j lo) (ha : at_ < b.length) (hE : lookN m (b.drop at_) = 1) (he : en = false) : R = (fs, b.drop at_, j, lo) := by
  obtain ⟨n', rfl, hn, h0⟩ := h.succ ha
  obtain ⟨_, _, h3, h4, h5, h6⟩ := h
  rw [scanA, if_neg h0, if_neg (by omega), if_neg (by omega), if_pos ⟨hE, he⟩] at h3
  exact h3.symm
theorem StrI.done (h : StrI m en b R at_ n fs j lo) (ha : at_ = b.length) : R = (fs, [], j, lo) := by
  obtain ⟨_, _, h3, _⟩ := h
  rw [ha, List.drop_length] at h3
  rw [← h3]
  cases n with
  | zero => rfl
  | succ n => rfl
theorem StrI.find (h : StrI m en b R at_ n fs j lo) (ha : at_ < b.length) (hE : lookN m (b.drop at_) = 3) {N : Nat} (hN : lenN (b.drop at_) = (N : Int)) (hl : N + 14 ≤ (b.drop at_).length) : ∃ n', StrI m en b R (at_ + N + 14) n' (fs ++ [((b.drop at_).getD 2 0, ((b.drop at_).drop 10).take N)]) j lo := by
  obtain ⟨n', rfl, hn, h0⟩ := h.succ ha
  obtain ⟨_, _, h3, h4, h5, h6⟩ := h
  rw [List.length_drop] at hl
  rw [scanA, if_neg h0, if_pos hE, hN, show ((N : Int)).toNat = N from rfl, List.drop_drop, ← Nat.add_assoc] at h3
  exact ⟨n', by omega, by omega, h3, by rw [List.length_append, List.length_singleton]; omega, by omega, by omega⟩
end
/-- the document's state in the world -/
def St4 (w W : World) (g0 gs : Nat) (fv : Value) (fs : List (Int × List Int)) (at_ j lo : Nat) : Prop :=
  w.heap.size ≤ g0 ∧ g0 < gs ∧ Box W gs 69 #[fv, .int .i64 (at_ : Int), .int .i64 (j : Int), .int .i64 (lo : Int)] ∧ Box W g0 69 #[.slice none 0 0, .int .i64 0, .int .i64 0, .int .i64 0] ∧ FrL W w.heap.size 33 5 fv fs ∧ Below w.heap.size w W
section
variable {w W W1 : World} {g0 gs : Nat} {fv : Value} {fs : List (Int × List Int)} {at_ j lo : Nat}
theorem St4.keep (h : St4 w W g0 gs fv fs at_ j lo) (hb : Below W.heap.size W W1) : St4 w W1 g0 gs fv fs at_ j lo := by
  obtain ⟨h1, h2, h3, h4, h5, h6⟩ := h
  exact ⟨h1, h2, h3.keep hb, h4.keep hb, h5.keep hb, bel_trans h6 hb⟩
theorem St4.other (h : St4 w W g0 gs fv fs at_ j lo) {cs : Array Value} (hg : W.grownBy W1 (some gs)) (hb : Box W1 gs 69 cs) : w.heap.size ≤ g0 ∧ g0 < gs ∧ Box W1 g0 69 #[.slice none 0 0, .int .i64 0, .int .i64 0, .int .i64 0] ∧ FrL W1 w.heap.size 33 5 fv fs ∧ Below w.heap.size w W1 := by
  obtain ⟨h1, h2, h3, h4, h5, h6⟩ := h
  exact ⟨h1, h2, h4.grown hg (fun e => by injection e with e; omega), h5.boxed h3 hg (by decide) (by decide), below_row h6 hg (by omega) h6.size⟩
theorem St4.put1 (h : St4 w W g0 gs fv fs at_ j lo) (k : Nat) (x : Int) (hx : x = (k : Int)) : St4 w (W.setCell ⟨gs, 1, none⟩ (.int .i64 x)) g0 gs fv fs k j lo := by
  subst hx
  obtain ⟨b1, g1⟩ := h.2.2.1.put 1 (.int .i64 (k : Int))
  obtain ⟨k1, k2, k3, k4, k5⟩ := h.other g1 b1
  exact ⟨k1, k2, b1, k3, k4, k5⟩
theorem St4.put2 (h : St4 w W g0 gs fv fs at_ j lo) (k : Nat) (x : Int) (hx : x = (k : Int)) : St4 w (W.setCell ⟨gs, 2, none⟩ (.int .i64 x)) g0 gs fv fs at_ k lo := by
  subst hx
  obtain ⟨b1, g1⟩ := h.2.2.1.put 2 (.int .i64 (k : Int))
  obtain ⟨k1, k2, k3, k4, k5⟩ := h.other g1 b1
  exact ⟨k1, k2, b1, k3, k4, k5⟩
theorem St4.put3 (h : St4 w W g0 gs fv fs at_ j lo) (k : Nat) (x : Int) (hx : x = (k : Int)) : St4 w (W.setCell ⟨gs, 3, none⟩ (.int .i64 x)) g0 gs fv fs at_ j k := by
  subst hx
  obtain ⟨b1, g1⟩ := h.2.2.1.put 3 (.int .i64 (k : Int))
  obtain ⟨k1, k2, k3, k4, k5⟩ := h.other g1 b1
  exact ⟨k1, k2, b1, k3, k4, k5⟩
theorem St4.put0 (h : St4 w W g0 gs fv fs at_ j lo) {fv1 : Value} {fs1 : List (Int × List Int)} (hF : FrL W w.heap.size 33 5 fv1 fs1) : St4 w (W.setCell ⟨gs, 0, none⟩ fv1) g0 gs fv1 fs1 at_ j lo := by
  obtain ⟨b1, g1⟩ := h.2.2.1.put 0 fv1
  obtain ⟨k1, k2, k3, k4, k5⟩ := h.other g1 b1
  exact ⟨k1, k2, b1, k3, hF.boxed h.2.2.1 g1 (by decide) (by decide), k5⟩
theorem St4.put0x {fv1 : Value} {fs1 : List (Int × List Int)} (h1 : w.heap.size ≤ g0) (h2 : g0 < gs) (hb : Box W gs 69 #[fv, .int .i64 (at_ : Int), .int .i64 (j : Int), .int .i64 (lo : Int)]) (hb0 : Box W g0 69 #[.slice none 0 0, .int .i64 0, .int .i64 0, .int .i64 0]) (HF : FrL W w.heap.size 33 5 fv1 fs1) (HB : Below w.heap.size w W) : St4 w (W.setCell ⟨gs, 0, none⟩ fv1) g0 gs fv1 fs1 at_ j lo := by
  obtain ⟨b1, g1⟩ := hb.put 0 fv1
  exact ⟨h1, h2, b1, hb0.grown g1 (fun e => by injection e with e; omega), HF.boxed hb g1 (by decide) (by decide), below_row HB g1 (by omega) HB.size⟩
theorem St4.q (h : St4 w W g0 gs fv fs at_ j lo) : W.cell? ⟨gs, 0, none⟩ = some fv ∧ W.cell? ⟨gs, 1, none⟩ = some (.int .i64 (at_ : Int)) ∧ W.cell? ⟨gs, 2, none⟩ = some (.int .i64 (j : Int)) ∧ W.cell? ⟨gs, 3, none⟩ = some (.int .i64 (lo : Int)) :=
  ⟨h.2.2.1.cell 0 rfl, h.2.2.1.cell 1 rfl, h.2.2.1.cell 2 rfl, h.2.2.1.cell 3 rfl⟩
theorem St4.z (h : St4 w W g0 gs fv fs at_ j lo) (i : Nat) : W.frozen? ⟨gs, i, none⟩ = false := h.2.2.1.frozen i
end
def atOf (W : World) (g : Nat) : Nat := match W.cell? ⟨g, 1, none⟩ with | some (.int _ i) => i.toNat | _ => 0
theorem St4.atOf {w W : World} {g0 gs : Nat} {fv : Value} {fs : List (Int × List Int)} {at_ j lo : Nat} (h : St4 w W g0 gs fv fs at_ j lo) : Go.Proofs.Ytilmmohkdgmhnaa.atOf W gs = at_ := by
  unfold Go.Proofs.Ytilmmohkdgmhnaa.atOf
  rw [h.q.2.1]
  rfl
/-- what Stream answers -/
def StrRet (w : World) (R : List (Int × List Int) × List Int × Nat × Nat) (n : Nat) (e : Ending) (w' : World) : Prop :=
  ∃ lv, e = .returned (.agg #[lv, .int .i64 ((n - R.2.1.length : Nat) : Int), .int .i64 (R.2.2.1 : Int), .int .i64 (R.2.2.2 : Int)]) ∧ FrL w' w.heap.size 33 5 lv R.1 ∧ Below w.heap.size w w'
theorem seen_one (A : Option Addr) (n c : Nat) (x y z : Int) : (#[Value.slice A n c, .int .i64 x, .int .i64 y, .int .i64 z]).all (·.oneCell') = true := by simp [Value.oneCell']
set_option maxHeartbeats 8000000 in
theorem ref_Stream_any (m : Int) (h0 : 0 ≤ m) (hm : m ≤ 1048576) (en : Bool) (v : Value) (b : List Int) (w : World) (HR : Rd w v b) (hl : b.length ≤ 35184372088832) :
    Calls Try.prog 36 #[.int .i64 m, v, .bool en] w (StrRet w (scanA m en b.length b [] 0 0) b.length) := by
  obtain ⟨R, hR⟩ : ∃ R, scanA m en b.length b [] 0 0 = R := ⟨_, rfl⟩
  rw [hR]
  have HI0 : Hid (StrI m en b R 0 b.length [] 0 0) := hd_ ⟨Nat.zero_le _, Nat.le_refl _, hR, Nat.zero_le _, Nat.zero_le _, Nat.zero_le _⟩
  clear hR
  have hlen := HR.2.len (P := Try.prog) 24 5 3 Try.underlying24
  have hb0 := Box.new w #[.slice none 0 0, .int .i64 0, .int .i64 0, .int .i64 0] 69
  have hB0 := al1 (Below.refl w.heap.size w) (.cells #[.slice none 0 0, .int .i64 0, .int .i64 0, .int .i64 0] 69)
  have hsz : (w.alloc (.cells #[.slice none 0 0, .int .i64 0, .int .i64 0, .int .i64 0] 69)).heap.size = w.heap.size + 1 := by simp
  have hmn : ¬ m < -1 := by omega
  go_enter Try.func36, Try.ntmps36
  go_upto_region 1 with fail
  generalize w.alloc (.cells #[.slice none 0 0, .int .i64 0, .int .i64 0, .int .i64 0] 69) = W0 at *
  have hb1 := Box.new W0 #[.slice none 0 0, .int .i64 0, .int .i64 0, .int .i64 0] 69
  have hB1 := al1 (Below.refl W0.heap.size W0) (.cells #[.slice none 0 0, .int .i64 0, .int .i64 0, .int .i64 0] 69)
  have hS0 : Hid (St4 w (W0.alloc (.cells #[.slice none 0 0, .int .i64 0, .int .i64 0, .int .i64 0] 69)) w.heap.size W0.heap.size (.slice none 0 0) [] 0 0 0) := hd_ ⟨Nat.le_refl _, by omega, hb1, hb0.keep hB1, FrL.nil _ _ _ _, bel_trans hB0 hB1⟩
  clear hb0 hB0 hb1 hB1 hsz
  go_upto_region 2 with fail
  generalize W0.alloc (.cells #[.slice none 0 0, .int .i64 0, .int .i64 0, .int .i64 0] 69) = W1 at *
  generalize W0.heap.size = gs at *
  go_loopw [8] (fun _ wr => ∃ (n at_ : Nat) (fs : List (Int × List Int)) (j lo : Nat) (fv : Value), Hid (St4 w wr w.heap.size gs fv fs at_ j lo) ∧ Hid (StrI m en b R at_ n fs j lo)) (fun _ wr => b.length - atOf wr gs)
  case atStart => exact ⟨_, 0, [], 0, 0, _, hS0, HI0⟩
  case round =>
    clear hS0 HI0
    obtain ⟨n, at_, fs, j, lo, fv, hS, HI⟩ := hrel
    have hq := hS.out.q.2.1
    have hle := HI.out.1
    by_cases hat : at_ < b.length
    · have hatI : (at_ : Int) < (b.length : Int) := by omega
      obtain ⟨u, hsl, hRw⟩ := HR.sl_l Try.underlying24 info8 at_ hle
      have hRu := hRw.keep hS.out.2.2.2.2.2
      have hsl : ∀ (W : World), Sem.run Try.prog (Instr.slice 24 v (some (Value.int IntKind.i64 (at_ : Int))) none none) W = Result.ok u W := hsl
      have hlu := hRu.2.len (P := Try.prog) 24 5 3 Try.underlying24
      have hrl : (b.drop at_).length = b.length - at_ := List.length_drop
      have HBd : Hid (j + 1 < 4611686018427387904 ∧ lo + 1 < 4611686018427387904 ∧ at_ + 1 < 4611686018427387904 ∧ (fs.length + 1) * 32 ≤ 140737488355328 ∧ (b.drop at_).length ≤ 35184372088832) := by
        obtain ⟨k1, k2, k3, k4, k5, k6⟩ := HI.out
        exact hd_ ⟨by omega, by omega, by omega, by omega, by omega⟩
      obtain ⟨N, hN, hN24⟩ := lenN_range hRu.1
      have HSk := hd_ (fun h => HI.out.skip hat h)
      have HLo := hd_ (fun h => HI.out.lose hat h)
      have HWt := hd_ (fun h h2 => HI.out.wait hat h h2)
      have HFi := hd_ (fun h (h2 : N + 14 ≤ (b.drop at_).length) => HI.out.find hat h hN h2)
      have hAt := hd_ hat
      have hNl : Hid (b.length - (b.drop at_).length = at_) := hd_ (by omega)
      have hNr : Hid ((b.drop at_).length + at_ = b.length) := hd_ (by omega)
      clear HI hle hat hrl
      obtain ⟨r, hr⟩ : ∃ r, b.drop at_ = r := ⟨_, rfl⟩
      rw [hr] at hRw hRu hlu HBd hN HSk HLo HWt HFi hNl hNr
      clear hr
      obtain ⟨bd1, bd2, bd3, bd4, bd5⟩ := HBd.out
      by_cases hF : frontB r = false
      · have hE : lookN m r = 0 := by unfold lookN; rw [if_pos hF]
        have hT1 := hd_ (hS.out.put1 (at_ + 1) ((at_ : Int) + 1) rfl)
        have hT2 := hd_ (hT1.out.put2 (j + 1) ((j : Int) + 1) rfl)
        have q1 := hS.out.q.2.1
        have z1 := hS.out.z 1
        have q2 := hT1.out.q.2.2.1
        have z2 := hT1.out.z 2
        go_wp2_with (go_at_call 53; (with_reducible refine (ref_front_any _ _ _ hRu).mono ?_); rintro e w' ⟨rfl, rfl⟩; rw [hF])
        go_roundw
        case rel => exact (by obtain ⟨n', h'⟩ := HSk.out (.inl hE); exact ⟨n', at_ + 1, fs, j + 1, lo, fv, hT2, hd_ h'⟩)
        case measure => exact (by have h1 := hS.out.atOf; have h2 := hT2.out.atOf; have h3 := hAt.out; rw [h1, h2]; omega)
      have hFt : frontB r = true := by cases h : frontB r <;> simp_all
      by_cases h10 : r.length < 10
      · have hE : lookN m r = 1 := by unfold lookN; rw [if_neg hF, if_pos h10]
        have h10I : (r.length : Int) < 10 := by omega
        cases en
        · have hRe := hd_ (HWt.out hE rfl)
          obtain ⟨A, c, rfl⟩ := hS.out.2.2.2.2.1.len
          go_wp2_with (first
            | (go_at_call 53; (with_reducible refine (ref_front_any _ _ _ hRu).mono ?_); rintro e w' ⟨rfl, rfl⟩; rw [hFt])
            | (refine load_box rfl 69 _ rfl gs 69 _ _ rfl hS.out.2.2.1 Try.underlying69 rfl infoSeen ?_)
            | (refine store_box rfl 69 _ _ rfl w.heap.size 69 _ #[.slice A fs.length c, .int .i64 (at_ : Int), .int .i64 (j : Int), .int .i64 (lo : Int)] rfl rfl hS.out.2.2.2.1 infoSeen rfl (seen_one _ _ _ _ _ _) ?_; intro w9 hb9 hg9))
          refine bodyPost_ret (results_cell1 rfl _ _ _ rfl (run_load_box _ _ _ _ _ hb9 Try.underlying69 rfl infoSeen)) rfl ?_
          rw [hRe.out]
          exact ⟨_, by rw [hNl.out], hS.out.2.2.2.2.1.boxed hS.out.2.2.2.1 hg9 (by decide) (by decide), below_row hS.out.2.2.2.2.2 hg9 (Nat.le_refl _) hS.out.2.2.2.2.2.size⟩
        · have hT1 := hd_ (hS.out.put1 (at_ + 1) ((at_ : Int) + 1) rfl)
          have hT2 := hd_ (hT1.out.put2 (j + 1) ((j : Int) + 1) rfl)
          have q1 := hS.out.q.2.1
          have z1 := hS.out.z 1
          have q2 := hT1.out.q.2.2.1
          have z2 := hT1.out.z 2
          go_wp2_with (go_at_call 53; (with_reducible refine (ref_front_any _ _ _ hRu).mono ?_); rintro e w' ⟨rfl, rfl⟩; rw [hFt])
          go_roundw
          case rel => exact (by obtain ⟨n', h'⟩ := HSk.out (.inr ⟨hE, by trivial⟩); exact ⟨n', at_ + 1, fs, j + 1, lo, fv, hT2, hd_ h'⟩)
          case measure => exact (by have h1 := hS.out.atOf; have h2 := hT2.out.atOf; have h3 := hAt.out; rw [h1, h2]; omega)
      have h10' : 10 ≤ r.length := by omega
      have h10I : ¬ (r.length : Int) < 10 := by omega
      by_cases hH : headB r = false
      · have hE : lookN m r = 0 := by unfold lookN; rw [if_neg hF, if_neg h10, if_pos hH]
        go_wp2_with (first
          | (go_at_call 53; (with_reducible refine (ref_front_any _ _ _ hRu).mono ?_); rintro e w' ⟨rfl, rfl⟩; rw [hFt])
          | (go_at_call 54; (with_reducible refine (ref_length_any _ _ _ hRu h10').mono ?_); rintro e w2 ⟨rfl, HB2⟩; rw [hH, if_neg Bool.false_ne_true]; have hS2 := hd_ (hS.out.keep HB2); have hT1 := hd_ (hS2.out.put1 (at_ + 1) ((at_ : Int) + 1) rfl); have hT2 := hd_ (hT1.out.put2 (j + 1) ((j : Int) + 1) rfl); have q1 := hS2.out.q.2.1; have z1 := hS2.out.z 1; have q2 := hT1.out.q.2.2.1; have z2 := hT1.out.z 2))
        go_roundw
        case rel => exact (by obtain ⟨n', h'⟩ := HSk.out (.inl hE); exact ⟨n', at_ + 1, fs, j + 1, lo, fv, hT2, hd_ h'⟩)
        case measure => exact (by have h1 := hS.out.atOf; have h2 := hT2.out.atOf; have h3 := hAt.out; rw [h1, h2]; omega)
      have hHt : headB r = true := by cases h : headB r <;> simp_all
      by_cases hM : m < lenN r
      · have hE : lookN m r = 0 := by unfold lookN; rw [if_neg hF, if_neg h10, if_neg hH, if_pos hM]
        rw [hN] at hM
        go_wp2_with (first
          | (go_at_call 53; (with_reducible refine (ref_front_any _ _ _ hRu).mono ?_); rintro e w' ⟨rfl, rfl⟩; rw [hFt])
          | (go_at_call 54; (with_reducible refine (ref_length_any _ _ _ hRu h10').mono ?_); rintro e w2 ⟨rfl, HB2⟩; rw [hHt, if_pos rfl, hN]; have hS2 := hd_ (hS.out.keep HB2); have hT1 := hd_ (hS2.out.put1 (at_ + 1) ((at_ : Int) + 1) rfl); have hT2 := hd_ (hT1.out.put2 (j + 1) ((j : Int) + 1) rfl); have q1 := hS2.out.q.2.1; have z1 := hS2.out.z 1; have q2 := hT1.out.q.2.2.1; have z2 := hT1.out.z 2))
        go_roundw
        case rel => exact (by obtain ⟨n', h'⟩ := HSk.out (.inl hE); exact ⟨n', at_ + 1, fs, j + 1, lo, fv, hT2, hd_ h'⟩)
        case measure => exact (by have h1 := hS.out.atOf; have h2 := hT2.out.atOf; have h3 := hAt.out; rw [h1, h2]; omega)
      have hMn : ¬ m < (N : Int) := by rw [← hN]; exact hM
      have hN0 : (0 : Int) ≤ (N : Int) := Int.natCast_nonneg N
      by_cases hS' : (r.length : Int) < lenN r + 14
      · have hE : lookN m r = 1 := by unfold lookN; rw [if_neg hF, if_neg h10, if_neg hH, if_neg hM, if_pos hS']
        rw [hN] at hS'
        cases en
        · have hRe := hd_ (HWt.out hE rfl)
          obtain ⟨A, c, rfl⟩ := hS.out.2.2.2.2.1.len
          go_wp2_with (first
            | (go_at_call 53; (with_reducible refine (ref_front_any _ _ _ hRu).mono ?_); rintro e w' ⟨rfl, rfl⟩; rw [hFt])
            | (go_at_call 54; (with_reducible refine (ref_length_any _ _ _ hRu h10').mono ?_); rintro e w2 ⟨rfl, HB2⟩; rw [hHt, if_pos rfl, hN]; have hS2 := hd_ (hS.out.keep HB2))
            | (refine load_box rfl 69 _ rfl gs 69 _ _ rfl hS2.out.2.2.1 Try.underlying69 rfl infoSeen ?_)
            | (refine store_box rfl 69 _ _ rfl w.heap.size 69 _ #[.slice A fs.length c, .int .i64 (at_ : Int), .int .i64 (j : Int), .int .i64 (lo : Int)] rfl rfl hS2.out.2.2.2.1 infoSeen rfl (seen_one _ _ _ _ _ _) ?_; intro w9 hb9 hg9))
          refine bodyPost_ret (results_cell1 rfl _ _ _ rfl (run_load_box _ _ _ _ _ hb9 Try.underlying69 rfl infoSeen)) rfl ?_
          rw [hRe.out]
          exact ⟨_, by rw [hNl.out], hS2.out.2.2.2.2.1.boxed hS2.out.2.2.2.1 hg9 (by decide) (by decide), below_row hS2.out.2.2.2.2.2 hg9 (Nat.le_refl _) hS2.out.2.2.2.2.2.size⟩
        · go_wp2_with (first
            | (go_at_call 53; (with_reducible refine (ref_front_any _ _ _ hRu).mono ?_); rintro e w' ⟨rfl, rfl⟩; rw [hFt])
            | (go_at_call 54; (with_reducible refine (ref_length_any _ _ _ hRu h10').mono ?_); rintro e w2 ⟨rfl, HB2⟩; rw [hHt, if_pos rfl, hN]; have hS2 := hd_ (hS.out.keep HB2); have hT1 := hd_ (hS2.out.put1 (at_ + 1) ((at_ : Int) + 1) rfl); have hT2 := hd_ (hT1.out.put2 (j + 1) ((j : Int) + 1) rfl); have q1 := hS2.out.q.2.1; have z1 := hS2.out.z 1; have q2 := hT1.out.q.2.2.1; have z2 := hT1.out.z 2))
          go_roundw
          case rel => exact (by obtain ⟨n', h'⟩ := HSk.out (.inr ⟨hE, by trivial⟩); exact ⟨n', at_ + 1, fs, j + 1, lo, fv, hT2, hd_ h'⟩)
          case measure => exact (by have h1 := hS.out.atOf; have h2 := hT2.out.atOf; have h3 := hAt.out; rw [h1, h2]; omega)
      have hSn : N + 14 ≤ r.length := by rw [hN] at hS'; omega
      have hSI : ¬ (r.length : Int) < (N : Int) + 14 := by omega
      have eN : (lenN r + 14).toNat = N + 14 := by rw [hN]; omega
      obtain ⟨u1, hs1, hR1⟩ := hRu.sl_h Try.underlying24 info8 (N + 14) hSn
      have hs1 : ∀ (W : World), Sem.run Try.prog (Instr.slice 24 u none (some (Value.int IntKind.i64 ((N : Int) + 14))) none) W = Result.ok u1 W := hs1
      have hT14 : Hid ((r.take (N + 14)).length ≤ 281474976710656) := hd_ (by rw [List.length_take]; omega)
      by_cases hW : holdsB (r.take (N + 14)) = false
      · have hE : lookN m r = 2 := by unfold lookN; rw [if_neg hF, if_neg h10, if_neg hH, if_neg hM, if_neg hS', eN, if_pos hW]
        go_wp2_with (first
          | (go_at_call 53; (with_reducible refine (ref_front_any _ _ _ hRu).mono ?_); rintro e w' ⟨rfl, rfl⟩; rw [hFt])
          | (go_at_call 54; (with_reducible refine (ref_length_any _ _ _ hRu h10').mono ?_); rintro e w2 ⟨rfl, HB2⟩; rw [hHt, if_pos rfl, hN]; skip)
          | (go_at_call 55; (with_reducible refine (ref_Holds_any _ _ _ (hR1.keep HB2) hT14.out).mono ?_); rintro e w3 ⟨rfl, HB3⟩; rw [hW]; have hS3 := hd_ (hS.out.keep (bel_trans HB2 HB3)); have hT0 := hd_ (hS3.out.put3 (lo + 1) ((lo : Int) + 1) rfl); have q0 := hS3.out.q.2.2.2; have z0 := hS3.out.z 3; have hT1 := hd_ (hT0.out.put1 (at_ + 1) ((at_ : Int) + 1) rfl); have hT2 := hd_ (hT1.out.put2 (j + 1) ((j : Int) + 1) rfl); have q1 := hT0.out.q.2.1; have z1 := hT0.out.z 1; have q2 := hT1.out.q.2.2.1; have z2 := hT1.out.z 2))
        go_roundw
        case rel => exact (by obtain ⟨n', h'⟩ := HLo.out hE; exact ⟨n', at_ + 1, fs, j + 1, (lo + 1), fv, hT2, hd_ h'⟩)
        case measure => exact (by have h1 := hS.out.atOf; have h2 := hT2.out.atOf; have h3 := hAt.out; rw [h1, h2]; omega)
      have hWt : holdsB (r.take (N + 14)) = true := by cases h : holdsB (r.take (N + 14)) <;> simp_all
      have hE : lookN m r = 3 := by unfold lookN; rw [if_neg hF, if_neg h10, if_neg hH, if_neg hM, if_neg hS', eN, if_neg hW]
      have HFi := hd_ (HFi.out hE hSn)
      obtain ⟨u2, hs2, hR2⟩ := hRu.sl Try.underlying24 info8 10 (N + 10) (by omega) (by omega)
      have hs2 : ∀ (W : World), Sem.run Try.prog (Instr.slice 24 u (some (Value.int IntKind.i64 10)) (some (Value.int IntKind.i64 (10 + (N : Int)))) none) W = Result.ok u2 W := by
        have e : ((N + 10 : Nat) : Int) = 10 + (N : Int) := by omega
        rw [e] at hs2
        exact hs2
      have eT : (r.take (N + 10)).drop 10 = (r.drop 10).take N := by rw [List.drop_take]; congr 1
      rw [eT] at hR2
      clear eT
      obtain ⟨b2, o2, hat2, h2⟩ := hRw.at Try.underlying24 info8 .i64 2 (by omega)
      have hat2 : ∀ W, Sem.run Try.prog (Instr.indexAt 24 u (Value.int IntKind.i64 2)) W = .ok (.pointer (some ⟨b2, o2, none⟩)) W := hat2
      have h2w := hd_ h2
      obtain ⟨p2, q2'⟩ := bytes_at hRu.1 2
      have hw64 : IntKind.i64.wrap (r.getD 2 0) = r.getD 2 0 := by rw [IntKind.wrap_i64]; omega
      have hlast : Hid (at_ + N + 14 < 4611686018427387904 ∧ at_ + N + 14 ≤ b.length) := by
        have h1 := hNr.out
        have h2 := hAt.out
        exact hd_ ⟨by omega, by omega⟩
      obtain ⟨hla1, _⟩ := hlast.out
      have wr1 : IntKind.i64.wrap (10 + (N : Int)) = 10 + (N : Int) := by rw [IntKind.wrap_i64]; omega
      have hTb : Hid (([] : List Int).length + ((r.drop 10).take N).length ≤ 140737488355328) := hd_ (by rw [List.length_take, List.length_nil]; omega)
      generalize r.getD 2 0 = x2 at *
      obtain ⟨T, hT⟩ : ∃ T, (r.drop 10).take N = T := ⟨_, rfl⟩
      rw [hT] at hR2 hTb HFi
      clear hT hE hW
      go_upto_region 18 with (first
        | (go_at_call 53; (with_reducible refine (ref_front_any _ _ _ hRu).mono ?_); rintro e w' ⟨rfl, rfl⟩; rw [hFt])
        | (go_at_call 54; (with_reducible refine (ref_length_any _ _ _ hRu h10').mono ?_); rintro e w2 ⟨rfl, HB2⟩; rw [hHt, if_pos rfl, hN]; skip)
        | (go_at_call 55; (with_reducible refine (ref_Holds_any _ _ _ (hR1.keep HB2) hT14.out).mono ?_); rintro e w3 ⟨rfl, HB3⟩; rw [hWt]; have HB23 := bel_trans HB2 HB3; have hS3 := hd_ (hS.out.keep HB23)))
      have h2c := cell_keep hS3.out.2.2.2.2.2 h2w.out
      have hC0 : (fun W : World => W.cell? ⟨gs, 0, none⟩ = some fv ∧ W.cell? ⟨b2, o2, none⟩ = some (.int .u8 x2)) w3.drew := ⟨hS3.out.q.1, h2c⟩
      have hR2d := hd_ ((hR2.keep HB23).keep (Below.refl _ _).drew)
      refine region_J [15] (fun W => W.cell? ⟨gs, 0, none⟩ = some fv ∧ W.cell? ⟨b2, o2, none⟩ = some (.int .u8 x2)) rfl ?_
      refine take_J 0 _ _ (v := ?_) rfl (by kernel_rfl) (by kernel_rfl) (by kernel_rfl) (by kernel_rfl) (fun _ _ _ h => h) rfl hC0 ?_ ?_
      rotate_left
      · intro W hC; go_simp; try with_reducible rfl
      simp only [Act.put, List.setIfInBounds_toArray, List.set_cons_zero, List.set_cons_succ]
      refine take_J 1 _ _ (v := ?_) rfl (by kernel_rfl) (by kernel_rfl) (by kernel_rfl) (by kernel_rfl) (fun _ _ _ h => h) rfl hC0 ?_ ?_
      rotate_left
      · intro W hC; have hc1 := hC.1; have hc2 := hC.2; go_simp; try with_reducible rfl
      simp only [Act.put, List.setIfInBounds_toArray, List.set_cons_zero, List.set_cons_succ]
      refine take_J 2 _ _ (v := ?_) rfl (by kernel_rfl) (by kernel_rfl) (by kernel_rfl) (by kernel_rfl) (fun _ _ _ h => h) rfl hC0 ?_ ?_
      rotate_left
      · intro W hC; go_simp; try with_reducible rfl
      simp only [Act.put, List.setIfInBounds_toArray, List.set_cons_zero, List.set_cons_succ]
      refine take_J 3 _ _ (v := ?_) rfl (by kernel_rfl) (by kernel_rfl) (by kernel_rfl) (by kernel_rfl) (fun _ _ _ h => h) rfl hC0 ?_ ?_
      rotate_left
      · intro W hC; go_simp; try with_reducible rfl
      simp only [Act.put, List.setIfInBounds_toArray, List.set_cons_zero, List.set_cons_succ]
      refine take_J 4 _ _ (v := ?_) rfl (by kernel_rfl) (by kernel_rfl) (by kernel_rfl) (by kernel_rfl) (fun _ _ _ h => h) rfl hC0 ?_ ?_
      rotate_left
      · intro W hC; have hc1 := hC.1; have hc2 := hC.2; go_simp; try with_reducible rfl
      simp only [Act.put, List.setIfInBounds_toArray, List.set_cons_zero, List.set_cons_succ]
      refine take_J 5 _ _ (v := ?_) rfl (by kernel_rfl) (by kernel_rfl) (by kernel_rfl) (by kernel_rfl) (fun _ _ _ h => h) rfl hC0 ?_ ?_
      rotate_left
      · intro W hC; go_simp; try with_reducible rfl
      simp only [Act.put, List.setIfInBounds_toArray, List.set_cons_zero, List.set_cons_succ]
      refine take_J 6 _ _ (v := ?_) rfl (by kernel_rfl) (by kernel_rfl) (by kernel_rfl) (by kernel_rfl) (fun _ _ _ h => h) rfl hC0 ?_ ?_
      rotate_left
      · intro W hC; go_simp; try with_reducible rfl
      simp only [Act.put, List.setIfInBounds_toArray, List.set_cons_zero, List.set_cons_succ]
      refine take_J 7 _ _ (v := ?_) rfl (by kernel_rfl) (by kernel_rfl) (by kernel_rfl) (by kernel_rfl) (fun _ _ _ h => h) rfl hC0 ?_ ?_
      rotate_left
      · intro W hC; go_simp; try with_reducible rfl
      simp only [Act.put, List.setIfInBounds_toArray, List.set_cons_zero, List.set_cons_succ]
      refine take_J 8 _ _ (v := ?_) rfl (by kernel_rfl) (by kernel_rfl) (by kernel_rfl) (by kernel_rfl) (fun _ _ _ h => h) rfl hC0 ?_ ?_
      rotate_left
      · intro W hC; go_simp; try with_reducible rfl
      simp only [Act.put, List.setIfInBounds_toArray, List.set_cons_zero, List.set_cons_succ]
      refine take_J 9 _ _ (v := ?_) rfl (by kernel_rfl) (by kernel_rfl) (by kernel_rfl) (by kernel_rfl) (fun _ _ _ h => h) rfl hC0 ?_ ?_
      rotate_left
      · intro W hC; go_simp; try with_reducible rfl
      simp only [Act.put, List.setIfInBounds_toArray, List.set_cons_zero, List.set_cons_succ]
      refine ready_J 10 _ _ rfl (by kernel_rfl) rfl (fun K hK => ?_)
      refine wp_app_O w3.heap.size _ _ 24 5 rfl Try.underlying24 info8 (.slice none 0 0) u2 [] T (by rfl) (by rfl) (own_nil8 _ _ _) hR2d.out (Nat.le_refl _) hTb.out ?_
      intro v4 w4 HO4 hg4 _
      rw [List.nil_append] at HO4
      have HB4 := hd_ ((Below.refl w3.heap.size w3).drew.grown hg4 (Nat.le_refl _) (fun k hk => by cases hk))
      obtain ⟨A4, c4, rfl, _⟩ := own_slice HO4
      have hS4 := hd_ (hS3.out.keep HB4.out)
      have hC4 : (fun W : World => W.cell? ⟨gs, 0, none⟩ = some fv ∧ W.cell? ⟨b2, o2, none⟩ = some (.int .u8 x2)) w4 := ⟨hS4.out.q.1, cell_keep hS4.out.2.2.2.2.2 h2w.out⟩
      refine hK _ _ (fun _ => hC4) ?_
      clear hK K
      try simp only [Act.put, List.setIfInBounds_toArray, List.set_cons_zero, List.set_cons_succ]
      refine ready_J 11 _ _ rfl (by kernel_rfl) rfl (fun K hK => ?_)
      go_simp
      refine hK _ _ (fun _ => hC4) ?_
      clear hK K
      try simp only [Act.put, List.setIfInBounds_toArray, List.set_cons_zero, List.set_cons_succ]
      refine ready_J 12 _ _ rfl (by kernel_rfl) rfl (fun K hK => ?_)
      go_simp
      have hBq := hd_ (al1 (Below.refl w4.heap.size w4) (.cells #[.int .i64 x2, .slice A4 T.length c4] 33))
      have hpair := hd_ (box_pair w4 (.int .i64 x2) (.slice A4 T.length c4) 33)
      have hS5 := hd_ (hS4.out.keep hBq.out)
      have HO5 := hd_ (own_base (HO4.keep hBq.out) hS3.out.2.2.2.2.2.size)
      have hC5 : (fun W : World => W.cell? ⟨gs, 0, none⟩ = some fv ∧ W.cell? ⟨b2, o2, none⟩ = some (.int .u8 x2)) (w4.alloc (.cells #[.int .i64 x2, .slice A4 T.length c4] 33)) := ⟨hS5.out.q.1, cell_keep hS5.out.2.2.2.2.2 h2w.out⟩
      refine hK _ _ (fun _ => hC5) ?_
      clear hK K
      try simp only [Act.put, List.setIfInBounds_toArray, List.set_cons_zero, List.set_cons_succ]
      refine ready_J 13 _ _ rfl (by kernel_rfl) rfl (fun K hK => ?_)
      refine wp_app_frame (w0 := w) w.heap.size _ _ 67 33 5 (.agg #[.int .i64 0, .slice none 0 0]) rfl Try.underlying67 infoGr rfl (by decide) fv _ (.slice A4 T.length c4) fs (x2, T) rfl rfl hS5.out.2.2.2.2.1 hpair.out rfl HO5.out hS5.out.2.2.2.2.2 hS5.out.2.2.2.2.2.size bd4 ?_
      intro v6 w6 HF6 HB6 hg6 hk6
      have hb6 := hS5.out.2.2.1.grown hg6 (hk6 gs _ _ hS5.out.2.2.1 (by decide))
      have hb60 := hS5.out.2.2.2.1.grown hg6 (hk6 _ _ _ hS5.out.2.2.2.1 (by decide))
      have hl01 := hS5.out.1
      have hl02 := hS5.out.2.1
      have hT6 := hd_ (St4.put0x hl01 hl02 hb6 hb60 HF6 HB6)
      have hC6 : (fun W : World => W.cell? ⟨gs, 0, none⟩ = some fv ∧ W.cell? ⟨b2, o2, none⟩ = some (.int .u8 x2)) w6 := ⟨hb6.cell 0 rfl, cell_keep HB6 h2w.out⟩
      have d6 := hb6.cell 0 (v := fv) rfl
      have z6 := hb6.frozen 0
      obtain ⟨A6, c6, hv6⟩ := HF6.len
      rw [List.length_append, List.length_singleton] at hv6
      subst hv6
      refine hK _ _ (fun _ => hC6) ?_
      clear hK K
      try simp only [Act.put, List.setIfInBounds_toArray, List.set_cons_zero, List.set_cons_succ]
      refine ready_J 14 _ _ rfl (by kernel_rfl) rfl (fun K hK => ?_)
      go_simp
      refine hK _ _ (fun _ => hC6) ?_
      clear hK K
      refine ready_J 15 _ _ rfl (by kernel_rfl) rfl (fun K hK => ?_)
      go_simp
      refine hK _ _ (fun h => by cases h) ?_
      clear hK K
      refine wpAnyJ_done (by kernel_rfl) ?_ _
      have q1 := hT6.out.q.2.1
      have z1 := hT6.out.z 1
      have hT7 := hd_ (hT6.out.put1 (at_ + N + 14) ((at_ : Int) + (N : Int) + 14) (by omega))
      go_wp2
      go_roundw
      case rel => exact (by obtain ⟨n', h'⟩ := HFi.out; exact ⟨n', at_ + N + 14, _, j, lo, _, hT7, hd_ h'⟩)
      case measure => exact (by have h1 := hS.out.atOf; have h2 := hT7.out.atOf; have h3 := hAt.out; have h4 := hlast.out.2; rw [h1, h2]; omega)
    · obtain rfl : at_ = b.length := by omega
      have hRe := hd_ (HI.out.done rfl)
      have hnI : ¬ (b.length : Int) < (b.length : Int) := by omega
      clear HI hat
      obtain ⟨A, c, rfl⟩ := hS.out.2.2.2.2.1.len
      go_wp2_with (first
        | (refine load_box rfl 69 _ rfl gs 69 _ _ rfl hS.out.2.2.1 Try.underlying69 rfl infoSeen ?_)
        | (refine store_box rfl 69 _ _ rfl w.heap.size 69 _ #[.slice A fs.length c, .int .i64 (b.length : Int), .int .i64 (j : Int), .int .i64 (lo : Int)] rfl rfl hS.out.2.2.2.1 infoSeen rfl (seen_one _ _ _ _ _ _) ?_; intro w9 hb9 hg9))
      refine bodyPost_ret (results_cell1 rfl _ _ _ rfl (run_load_box _ _ _ _ _ hb9 Try.underlying69 rfl infoSeen)) rfl ?_
      rw [hRe.out]
      exact ⟨_, rfl, hS.out.2.2.2.2.1.boxed hS.out.2.2.2.1 hg9 (by decide) (by decide), below_row hS.out.2.2.2.2.2 hg9 (Nat.le_refl _) hS.out.2.2.2.2.2.size⟩
end Go.Proofs.Ytilmmohkdgmhnaa
