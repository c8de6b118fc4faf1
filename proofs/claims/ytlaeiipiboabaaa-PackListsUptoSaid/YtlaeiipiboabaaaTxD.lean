/- Lists of texts: alike, and in a longer list. -/
import Derived.Test.YtlaeiipiboabaaaTxC
namespace Go.Proofs.Ytlaeiipiboabaaa
open Go.RowKit
set_option maxRecDepth 100000
set_option linter.unusedVariables false
section
variable {P : Program} {ops : Array Oper} {rest : List Oper} {o : Oper} {a : Act} {Q : Exit → Act → World → Prop}
/-- an append that is guarded -/
theorem app_rdG {W : World} (base : Nat) (hw : Region.wanted o (yielded ops a.tmps) = true) (s x : Operand) (t e : TypeId) (z : Value) (size bytes : Nat)
    (ho : o.op = .call { callee := .builtin .append, args := #[s, x], argTypes := #[t, t] })
    (ht : P.underlying t = some (.slice e)) (hinfo : (P.info? e).map (fun i => (i.zero, i.size, i.bytes)) = some (some z, size, bytes)) (hzs : z.cells.size = size) (hsz : 0 < size)
    (v y : Value) (n m : Nat) (xs ys : List Value) (hs : a.eval s = v) (hx : a.eval x = y)
    (HO : W.ownsRow base e size v n xs) (HR : RdC size W y m ys) (h1 : ∀ u ∈ ys, u.oneCell' = true) (hbase : base ≤ W.heap.size) (hb0 : 0 < bytes) (hl : (n + m) * bytes ≤ 140737488355328)
    (h : ∀ v1 w1, w1.ownsRow base e size v1 (n + m) (xs ++ ys) → W.grownBy w1 v.ownBlock → (v1.ownBlock = v.ownBlock ∨ v1.ownBlock = some W.heap.size) → wpList P ops Q rest (a.put o.dst v1) w1) :
    wpList P ops Q (o :: rest) a W := by
  obtain ⟨v1, w1, hr, h2, h3, h5⟩ := run_app (P := P) base t o.type e z size bytes ht hinfo hzs hsz HO HR h1 hbase hb0 hl
  unfold wpList
  rw [if_pos hw]
  refine .inl ?_
  unfold Oper.wp execOp
  simp only [ho, resolve, invoke, builtin, Sem.run_bind, Sem.run_pure, Result.andThen_ok, List.map_toArray, List.map_cons, List.map_nil, hs, hx, hr]
  exact h v1 w1 h2 h3 h5
end
theorem one_strs (l : List ByteArray) : ∀ u ∈ l.map Value.string, u.oneCell' = true := by
  intro u hu
  obtain ⟨s, _, rfl⟩ := List.mem_map.1 hu
  rfl
theorem lit_ownS (W : World) (base : Nat) (hb : base ≤ W.heap.size) (l : List ByteArray) (n : Nat) (hn : l.length = n) (hm : n ≤ maxLen) : (W.alloc (.cells (l.map Value.string).toArray 9)).ownsRow base 9 1 (.slice (some ⟨W.heap.size, 0, none⟩) n n) n (l.map Value.string) := by
  subst hn
  have := World.ownsRow_lit (e := 9) (size := 1) W (l.map Value.string).toArray l.length hb hm (by simp)
  simpa using this
set_option maxHeartbeats 2000000 in
theorem same_true (v u : Value) (l : List ByteArray) (w : World) (HR : RdS w v l) (HS : RdS w u l) (hl : l.length ≤ 9000000000000) :
    Calls Try.prog 20 #[v, u] w fun e w' => e = .returned (.bool true) ∧ ∃ m, w' = w.drewN m := by
  have hlen : ∀ W, Sem.run Try.prog (Builtin.len_ #[28] 3 #[v]) W = .ok (.int .i64 (l.length : Int)) W := RdC.len (P := Try.prog) HR 28 9 3 Try.underlying28
  have hlen2 : ∀ W, Sem.run Try.prog (Builtin.len_ #[28] 3 #[u]) W = .ok (.int .i64 (l.length : Int)) W := RdC.len (P := Try.prog) HS 28 9 3 Try.underlying28
  have hRH := hd_ HR
  have hSH := hd_ HS
  clear HR HS
  go_enter Try.func20, Try.ntmps20
  go_upto_region 4 with fail
  go_loopw [13] (fun vi wr => ∃ k m : Nat, k ≤ l.length ∧ vi = .int .i64 (k : Int) ∧ wr = w.drewN m) (fun vi _ => l.length - (intOf vi).toNat)
  case atStart => exact ⟨0, 0, Nat.zero_le _, rfl, rfl⟩
  case round =>
    obtain ⟨k, m, hk, rfl, rfl⟩ := hrel
    by_cases hlt : k < l.length
    · have hkI : (k : Int) < (l.length : Int) := by omega
      obtain ⟨bl, off, hix, hc⟩ := hRH.out.at k hlt
      obtain ⟨bl2, off2, hix2, hc2⟩ := hSH.out.at k hlt
      generalize l[k] = s at *
      have hc : (w.drewN m).cell? ⟨bl, off, none⟩ = some (.string s) := cell_keep (below_drewN (Below.refl _ _) m) hc
      have hc2 : (w.drewN m).cell? ⟨bl2, off2, none⟩ = some (.string s) := cell_keep (below_drewN (Below.refl _ _) m) hc2
      have hI1 : (Value.int IntKind.i64 (wrap64 ((k : Int) + 1))) = .int .i64 ((k : Int) + 1) := congrArg _ (by unfold wrap64; omega)
      have hkx := hd_ hlt
      generalize hWd : w.drewN m = Wd at *
      have hWH := hd_ hWd
      clear hWd
      go_upto_region 6 with fail
      go_quiet (fail)
      go_wp2
      go_roundw
      case rel => exact ⟨k + 1, _, hkx.out, by first | rfl | (rw [hI1]; rfl), by rw [← hWH.out]; first | rfl | simp; rfl⟩
      case measure => first | (rw [hI1]; exact meas_k1t _ _ hkx.out) | exact meas_k1t _ _ hkx.out
    · obtain rfl : k = l.length := by omega
      go_wp2
      go_ret
      exact ⟨rfl, _, rfl⟩
end Go.Proofs.Ytlaeiipiboabaaa
