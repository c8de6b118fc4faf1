/- The law 'FrameSplits' answers true whatever it is given, and leaves its arguments as they were. Conditions: none beside the row's own. -/
import Derived.Test.YtilmmohkdgmhnaaRows
import Derived.Test.YtilmmohkdgmhnaaOpen2
import Derived.Test.YtilmmohkdgmhnaaFrameEc
import Derived.WalkKit
import Derived.ProofKit
import Derived.OpenShut
import Derived.ShutString
import Derived.ChangeOld
import Derived.Below
import Derived.SizedLaws
import Derived.Test.YtilmmohkdgmhnaaOpen3
import Derived.Deep.CondSized
namespace Go.Proofs.Ytilmmohkdgmhnaa.frameSplits
open Go.ChangeShapes Go.WideShapes Go.ChangeAt Go.RowKit
open Go.ChangeMaps (open_string shut_string)
set_option linter.unusedVariables false
theorem own : ownKnob Try.prog.godebug = none := by kernel_rfl
theorem laidOut : laidOutB Try.prog = true := by kernel_rfl
set_option maxRecDepth 100000 in
theorem lifted (os : Os) (started : os.Started) (H : Type) (enc : TypeId × Value → H) (F : Stop.Interp) :
    ReturnsInHanded {} Try.checked os 10 .any ((Rows.OpenSpec.upto Rows.frameSplitsSpec).pre6 enc Try.prog Try.f10 Rows.frameSplitsUptoRow.domain false) (((Rows.OpenSpec.upto Rows.frameSplitsSpec).at F).post enc Try.prog Try.f10 false true false false) := by
  refine returnsInHanded_of_cond_sized (C := Try.checked) (s := (Rows.OpenSpec.upto Rows.frameSplitsSpec)) (k := Rows.uptoSmall) rfl own started (by kernel_rfl) Try.func10
    (OpenSpec.witness (enc := enc) (C := Try.checked) (s := (Rows.OpenSpec.upto Rows.frameSplitsSpec)) (k := Rows.uptoSmall) rfl false ⟨#[], #[.int .i64 0, .slice none 0 0], []⟩ 8 (by kernel_rfl) (by kernel_rfl) (by kernel_rfl)
      (x := ([.lit (.int .i64 0), .nil], [], [])) (by kernel_rfl) rfl (by kernel_rfl)) ?_
  intro W base args ds gs before hval0 hW hcnd hk0 hsz0 _
  have hk : Rows.uptoSmall H (ds ++ gs) = true := hk0
  have hsz : (DataW.weightsEach Try.prog (Try.f10.params.toList ++ Rows.frameSplitsSpec.plain.varTypes Try.prog) (ds ++ gs)).all (· ≤ reachBytes) = true := hsz0
  have hval : ∀ (j : Nat) t v, Try.f10.params[j]? = some t → args[j]? = some v → Value.okWide Try.prog W .any base t v := hval0
  have hW' := hW
  obtain ⟨p, q, hA0, hV, rfl, hfz, hnd⟩ := hW
  have hA : DataW.TrodAll enc Try.prog W 0 (fun _ => true) true Try.f10.params.toList args.toList ds p := hA0
  rw [Try.params10] at hA hval hsz
  obtain ⟨v0, vs0, d0, ds0, p0, q0, hargs, rfl, rfl, h0, r_0⟩ := trodAll_cons hA
  obtain ⟨v1, vs1, d1, ds1, p1, q1, rfl, rfl, rfl, h1, r_1⟩ := trodAll_cons r_0
  obtain ⟨rfl, rfl, rfl⟩ := trodAll_nil r_1
  obtain rfl : args = #[v0, v1] := by cases args; simp_all
  obtain ⟨rfl, rfl⟩ := trodVars_none hV
  have hbk : Rows.uptoBulkAll [d0, d1] ≤ 1048576 := of_decide_eq_true hk
  simp only [Rows.uptoBulkAll] at hbk
  obtain ⟨a0, rfl, rfl, rfl, w0⟩ := open_int Try.underlying3 (hval 0 3 v0 rfl rfl) h0
  have hv1 : ∃ a n c, v1 = .slice a n c := okWide_slice Try.underlying64 (hval 1 64 v1 rfl rfl)
  have k1 := h1
  have lt1 : ∀ x ∈ p1, x.block < W.heap.size := by obtain ⟨m, hm⟩ := k1; exact DataW.trod_lt m _ _ _ hm
  have hz1 := small_of hsz (j := 1) rfl rfl
  obtain ⟨x1, r1, t1⟩ := opensB_one (opensB_slice (m := 3) (B := 32) Try.underlying64 (by kernel_rfl) (by decide) (by kernel_rfl) (opensB_struct (n := 3) Try.underlying66 (by kernel_rfl) (opensB_cons (opensB_bytes Try.underlying24 Try.underlying5 (by kernel_rfl) (by kernel_rfl) (by kernel_rfl)) (opensB_cons (opensB_of (opens_bool Try.underlying4 (by kernel_rfl))) (opensB_cons (opensB_of (opens_bool Try.underlying4 (by kernel_rfl))) opensB_nil))))) (by obtain ⟨a, n, c, rfl⟩ := hv1; rfl) h1 hz1
  clear hA0 hval0 hsz0 hsz hk hk0
  refine (law_FrameSplits W a0 w0 v1 x1 r1 (Nat.le_trans t1 (by omega))).mono fun e W' ⟨he, bel⟩ => ?_
  subst he
  have hp : Rows.frameSplitsSpec.post enc Try.prog Try.f10 false true false false W _ (.bool true) W' := ⟨_, _, _, [], _, [], hW', trodAll_mk1 (shut_bool Try.underlying4 _), (trodAll_cons_mk (shut_int Try.underlying3 w0) (trodAll_cons_mk (Below.trod laidOut (by kernel_rfl) (of_decide_eq_true (by kernel_rfl)) k1 bel lt1) trodAll_mk0)), rfl, bel.frame _, fun h => by cases h⟩
  exact ⟨_, rfl, hp⟩
theorem over : Rows.FrameSplitsUptoSaid :=
  OpenClaim.holds_of_cond 10 Try.f10 rfl rfl rfl rfl rfl rfl rfl ⟨rfl, rfl, rfl, rfl, rfl⟩ rfl rfl rfl rfl rfl (by kernel_rfl) Try.func10 (by kernel_rfl)
    (of_decide_eq_true (by kernel_rfl)) (by unfold Func.isWrapper; first | (rw [if_pos (by decide +kernel)]; kernel_rfl) | (rw [if_neg (by decide +kernel)]; exact ⟨rfl, rfl⟩))
    (fun os started H enc _ F => lifted os started H enc F)
end Go.Proofs.Ytilmmohkdgmhnaa.frameSplits
namespace Go.Proofs.Ytilmmohkdgmhnaa
theorem frameSplitsUpto_holds : Rows.FrameSplitsUptoSaid := frameSplits.over
#print axioms frameSplitsUpto_holds
end Go.Proofs.Ytilmmohkdgmhnaa
