/- The law 'ShaHashes' answers true whatever it is given, and leaves its arguments as they were. Conditions: none beside the row's own. -/
import Derived.Test.YtcaljnlicohkaaaRows
import Derived.Test.YtcaljnlicohkaaaOpen2
import Derived.Test.YtcaljnlicohkaaaShcF
import Derived.WalkKit
import Derived.ProofKit
import Derived.OpenShut
import Derived.ShutString
import Derived.ChangeOld
import Derived.Below
import Derived.SizedLaws
import Derived.Test.YtcaljnlicohkaaaOpen3
import Derived.Deep.CondSized
namespace Go.Proofs.Ytcaljnlicohkaaa.shaHashes
open Go.ChangeShapes Go.WideShapes Go.ChangeAt Go.RowKit
open Go.ChangeMaps (open_string shut_string)
set_option linter.unusedVariables false
theorem own : ownKnob Try.prog.godebug = none := by kernel_rfl
theorem laidOut : laidOutB Try.prog = true := by kernel_rfl
set_option maxRecDepth 100000 in
theorem lifted (os : Os) (started : os.Started) (H : Type) (enc : TypeId × Value → H) (F : Stop.Interp) :
    ReturnsInHanded {} Try.checked os 9 .any ((Rows.OpenSpec.upto Rows.shaHashesSpec).pre6 enc Try.prog Try.f9 Rows.shaHashesUptoRow.domain false) (((Rows.OpenSpec.upto Rows.shaHashesSpec).at F).post enc Try.prog Try.f9 false true false false) := by
  refine returnsInHanded_of_cond_sized (C := Try.checked) (s := (Rows.OpenSpec.upto Rows.shaHashesSpec)) (k := Rows.uptoSmall) rfl own started (by kernel_rfl) Try.func9
    (OpenSpec.witness (enc := enc) (C := Try.checked) (s := (Rows.OpenSpec.upto Rows.shaHashesSpec)) (k := Rows.uptoSmall) rfl false ⟨#[], #[.slice none 0 0], []⟩ 8 (by kernel_rfl) (by kernel_rfl) (by kernel_rfl)
      (x := ([.nil], [], [])) (by kernel_rfl) rfl (by kernel_rfl)) ?_
  intro W base args ds gs before hval0 hW hcnd hk0 hsz0 _
  have hk : Rows.uptoSmall H (ds ++ gs) = true := hk0
  have hsz : (DataW.weightsEach Try.prog (Try.f9.params.toList ++ Rows.shaHashesSpec.plain.varTypes Try.prog) (ds ++ gs)).all (· ≤ reachBytes) = true := hsz0
  have hval : ∀ (j : Nat) t v, Try.f9.params[j]? = some t → args[j]? = some v → Value.okWide Try.prog W .any base t v := hval0
  have hW' := hW
  obtain ⟨p, q, hA0, hV, rfl, hfz, hnd⟩ := hW
  have hA : DataW.TrodAll enc Try.prog W 0 (fun _ => true) true Try.f9.params.toList args.toList ds p := hA0
  rw [Try.params9] at hA hval hsz
  obtain ⟨v0, vs0, d0, ds0, p0, q0, hargs, rfl, rfl, h0, r_0⟩ := trodAll_cons hA
  obtain ⟨rfl, rfl, rfl⟩ := trodAll_nil r_0
  obtain rfl : args = #[v0] := by cases args; simp_all
  obtain ⟨rfl, rfl⟩ := trodVars_none hV
  have hbk : Rows.uptoBulkAll [d0] ≤ 1048576 := of_decide_eq_true hk
  simp only [Rows.uptoBulkAll] at hbk
  have hv0 : ∃ a n c, v0 = .slice a n c := okWide_slice Try.underlying55 (hval 0 55 v0 rfl rfl)
  have k0 := h0
  have lt0 : ∀ x ∈ p0, x.block < W.heap.size := by obtain ⟨m, hm⟩ := k0; exact DataW.trod_lt m _ _ _ hm
  have hz0 := small_of hsz (j := 0) rfl rfl
  obtain ⟨x0, r0, t0⟩ := opensB_one (opensB_slice (m := 3) (B := 40) Try.underlying55 (by kernel_rfl) (by decide) (by kernel_rfl) (opensB_struct (n := 3) Try.underlying61 (by kernel_rfl) (opensB_cons (opensB_of (opens_int Try.underlying3 (by kernel_rfl))) (opensB_cons (opensB_of (opens_bool Try.underlying4 (by kernel_rfl))) (opensB_cons (opensB_bytes Try.underlying34 Try.underlying5 (by kernel_rfl) (by kernel_rfl) (by kernel_rfl)) opensB_nil))))) (by obtain ⟨a, n, c, rfl⟩ := hv0; rfl) h0 hz0
  clear hA0 hval0 hsz0 hsz hk hk0
  refine (law_ShaHashes W v0 x0 r0 (Nat.le_trans t0 (by omega))).mono fun e W' ⟨he, bel⟩ => ?_
  subst he
  have hp : Rows.shaHashesSpec.post enc Try.prog Try.f9 false true false false W _ (.bool true) W' := ⟨_, _, _, [], _, [], hW', trodAll_mk1 (shut_bool Try.underlying4 _), (trodAll_cons_mk (Below.trod laidOut (by kernel_rfl) (of_decide_eq_true (by kernel_rfl)) k0 bel lt0) trodAll_mk0), rfl, bel.frame _, fun h => by cases h⟩
  exact ⟨_, rfl, hp⟩
theorem over : Rows.ShaHashesUptoSaid :=
  OpenClaim.holds_of_cond 9 Try.f9 rfl rfl rfl rfl rfl rfl rfl ⟨rfl, rfl, rfl, rfl, rfl⟩ rfl rfl rfl rfl rfl (by kernel_rfl) Try.func9 (by kernel_rfl)
    (of_decide_eq_true (by kernel_rfl)) (by unfold Func.isWrapper; first | (rw [if_pos (by decide +kernel)]; kernel_rfl) | (rw [if_neg (by decide +kernel)]; exact ⟨rfl, rfl⟩))
    (fun os started H enc _ F => lifted os started H enc F)
end Go.Proofs.Ytcaljnlicohkaaa.shaHashes
namespace Go.Proofs.Ytcaljnlicohkaaa
theorem shaHashesUpto_holds : Rows.ShaHashesUptoSaid := shaHashes.over
#print axioms shaHashesUpto_holds
end Go.Proofs.Ytcaljnlicohkaaa
