/- The law 'ImageFlips' answers true whatever it is given, and leaves its arguments as they were. Conditions: none beside the row's own. -/
import Derived.Test.YtdmogbkfmeihfaaRows
import Derived.Test.YtdmogbkfmeihfaaOpen2
import Derived.Test.YtdmogbkfmeihfaaIfN
import Derived.WalkKit
import Derived.ProofKit
import Derived.OpenShut
import Derived.ShutString
import Derived.ChangeOld
import Derived.Below
import Derived.SizedLaws
namespace Go.Proofs.Ytdmogbkfmeihfaa.imageFlips
open Go.ChangeShapes Go.WideShapes Go.ChangeAt Go.RowKit
open Go.ChangeMaps (open_string shut_string)
set_option linter.unusedVariables false
theorem own : ownKnob Try.prog.godebug = none := by kernel_rfl
theorem laidOut : laidOutB Try.prog = true := by kernel_rfl
set_option maxRecDepth 100000 in
theorem lifted (os : Os) (started : os.Started) (H : Type) (enc : TypeId × Value → H) :
    ReturnsInHanded {} Try.checked os 8 .any (Rows.imageFlipsSpec.pre6 enc Try.prog Try.f8 Rows.imageFlipsRow.domain false) (Rows.imageFlipsSpec.post enc Try.prog Try.f8 false true false false) := by
  refine returnsInHanded_of_change_sized (C := Try.checked) own started (by kernel_rfl) Try.func8
    (ChangeSpec.witness6 (enc := enc) (C := Try.checked) false ⟨#[], #[.agg #[.int .i64 0, .slice none 0 0], .agg #[.int .i64 0, .int .u32 0, .slice none 0 0]], []⟩ 8 (by kernel_rfl) (by kernel_rfl) (by kernel_rfl) (by kernel_rfl)) ?_
  intro W base args ds gs before hval0 hW hcnd hsz0 _
  have hsz : (DataW.weightsEach Try.prog (Try.f8.params.toList ++ Rows.imageFlipsSpec.plain.varTypes Try.prog) (ds ++ gs)).all (· ≤ reachBytes) = true := hsz0
  have hval : ∀ (j : Nat) t v, Try.f8.params[j]? = some t → args[j]? = some v → Value.okWide Try.prog W .any base t v := hval0
  have hW' := hW
  obtain ⟨p, q, hA0, hV, rfl, hfz, hnd⟩ := hW
  have hA : DataW.TrodAll enc Try.prog W 0 (fun _ => true) true Try.f8.params.toList args.toList ds p := hA0
  rw [Try.params8] at hA hval hsz
  obtain ⟨v0, vs0, d0, ds0, p0, q0, hargs, rfl, rfl, h0, r_0⟩ := trodAll_cons hA
  obtain ⟨v1, vs1, d1, ds1, p1, q1, rfl, rfl, rfl, h1, r_1⟩ := trodAll_cons r_0
  obtain ⟨rfl, rfl, rfl⟩ := trodAll_nil r_1
  obtain rfl : args = #[v0, v1] := by cases args; simp_all
  obtain ⟨rfl, rfl⟩ := trodVars_none hV
  obtain ⟨cs0, rfl, hs0⟩ := okWide_struct Try.underlying36 (hval 0 36 v0 rfl rfl)
  have k0 := h0
  have lt0 : ∀ x ∈ p0, x.block < W.heap.size := by obtain ⟨m, hm⟩ := k0; exact DataW.trod_lt m _ _ _ hm
  have hz0 := small_of hsz (j := 0) rfl rfl
  obtain ⟨x0, r0⟩ := opens_agg (opens_struct (n := 2) Try.underlying36 (by kernel_rfl) (opens_cons (opens_int Try.underlying3 (by kernel_rfl)) (opens_cons (opens_slice (m := 3) (B := 40) Try.underlying34 (by kernel_rfl) (by decide) (by kernel_rfl) (opens_struct (n := 3) Try.underlying61 (by kernel_rfl) (opens_cons (opens_str Try.underlying9 (by kernel_rfl)) (opens_cons (opens_str Try.underlying9 (by kernel_rfl)) (opens_cons (opens_int Try.underlying3 (by kernel_rfl)) opens_nil))))) opens_nil))) h0 hz0
  obtain ⟨cs1, rfl, hs1⟩ := okWide_struct Try.underlying64 (hval 1 64 v1 rfl rfl)
  have k1 := h1
  have lt1 : ∀ x ∈ p1, x.block < W.heap.size := by obtain ⟨m, hm⟩ := k1; exact DataW.trod_lt m _ _ _ hm
  have hz1 := small_of hsz (j := 1) rfl rfl
  obtain ⟨x1, r1⟩ := opens_agg (opens_struct (n := 3) Try.underlying64 (by kernel_rfl) (opens_cons (opens_int Try.underlying3 (by kernel_rfl)) (opens_cons (opens_int Try.underlying50 (by kernel_rfl)) (opens_cons (opens_slice (m := 1) (B := 8) Try.underlying62 (by kernel_rfl) (by decide) (by kernel_rfl) (opens_int Try.underlying3 (by kernel_rfl))) opens_nil)))) h1 hz1
  clear hA0 hval0 hsz0 hsz
  refine (law_ImageFlips W cs0 (hs0.trans (by kernel_rfl)) x0 r0 cs1 (hs1.trans (by kernel_rfl)) x1 r1).mono fun e W' ⟨he, bel⟩ => ?_
  subst he
  exact ⟨_, rfl, _, _, _, [], _, [], hW', trodAll_mk1 (shut_bool Try.underlying4 _), (trodAll_cons_mk (Below.trod laidOut (by kernel_rfl) (of_decide_eq_true (by kernel_rfl)) k0 bel lt0) (trodAll_cons_mk (Below.trod laidOut (by kernel_rfl) (of_decide_eq_true (by kernel_rfl)) k1 bel lt1) trodAll_mk0)), rfl, bel.frame _, fun h => by cases h⟩
theorem over : Rows.imageFlipsRow.holds Try.pinned (OpenSpec.ofChange Rows.imageFlipsSpec) :=
  OpenClaim.holds_of_wide 8 Try.f8 rfl rfl rfl rfl rfl rfl rfl ⟨rfl, rfl, rfl, rfl, rfl⟩ rfl rfl rfl rfl rfl (by kernel_rfl) Try.func8 (by kernel_rfl)
    (of_decide_eq_true (by kernel_rfl)) (by unfold Func.isWrapper; first | (rw [if_pos (by decide +kernel)]; kernel_rfl) | (rw [if_neg (by decide +kernel)]; exact ⟨rfl, rfl⟩))
    (fun os started H enc _ => lifted os started H enc)
end Go.Proofs.Ytdmogbkfmeihfaa.imageFlips
namespace Go.Proofs.Ytdmogbkfmeihfaa
theorem imageFlips_holds : Rows.ImageFlipsSaid := imageFlips.over
#print axioms imageFlips_holds
end Go.Proofs.Ytdmogbkfmeihfaa
