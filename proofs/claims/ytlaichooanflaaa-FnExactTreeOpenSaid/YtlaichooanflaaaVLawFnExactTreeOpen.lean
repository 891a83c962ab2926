/- The law FnExactTreeOpen holds of the given program for every input that can be read as data; no condition. -/
import Derived.Test.YtlaichooanflaaaRows
import Derived.Test.YtlaichooanflaaaVFnExactTreeOpen0
import Derived.Test.YtlaichooanflaaaVFnExactTreeOpen1
import Derived.WalkKit
import Derived.ProofKit
import Derived.OpenShut
import Derived.ShutString
import Derived.ChangeOld
import Derived.Below
import Derived.SizedLaws
import Derived.Carry
namespace Go.Proofs.Ytlaichooanflaaa.fnExactTreeOpen
open Go.ChangeShapes Go.WideShapes Go.ChangeAt Go.RowKit Go.Proofs.Ytlaichooanflaaa.Q Go.Proofs.YtlaichooanflaaaW.PrintWords
open Go.ChangeMaps (open_string shut_string)
set_option linter.unusedVariables false
theorem own : ownKnob Try.prog.godebug = none := by kernel_rfl
theorem laidOut : laidOutB Try.prog = true := by kernel_rfl
set_option maxRecDepth 100000 in
theorem lifted (os : Os) (started : os.Started) (H : Type) (enc : TypeId × Value → H) :
    ReturnsInHanded {} Try.checked os 4 .any (Rows.fnExactTreeOpenSpec.pre6 enc Try.prog Try.f4 Rows.fnExactTreeOpenRow.domain false) (Rows.fnExactTreeOpenSpec.post enc Try.prog Try.f4 false true false false) := by
  refine returnsInHanded_of_change_sized (C := Try.checked) own started (by kernel_rfl) Try.func4
    (ChangeSpec.witness6 (enc := enc) (C := Try.checked) false ⟨#[], #[], []⟩ 8 (by kernel_rfl) (by kernel_rfl) (by kernel_rfl) (by kernel_rfl)) ?_
  intro W base args ds gs before hval0 hW hcnd hsz0 _
  have hval : ∀ (j : Nat) t v, Try.f4.params[j]? = some t → args[j]? = some v → Value.okWide Try.prog W .any base t v := hval0
  have hW' := hW
  obtain ⟨p, q, hA0, hV, rfl, hfz, hnd⟩ := hW
  have hA : DataW.TrodAll enc Try.prog W 0 (fun _ => true) true Try.f4.params.toList args.toList ds p := hA0
  rw [Try.params4] at hA hval
  obtain ⟨rfl, rfl, rfl⟩ := trodAll_none hA
  obtain ⟨rfl, rfl⟩ := trodVars_none hV
  clear hA0 hval0 hsz0
  have hP := Pure.FnExactTreeOpen 
  obtain ⟨k, hP⟩ := hP
  refine (Q.laws_FnExactTreeOpen.calls k  true W  hP).mono fun e W' he => ?_
  obtain ⟨rfl, bel0⟩ := he
  have bel : Below W.heap.size W W' := bel0
  exact ⟨_, rfl, _, _, _, [], _, [], hW', trodAll_mk1 (shut_bool Try.underlying4 _), trodAll_mk0, rfl, bel.frame _, fun h => by cases h⟩
theorem closed : joinedFacts Try.prog 4 Try.f4 Rows.fnExactTreeOpenSpec Rows.fnExactTreeOpenRow = true := by
  unfold joinedFacts
  rw [Facts.mayEnter, Facts.lifts, Facts.make]
  kernel_rfl
theorem over : Rows.fnExactTreeOpenRow.holds Try.pinned (OpenSpec.ofChange Rows.fnExactTreeOpenSpec) :=
  OpenClaim.holds_of_wide 4 Try.f4 rfl rfl rfl rfl rfl rfl rfl ⟨rfl, rfl, rfl, rfl, rfl⟩ rfl rfl rfl rfl rfl (by kernel_rfl) Try.func4 closed
    (of_decide_eq_true (by kernel_rfl)) (by unfold Func.isWrapper; first | (rw [if_pos (by decide +kernel)]; kernel_rfl) | (rw [if_neg (by decide +kernel)]; exact ⟨rfl, rfl⟩))
    (fun os started H enc _ => lifted os started H enc)
theorem proved : Rows.FnExactTreeOpenSaid := over
#print axioms proved
end Go.Proofs.Ytlaichooanflaaa.fnExactTreeOpen
namespace Go.Proofs.Ytlaichooanflaaa
/-- The row, under a short name, for the claim. -/
theorem fnExactTreeOpen_holds : Rows.FnExactTreeOpenSaid := fnExactTreeOpen.proved
end Go.Proofs.Ytlaichooanflaaa
