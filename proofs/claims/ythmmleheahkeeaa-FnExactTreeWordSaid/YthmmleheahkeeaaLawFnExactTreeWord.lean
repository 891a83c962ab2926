/- The law FnExactTreeWord holds of the given program for every input that can be read as data; no condition. -/
import Derived.Test.YthmmleheahkeeaaRows
import Derived.Test.YthmmleheahkeeaaQ5
import Derived.Test.YthmmleheahkeeaaOpen
import Derived.Test.YthmmleheahkeeaaPureFnExactTreeWord
import Derived.WalkKit
import Derived.ProofKit
import Derived.OpenShut
import Derived.ShutString
import Derived.ChangeOld
import Derived.Below
import Derived.SizedLaws
import Derived.Carry
namespace Go.Proofs.Ythmmleheahkeeaa.fnExactTreeWord
open Go.ChangeShapes Go.WideShapes Go.ChangeAt Go.RowKit Go.Proofs.Ythmmleheahkeeaa.Opened Go.Proofs.Ythmmleheahkeeaa.Q Go.Proofs.YthmmleheahkeeaaW.PrintWords
open Go.ChangeMaps (open_string shut_string)
set_option linter.unusedVariables false
theorem own : ownKnob Try.prog.godebug = none := by kernel_rfl
theorem laidOut : laidOutB Try.prog = true := by kernel_rfl
set_option maxRecDepth 100000 in
theorem lifted (os : Os) (started : os.Started) (H : Type) (enc : TypeId × Value → H) :
    ReturnsInHanded {} Try.checked os 5 .any (Rows.fnExactTreeWordSpec.pre6 enc Try.prog Try.f5 Rows.fnExactTreeWordRow.domain false) (Rows.fnExactTreeWordSpec.post enc Try.prog Try.f5 false true false false) := by
  refine returnsInHanded_of_change_sized (C := Try.checked) own started (by kernel_rfl) Try.func5
    (ChangeSpec.witness6 (enc := enc) (C := Try.checked) false ⟨#[], #[.string ByteArray.empty], []⟩ 8 (by kernel_rfl) (by kernel_rfl) (by kernel_rfl) (by kernel_rfl)) ?_
  intro W base args ds gs before hval0 hW hcnd hsz0 _
  have hval : ∀ (j : Nat) t v, Try.f5.params[j]? = some t → args[j]? = some v → Value.okWide Try.prog W .any base t v := hval0
  have hW' := hW
  obtain ⟨p, q, hA0, hV, rfl, hfz, hnd⟩ := hW
  have hA : DataW.TrodAll enc Try.prog W 0 (fun _ => true) true Try.f5.params.toList args.toList ds p := hA0
  rw [Try.params5] at hA hval
  obtain ⟨v0, vs0, d0_, ds0, p0, q0, hargs, rfl, rfl, h0, r0⟩ := trodAll_cons hA
  obtain ⟨rfl, rfl, rfl⟩ := trodAll_nil r0
  obtain rfl : args = #[v0] := by cases args; simp_all
  obtain ⟨rfl, rfl⟩ := trodVars_none hV
  have k0 := h0
  have lt0 : ∀ x ∈ p0, x.block < W.heap.size := by obtain ⟨m, hm⟩ := k0; exact DataW.trod_lt m _ _ _ hm
  obtain ⟨a0, e0, hg0⟩ := open_arg (opens_string Try.underlying9 (by kernel_rfl)) h0
  obtain ⟨z0, rfl, _, _, _⟩ := open_string Try.underlying9 (hval 0 9 v0 rfl rfl) h0
  have e0' : [Value.string z0] = [Value.string a0] := e0
  obtain rfl : z0 = a0 := by simpa using e0'
  clear hA0 hval0 hsz0
  have hP := Pure.FnExactTreeWord z0 hg0
  obtain ⟨k, hP⟩ := hP
  refine (Q.laws_FnExactTreeWord.calls k z0 true W  hP).mono fun e W' he => ?_
  obtain ⟨rfl, bel0⟩ := he
  have bel : Below W.heap.size W W' := bel0.below
  exact ⟨_, rfl, _, _, _, [], _, [], hW', trodAll_mk1 (shut_bool Try.underlying4 _), (trodAll_cons_mk (Below.trod laidOut (by kernel_rfl) (of_decide_eq_true (by kernel_rfl)) k0 bel lt0) trodAll_mk0), rfl, bel.frame _, fun h => by cases h⟩
theorem over : Rows.fnExactTreeWordRow.holds Try.pinned (OpenSpec.ofChange Rows.fnExactTreeWordSpec) :=
  OpenClaim.holds_of_wide 5 Try.f5 rfl rfl rfl rfl rfl rfl rfl ⟨rfl, rfl, rfl, rfl, rfl⟩ rfl rfl rfl rfl rfl (by kernel_rfl) Try.func5 (by kernel_rfl)
    (of_decide_eq_true (by kernel_rfl)) (by unfold Func.isWrapper; first | (rw [if_pos (by decide +kernel)]; kernel_rfl) | (rw [if_neg (by decide +kernel)]; exact ⟨rfl, rfl⟩))
    (fun os started H enc _ => lifted os started H enc)
theorem proved : Rows.FnExactTreeWordSaid := over
#print axioms proved
end Go.Proofs.Ythmmleheahkeeaa.fnExactTreeWord
namespace Go.Proofs.Ythmmleheahkeeaa
/-- The row, under a short name, for the claim. -/
theorem fnExactTreeWord_holds : Rows.FnExactTreeWordSaid := fnExactTreeWord.proved
end Go.Proofs.Ythmmleheahkeeaa
