/- The law FnExactSlimMoves holds of the given program for every input that can be read as data; no condition. -/
import Derived.Test.YtlaichooanflaaaRows
import Derived.Test.YtlaichooanflaaaVFnExactSlimMoves0
import Derived.Test.YtlaichooanflaaaVFnExactSlimMoves1
import Derived.Test.YtlaichooanflaaaVFnExactSlimMoves2
import Derived.Test.YtlaichooanflaaaVFnExactSlimMoves3
import Derived.Test.YtlaichooanflaaaVFnExactSlimMoves4
import Derived.Test.YtlaichooanflaaaVFnExactSlimMoves5
import Derived.WalkKit
import Derived.ProofKit
import Derived.OpenShut
import Derived.ShutString
import Derived.ChangeOld
import Derived.Below
import Derived.SizedLaws
import Derived.Carry
namespace Go.Proofs.Ytlaichooanflaaa.fnExactSlimMoves
open Go.ChangeShapes Go.WideShapes Go.ChangeAt Go.RowKit Go.Proofs.Ytlaichooanflaaa.Opened Go.Proofs.Ytlaichooanflaaa.Q Go.Proofs.YtlaichooanflaaaW.PrintWords
open Go.ChangeMaps (open_string shut_string)
set_option linter.unusedVariables false
theorem own : ownKnob Try.prog.godebug = none := by kernel_rfl
theorem laidOut : laidOutB Try.prog = true := by kernel_rfl
theorem opens91 : Opens Try.prog 91 k91 (fun x => (Lit.int .i64 x.f0).wf = true ∧ (Lit.int .i64 x.f1).wf = true ∧ x.f2.size ≤ 9223372036854775807 ∧ (Lit.int .i64 x.f3).wf = true ∧ x.f4.size ≤ 9223372036854775807 ∧ (Lit.int .i64 x.f5).wf = true ∧ x.f6.size ≤ 9223372036854775807) :=
  opens_struct (fun x : S91 => (x.f0, x.f1, x.f2, x.f3, x.f4, x.f5, x.f6)) (fun y => ⟨y.1, y.2.1, y.2.2.1, y.2.2.2.1, y.2.2.2.2.1, y.2.2.2.2.2.1, y.2.2.2.2.2.2⟩) (fun _ => rfl) Try.underlying91 (by kernel_rfl) (opensF_cons (opens_int Try.underlying3 (by kernel_rfl)) rfl (opensF_cons (opens_int Try.underlying3 (by kernel_rfl)) rfl (opensF_cons (opens_string Try.underlying9 (by kernel_rfl)) rfl (opensF_cons (opens_int Try.underlying3 (by kernel_rfl)) rfl (opensF_cons (opens_string Try.underlying9 (by kernel_rfl)) rfl (opensF_cons (opens_int Try.underlying3 (by kernel_rfl)) rfl (opensF_one (opens_string Try.underlying9 (by kernel_rfl)) rfl)))))))
set_option maxRecDepth 100000 in
theorem lifted (os : Os) (started : os.Started) (H : Type) (enc : TypeId × Value → H) :
    ReturnsInHanded {} Try.checked os 8 .any (Rows.fnExactSlimMovesSpec.pre6 enc Try.prog Try.f8 Rows.fnExactSlimMovesRow.domain false) (Rows.fnExactSlimMovesSpec.post enc Try.prog Try.f8 false true false false) := by
  refine returnsInHanded_of_change_sized (C := Try.checked) own started (by kernel_rfl) Try.func8
    (ChangeSpec.witness6 (enc := enc) (C := Try.checked) false ⟨#[], #[.slice none 0 0], []⟩ 8 (by kernel_rfl) (by kernel_rfl) (by kernel_rfl) (by kernel_rfl)) ?_
  intro W base args ds gs before hval0 hW hcnd hsz0 _
  have hval : ∀ (j : Nat) t v, Try.f8.params[j]? = some t → args[j]? = some v → Value.okWide Try.prog W .any base t v := hval0
  have hW' := hW
  obtain ⟨p, q, hA0, hV, rfl, hfz, hnd⟩ := hW
  have hA : DataW.TrodAll enc Try.prog W 0 (fun _ => true) true Try.f8.params.toList args.toList ds p := hA0
  rw [Try.params8] at hA hval
  obtain ⟨v0, vs0, d0_, ds0, p0, q0, hargs, rfl, rfl, h0, r0⟩ := trodAll_cons hA
  obtain ⟨rfl, rfl, rfl⟩ := trodAll_nil r0
  obtain rfl : args = #[v0] := by cases args; simp_all
  obtain ⟨rfl, rfl⟩ := trodVars_none hV
  have k0 := h0
  have lt0 : ∀ x ∈ p0, x.block < W.heap.size := by obtain ⟨m, hm⟩ := k0; exact DataW.trod_lt m _ _ _ hm
  obtain ⟨A0, len0, c0, rfl⟩ := okWide_slice Try.underlying25 (hval 0 25 v0 rfl rfl)
  obtain ⟨l0, ⟨B0, d0, e0, hc0, hr0⟩, hg0⟩ := open_arg (opens_slice (e' := 91) Try.underlying25 (by kernel_rfl) opens91) h0
  have e0' : [Value.slice A0 len0 c0] = [.slice B0 l0.length d0] := e0
  obtain ⟨rfl, rfl, rfl⟩ : A0 = B0 ∧ len0 = l0.length ∧ c0 = d0 := by simpa using e0'
  clear hA0 hval0 hsz0
  have hP := Pure.FnExactSlimMoves l0 hg0
  obtain ⟨k, hP⟩ := hP
  refine (Q.laws_FnExactSlimMoves.calls k A0 c0 l0 true W hr0 hc0 hP).mono fun e W' he => ?_
  obtain ⟨rfl, bel0⟩ := he
  have bel : Below W.heap.size W W' := bel0
  exact ⟨_, rfl, _, _, _, [], _, [], hW', trodAll_mk1 (shut_bool Try.underlying4 _), (trodAll_cons_mk (Below.trod laidOut (by kernel_rfl) (of_decide_eq_true (by kernel_rfl)) k0 bel lt0) trodAll_mk0), rfl, bel.frame _, fun h => by cases h⟩
theorem closed : joinedFacts Try.prog 8 Try.f8 Rows.fnExactSlimMovesSpec Rows.fnExactSlimMovesRow = true := by
  unfold joinedFacts
  rw [Facts.mayEnter, Facts.lifts, Facts.make]
  kernel_rfl
theorem over : Rows.fnExactSlimMovesRow.holds Try.pinned (OpenSpec.ofChange Rows.fnExactSlimMovesSpec) :=
  OpenClaim.holds_of_wide 8 Try.f8 rfl rfl rfl rfl rfl rfl rfl ⟨rfl, rfl, rfl, rfl, rfl⟩ rfl rfl rfl rfl rfl (by kernel_rfl) Try.func8 closed
    (of_decide_eq_true (by kernel_rfl)) (by unfold Func.isWrapper; first | (rw [if_pos (by decide +kernel)]; kernel_rfl) | (rw [if_neg (by decide +kernel)]; exact ⟨rfl, rfl⟩))
    (fun os started H enc _ => lifted os started H enc)
theorem proved : Rows.FnExactSlimMovesSaid := over
#print axioms proved
end Go.Proofs.Ytlaichooanflaaa.fnExactSlimMoves
namespace Go.Proofs.Ytlaichooanflaaa
/-- The row, under a short name, for the claim. -/
theorem fnExactSlimMoves_holds : Rows.FnExactSlimMovesSaid := fnExactSlimMoves.proved
end Go.Proofs.Ytlaichooanflaaa
