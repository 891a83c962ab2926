/- The law FnExactTreePath holds of the given program for every input that can be read as data; no condition. -/
import Derived.Test.YtlaichooanflaaaRows
import Derived.Test.YtlaichooanflaaaVFnExactTreePath0
import Derived.Test.YtlaichooanflaaaVFnExactTreePath1
import Derived.Test.YtlaichooanflaaaVFnExactTreePath2
import Derived.Test.YtlaichooanflaaaVFnExactTreePath3
import Derived.Test.YtlaichooanflaaaVFnExactTreePath4
import Derived.WalkKit
import Derived.ProofKit
import Derived.OpenShut
import Derived.ShutString
import Derived.ChangeOld
import Derived.Below
import Derived.SizedLaws
import Derived.Carry
namespace Go.Proofs.Ytlaichooanflaaa.fnExactTreePath
open Go.ChangeShapes Go.WideShapes Go.ChangeAt Go.RowKit Go.Proofs.Ytlaichooanflaaa.Opened Go.Proofs.Ytlaichooanflaaa.Q Go.Proofs.YtlaichooanflaaaW.PrintWords
open Go.ChangeMaps (open_string shut_string)
set_option linter.unusedVariables false
theorem own : ownKnob Try.prog.godebug = none := by kernel_rfl
theorem laidOut : laidOutB Try.prog = true := by kernel_rfl
theorem opens170 : Opens Try.prog 170 k170 (fun x => x.f0.size ≤ 9223372036854775807 ∧ (Lit.int .i64 x.f1).wf = true) :=
  opens_struct (fun x : S170 => (x.f0, x.f1)) (fun y => ⟨y.1, y.2⟩) (fun _ => rfl) Try.underlying170 (by kernel_rfl) (opensF_cons (opens_string Try.underlying9 (by kernel_rfl)) rfl (opensF_one (opens_int Try.underlying3 (by kernel_rfl)) rfl))
theorem opens138 : Opens Try.prog 138 k138 (fun x => (Lit.int .i64 x.f0).wf = true ∧ (Lit.int .i64 x.f1).wf = true ∧ x.f2.size ≤ 9223372036854775807 ∧ (x.f3.length ≤ 9223372036854775807 ∧ ∀ y0 ∈ x.f3, y0.f0.size ≤ 9223372036854775807 ∧ (Lit.int .i64 y0.f1).wf = true)) :=
  opens_struct (fun x : S138 => (x.f0, x.f1, x.f2, x.f3)) (fun y => ⟨y.1, y.2.1, y.2.2.1, y.2.2.2⟩) (fun _ => rfl) Try.underlying138 (by kernel_rfl) (opensF_cons (opens_int Try.underlying3 (by kernel_rfl)) rfl (opensF_cons (opens_int Try.underlying3 (by kernel_rfl)) rfl (opensF_cons (opens_string Try.underlying9 (by kernel_rfl)) rfl (opensF_one (opens_slice (e' := 170) Try.underlying136 (by kernel_rfl) opens170) rfl))))
set_option maxRecDepth 100000 in
theorem lifted (os : Os) (started : os.Started) (H : Type) (enc : TypeId × Value → H) :
    ReturnsInHanded {} Try.checked os 12 .any (Rows.fnExactTreePathSpec.pre6 enc Try.prog Try.f12 Rows.fnExactTreePathRow.domain false) (Rows.fnExactTreePathSpec.post enc Try.prog Try.f12 false true false false) := by
  refine returnsInHanded_of_change_sized (C := Try.checked) own started (by kernel_rfl) Try.func12
    (ChangeSpec.witness6 (enc := enc) (C := Try.checked) false ⟨#[], #[.agg #[.slice none 0 0], .int .i64 0], []⟩ 8 (by kernel_rfl) (by kernel_rfl) (by kernel_rfl) (by kernel_rfl)) ?_
  intro W base args ds gs before hval0 hW hcnd hsz0 _
  have hval : ∀ (j : Nat) t v, Try.f12.params[j]? = some t → args[j]? = some v → Value.okWide Try.prog W .any base t v := hval0
  have hW' := hW
  obtain ⟨p, q, hA0, hV, rfl, hfz, hnd⟩ := hW
  have hA : DataW.TrodAll enc Try.prog W 0 (fun _ => true) true Try.f12.params.toList args.toList ds p := hA0
  rw [Try.params12] at hA hval
  obtain ⟨v0, vs0, d0_, ds0, p0, q0, hargs, rfl, rfl, h0, r0⟩ := trodAll_cons hA
  obtain ⟨v1, vs1, d1_, ds1, p1, q1, rfl, rfl, rfl, h1, r1⟩ := trodAll_cons r0
  obtain ⟨rfl, rfl, rfl⟩ := trodAll_nil r1
  obtain rfl : args = #[v0, v1] := by cases args; simp_all
  obtain ⟨rfl, rfl⟩ := trodVars_none hV
  have k0 := h0
  have lt0 : ∀ x ∈ p0, x.block < W.heap.size := by obtain ⟨m, hm⟩ := k0; exact DataW.trod_lt m _ _ _ hm
  obtain ⟨cs0, rfl, sz0⟩ := okWide_struct Try.underlying24 (hval 0 24 v0 rfl rfl)
  obtain ⟨x0, hx0, hg0⟩ := open_arg (opens_struct (fun x => x) (fun y => y) (fun _ => rfl) Try.underlying24 (by kernel_rfl) (opensF_one (opens_slice (e' := 138) Try.underlying22 (by kernel_rfl) opens138) rfl)) h0
  obtain ⟨l0_0, e0_⟩ : ∃ y, y = x0 := ⟨_, rfl⟩
  subst e0_
  have hx0' : ∃ A0_0 c0_0, cs0.toList = [.slice A0_0 l0_0.length c0_0] ∧ l0_0.length ≤ c0_0 ∧ Kd.C k138 W A0_0 l0_0.length l0_0 := by
    obtain ⟨A, c, e, hc, hr⟩ := hx0
    exact ⟨A, c, e, hc, hr⟩
  obtain ⟨A0_0, c0_0, ce0, hc0_0, hr0_0⟩ := hx0'
  obtain rfl : cs0 = #[.slice A0_0 l0_0.length c0_0] := by rw [← Array.toList_inj, ce0]
  have k1 := h1
  have lt1 : ∀ x ∈ p1, x.block < W.heap.size := by obtain ⟨m, hm⟩ := k1; exact DataW.trod_lt m _ _ _ hm
  obtain ⟨a1, e1, hg1⟩ := open_arg (opens_int Try.underlying3 (by kernel_rfl)) h1
  obtain ⟨z1, rfl, _, _, _⟩ := open_int Try.underlying3 (hval 1 3 v1 rfl rfl) h1
  have e1' : [Value.int .i64 z1] = [Value.int .i64 a1] := e1
  obtain rfl : z1 = a1 := by simpa using e1'
  clear hA0 hval0 hsz0
  have hP := Pure.FnExactTreePath l0_0 z1 hg0 hg1
  obtain ⟨k, hP⟩ := hP
  refine (Q.laws_FnExactTreePath.calls k A0_0 c0_0 l0_0 z1 true W hr0_0 hc0_0 hP).mono fun e W' he => ?_
  obtain ⟨rfl, bel0⟩ := he
  have bel : Below W.heap.size W W' := bel0
  exact ⟨_, rfl, _, _, _, [], _, [], hW', trodAll_mk1 (shut_bool Try.underlying4 _), (trodAll_cons_mk (Below.trod laidOut (by kernel_rfl) (of_decide_eq_true (by kernel_rfl)) k0 bel lt0) (trodAll_cons_mk (Below.trod laidOut (by kernel_rfl) (of_decide_eq_true (by kernel_rfl)) k1 bel lt1) trodAll_mk0)), rfl, bel.frame _, fun h => by cases h⟩
theorem closed : joinedFacts Try.prog 12 Try.f12 Rows.fnExactTreePathSpec Rows.fnExactTreePathRow = true := by
  unfold joinedFacts
  rw [Facts.mayEnter, Facts.lifts, Facts.make]
  kernel_rfl
theorem over : Rows.fnExactTreePathRow.holds Try.pinned (OpenSpec.ofChange Rows.fnExactTreePathSpec) :=
  OpenClaim.holds_of_wide 12 Try.f12 rfl rfl rfl rfl rfl rfl rfl ⟨rfl, rfl, rfl, rfl, rfl⟩ rfl rfl rfl rfl rfl (by kernel_rfl) Try.func12 closed
    (of_decide_eq_true (by kernel_rfl)) (by unfold Func.isWrapper; first | (rw [if_pos (by decide +kernel)]; kernel_rfl) | (rw [if_neg (by decide +kernel)]; exact ⟨rfl, rfl⟩))
    (fun os started H enc _ => lifted os started H enc)
theorem proved : Rows.FnExactTreePathSaid := over
#print axioms proved
end Go.Proofs.Ytlaichooanflaaa.fnExactTreePath
namespace Go.Proofs.Ytlaichooanflaaa
/-- The row, under a short name, for the claim. -/
theorem fnExactTreePath_holds : Rows.FnExactTreePathSaid := fnExactTreePath.proved
end Go.Proofs.Ytlaichooanflaaa
