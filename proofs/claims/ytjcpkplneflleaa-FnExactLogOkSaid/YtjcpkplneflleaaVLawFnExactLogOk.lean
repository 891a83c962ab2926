/- The law FnExactLogOk holds of the given program for every input that can be read as data; no condition. -/
import Derived.Test.YtjcpkplneflleaaRows
import Derived.Test.YtjcpkplneflleaaVFnExactLogOk0
import Derived.Test.YtjcpkplneflleaaVFnExactLogOk1
import Derived.Test.YtjcpkplneflleaaVFnExactLogOk2
import Derived.Test.YtjcpkplneflleaaVFnExactLogOk3
import Derived.WalkKit
import Derived.ProofKit
import Derived.OpenShut
import Derived.ShutString
import Derived.ChangeOld
import Derived.Below
import Derived.SizedLaws
import Derived.Carry
namespace Go.Proofs.Ytjcpkplneflleaa.fnExactLogOk
open Go.ChangeShapes Go.WideShapes Go.ChangeAt Go.RowKit Go.Proofs.Ytjcpkplneflleaa.Opened Go.Proofs.Ytjcpkplneflleaa.Q Go.Proofs.YtjcpkplneflleaaW.PrintWords
open Go.ChangeMaps (open_string shut_string)
set_option linter.unusedVariables false
theorem own : ownKnob Try.prog.godebug = none := by kernel_rfl
theorem laidOut : laidOutB Try.prog = true := by kernel_rfl
theorem opens152 : Opens Try.prog 152 k152 (fun x => (Lit.int .i64 x.f0).wf = true ∧ (Lit.int .i64 x.f1).wf = true) :=
  opens_struct (fun x : S152 => (x.f0, x.f1)) (fun y => ⟨y.1, y.2⟩) (fun _ => rfl) Try.underlying152 (by kernel_rfl) (opensF_cons (opens_int Try.underlying3 (by kernel_rfl)) rfl (opensF_one (opens_int Try.underlying3 (by kernel_rfl)) rfl))
theorem opens90 : Opens Try.prog 90 k90 (fun x => (Lit.int .i64 x.f0).wf = true ∧ (Lit.int .i64 x.f1).wf = true ∧ x.f2.size ≤ 9223372036854775807 ∧ (Lit.int .i64 x.f3).wf = true ∧ x.f4.size ≤ 9223372036854775807 ∧ (Lit.int .i64 x.f5).wf = true ∧ x.f6.size ≤ 9223372036854775807) :=
  opens_struct (fun x : S90 => (x.f0, x.f1, x.f2, x.f3, x.f4, x.f5, x.f6)) (fun y => ⟨y.1, y.2.1, y.2.2.1, y.2.2.2.1, y.2.2.2.2.1, y.2.2.2.2.2.1, y.2.2.2.2.2.2⟩) (fun _ => rfl) Try.underlying90 (by kernel_rfl) (opensF_cons (opens_int Try.underlying3 (by kernel_rfl)) rfl (opensF_cons (opens_int Try.underlying3 (by kernel_rfl)) rfl (opensF_cons (opens_string Try.underlying9 (by kernel_rfl)) rfl (opensF_cons (opens_int Try.underlying3 (by kernel_rfl)) rfl (opensF_cons (opens_string Try.underlying9 (by kernel_rfl)) rfl (opensF_cons (opens_int Try.underlying3 (by kernel_rfl)) rfl (opensF_one (opens_string Try.underlying9 (by kernel_rfl)) rfl)))))))
set_option maxRecDepth 100000 in
theorem lifted (os : Os) (started : os.Started) (H : Type) (enc : TypeId × Value → H) :
    ReturnsInHanded {} Try.checked os 11 .any (Rows.fnExactLogOkSpec.pre6 enc Try.prog Try.f11 Rows.fnExactLogOkRow.domain false) (Rows.fnExactLogOkSpec.post enc Try.prog Try.f11 false true false false) := by
  refine returnsInHanded_of_change_sized (C := Try.checked) own started (by kernel_rfl) Try.func11
    (ChangeSpec.witness6 (enc := enc) (C := Try.checked) false ⟨#[], #[.agg #[.int .i64 0, .int .i64 0, .slice none 0 0, .slice none 0 0]], []⟩ 8 (by kernel_rfl) (by kernel_rfl) (by kernel_rfl) (by kernel_rfl)) ?_
  intro W base args ds gs before hval0 hW hcnd hsz0 _
  have hval : ∀ (j : Nat) t v, Try.f11.params[j]? = some t → args[j]? = some v → Value.okWide Try.prog W .any base t v := hval0
  have hW' := hW
  obtain ⟨p, q, hA0, hV, rfl, hfz, hnd⟩ := hW
  have hA : DataW.TrodAll enc Try.prog W 0 (fun _ => true) true Try.f11.params.toList args.toList ds p := hA0
  rw [Try.params11] at hA hval
  obtain ⟨v0, vs0, d0_, ds0, p0, q0, hargs, rfl, rfl, h0, r0⟩ := trodAll_cons hA
  obtain ⟨rfl, rfl, rfl⟩ := trodAll_nil r0
  obtain rfl : args = #[v0] := by cases args; simp_all
  obtain ⟨rfl, rfl⟩ := trodVars_none hV
  have k0 := h0
  have lt0 : ∀ x ∈ p0, x.block < W.heap.size := by obtain ⟨m, hm⟩ := k0; exact DataW.trod_lt m _ _ _ hm
  obtain ⟨cs0, rfl, sz0⟩ := okWide_struct Try.underlying53 (hval 0 53 v0 rfl rfl)
  obtain ⟨x0, hx0, hg0⟩ := open_arg (opens_struct (fun x => x) (fun y => y) (fun _ => rfl) Try.underlying53 (by kernel_rfl) (opensF_cons (opens_int Try.underlying3 (by kernel_rfl)) rfl (opensF_cons (opens_int Try.underlying3 (by kernel_rfl)) rfl (opensF_cons (opens_slice (e' := 152) Try.underlying51 (by kernel_rfl) opens152) rfl (opensF_one (opens_slice (e' := 90) Try.underlying25 (by kernel_rfl) opens90) rfl))))) h0
  obtain ⟨a0_0, a0_1, l0_2, l0_3⟩ := x0
  have hx0' : ∃ A0_2 c0_2, ∃ A0_3 c0_3, cs0.toList = [.int .i64 a0_0, .int .i64 a0_1, .slice A0_2 l0_2.length c0_2, .slice A0_3 l0_3.length c0_3] ∧ l0_2.length ≤ c0_2 ∧ Kd.C k152 W A0_2 l0_2.length l0_2 ∧ l0_3.length ≤ c0_3 ∧ Kd.C k90 W A0_3 l0_3.length l0_3 := by
    obtain ⟨_, _, e, rfl, ⟨_, _, rfl, rfl, ⟨_, _, rfl, ⟨B2, d2, rfl, hc2, hr2⟩, ⟨B3, d3, rfl, hc3, hr3⟩⟩⟩⟩ := hx0
    exact ⟨B2, d2, B3, d3, e, hc2, hr2, hc3, hr3⟩
  obtain ⟨A0_2, c0_2, A0_3, c0_3, ce0, hc0_2, hr0_2, hc0_3, hr0_3⟩ := hx0'
  obtain rfl : cs0 = #[.int .i64 a0_0, .int .i64 a0_1, .slice A0_2 l0_2.length c0_2, .slice A0_3 l0_3.length c0_3] := by rw [← Array.toList_inj, ce0]
  clear hA0 hval0 hsz0
  have hP := Pure.FnExactLogOk a0_0 a0_1 l0_2 l0_3 hg0
  obtain ⟨k, hP⟩ := hP
  refine (Q.laws_FnExactLogOk.calls k a0_0 a0_1 A0_2 c0_2 l0_2 A0_3 c0_3 l0_3 true W hr0_2 hc0_2 hr0_3 hc0_3 hP).mono fun e W' he => ?_
  obtain ⟨rfl, bel0⟩ := he
  have bel : Below W.heap.size W W' := bel0
  exact ⟨_, rfl, _, _, _, [], _, [], hW', trodAll_mk1 (shut_bool Try.underlying4 _), (trodAll_cons_mk (Below.trod laidOut (by kernel_rfl) (of_decide_eq_true (by kernel_rfl)) k0 bel lt0) trodAll_mk0), rfl, bel.frame _, fun h => by cases h⟩
theorem closed : joinedFacts Try.prog 11 Try.f11 Rows.fnExactLogOkSpec Rows.fnExactLogOkRow = true := by
  unfold joinedFacts
  rw [Facts.mayEnter, Facts.lifts, Facts.make]
  kernel_rfl
theorem over : Rows.fnExactLogOkRow.holds Try.pinned (OpenSpec.ofChange Rows.fnExactLogOkSpec) :=
  OpenClaim.holds_of_wide 11 Try.f11 rfl rfl rfl rfl rfl rfl rfl ⟨rfl, rfl, rfl, rfl, rfl⟩ rfl rfl rfl rfl rfl (by kernel_rfl) Try.func11 closed
    (of_decide_eq_true (by kernel_rfl)) (by unfold Func.isWrapper; first | (rw [if_pos (by decide +kernel)]; kernel_rfl) | (rw [if_neg (by decide +kernel)]; exact ⟨rfl, rfl⟩))
    (fun os started H enc _ => lifted os started H enc)
theorem proved : Rows.FnExactLogOkSaid := over
#print axioms proved
end Go.Proofs.Ytjcpkplneflleaa.fnExactLogOk
namespace Go.Proofs.Ytjcpkplneflleaa
/-- The row, under a short name, for the claim. -/
theorem fnExactLogOk_holds : Rows.FnExactLogOkSaid := fnExactLogOk.proved
end Go.Proofs.Ytjcpkplneflleaa
