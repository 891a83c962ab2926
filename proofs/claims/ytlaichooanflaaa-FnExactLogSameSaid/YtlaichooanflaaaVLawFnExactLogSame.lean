/- The law FnExactLogSame holds of the given program for every input that can be read as data; no condition. -/
import Derived.Test.YtlaichooanflaaaRows
import Derived.Test.YtlaichooanflaaaVFnExactLogSame0
import Derived.Test.YtlaichooanflaaaVFnExactLogSame1
import Derived.Test.YtlaichooanflaaaVFnExactLogSame2
import Derived.WalkKit
import Derived.ProofKit
import Derived.OpenShut
import Derived.ShutString
import Derived.ChangeOld
import Derived.Below
import Derived.SizedLaws
import Derived.Carry
namespace Go.Proofs.Ytlaichooanflaaa.fnExactLogSame
open Go.ChangeShapes Go.WideShapes Go.ChangeAt Go.RowKit Go.Proofs.Ytlaichooanflaaa.Opened Go.Proofs.Ytlaichooanflaaa.Q Go.Proofs.YtlaichooanflaaaW.PrintWords
open Go.ChangeMaps (open_string shut_string)
set_option linter.unusedVariables false
theorem own : ownKnob Try.prog.godebug = none := by kernel_rfl
theorem laidOut : laidOutB Try.prog = true := by kernel_rfl
theorem opens147 : Opens Try.prog 147 k147 (fun x => (Lit.int .i64 x.f0).wf = true ∧ (Lit.int .i64 x.f1).wf = true) :=
  opens_struct (fun x : S147 => (x.f0, x.f1)) (fun y => ⟨y.1, y.2⟩) (fun _ => rfl) Try.underlying147 (by kernel_rfl) (opensF_cons (opens_int Try.underlying3 (by kernel_rfl)) rfl (opensF_one (opens_int Try.underlying3 (by kernel_rfl)) rfl))
theorem opens91 : Opens Try.prog 91 k91 (fun x => (Lit.int .i64 x.f0).wf = true ∧ (Lit.int .i64 x.f1).wf = true ∧ x.f2.size ≤ 9223372036854775807 ∧ (Lit.int .i64 x.f3).wf = true ∧ x.f4.size ≤ 9223372036854775807 ∧ (Lit.int .i64 x.f5).wf = true ∧ x.f6.size ≤ 9223372036854775807) :=
  opens_struct (fun x : S91 => (x.f0, x.f1, x.f2, x.f3, x.f4, x.f5, x.f6)) (fun y => ⟨y.1, y.2.1, y.2.2.1, y.2.2.2.1, y.2.2.2.2.1, y.2.2.2.2.2.1, y.2.2.2.2.2.2⟩) (fun _ => rfl) Try.underlying91 (by kernel_rfl) (opensF_cons (opens_int Try.underlying3 (by kernel_rfl)) rfl (opensF_cons (opens_int Try.underlying3 (by kernel_rfl)) rfl (opensF_cons (opens_string Try.underlying9 (by kernel_rfl)) rfl (opensF_cons (opens_int Try.underlying3 (by kernel_rfl)) rfl (opensF_cons (opens_string Try.underlying9 (by kernel_rfl)) rfl (opensF_cons (opens_int Try.underlying3 (by kernel_rfl)) rfl (opensF_one (opens_string Try.underlying9 (by kernel_rfl)) rfl)))))))
set_option maxRecDepth 100000 in
theorem lifted (os : Os) (started : os.Started) (H : Type) (enc : TypeId × Value → H) :
    ReturnsInHanded {} Try.checked os 5 .any (Rows.fnExactLogSameSpec.pre6 enc Try.prog Try.f5 Rows.fnExactLogSameRow.domain false) (Rows.fnExactLogSameSpec.post enc Try.prog Try.f5 false true false false) := by
  refine returnsInHanded_of_change_sized (C := Try.checked) own started (by kernel_rfl) Try.func5
    (ChangeSpec.witness6 (enc := enc) (C := Try.checked) false ⟨#[], #[.agg #[.int .i64 0, .int .i64 0, .slice none 0 0, .slice none 0 0], .agg #[.int .i64 0, .int .i64 0, .slice none 0 0, .slice none 0 0]], []⟩ 8 (by kernel_rfl) (by kernel_rfl) (by kernel_rfl) (by kernel_rfl)) ?_
  intro W base args ds gs before hval0 hW hcnd hsz0 _
  have hval : ∀ (j : Nat) t v, Try.f5.params[j]? = some t → args[j]? = some v → Value.okWide Try.prog W .any base t v := hval0
  have hW' := hW
  obtain ⟨p, q, hA0, hV, rfl, hfz, hnd⟩ := hW
  have hA : DataW.TrodAll enc Try.prog W 0 (fun _ => true) true Try.f5.params.toList args.toList ds p := hA0
  rw [Try.params5] at hA hval
  obtain ⟨v0, vs0, d0_, ds0, p0, q0, hargs, rfl, rfl, h0, r0⟩ := trodAll_cons hA
  obtain ⟨v1, vs1, d1_, ds1, p1, q1, rfl, rfl, rfl, h1, r1⟩ := trodAll_cons r0
  obtain ⟨rfl, rfl, rfl⟩ := trodAll_nil r1
  obtain rfl : args = #[v0, v1] := by cases args; simp_all
  obtain ⟨rfl, rfl⟩ := trodVars_none hV
  have k0 := h0
  have lt0 : ∀ x ∈ p0, x.block < W.heap.size := by obtain ⟨m, hm⟩ := k0; exact DataW.trod_lt m _ _ _ hm
  obtain ⟨cs0, rfl, sz0⟩ := okWide_struct Try.underlying45 (hval 0 45 v0 rfl rfl)
  obtain ⟨x0, hx0, hg0⟩ := open_arg (opens_struct (fun x => x) (fun y => y) (fun _ => rfl) Try.underlying45 (by kernel_rfl) (opensF_cons (opens_int Try.underlying3 (by kernel_rfl)) rfl (opensF_cons (opens_int Try.underlying3 (by kernel_rfl)) rfl (opensF_cons (opens_slice (e' := 147) Try.underlying43 (by kernel_rfl) opens147) rfl (opensF_one (opens_slice (e' := 91) Try.underlying25 (by kernel_rfl) opens91) rfl))))) h0
  obtain ⟨a0_0, a0_1, l0_2, l0_3⟩ := x0
  have hx0' : ∃ A0_2 c0_2, ∃ A0_3 c0_3, cs0.toList = [.int .i64 a0_0, .int .i64 a0_1, .slice A0_2 l0_2.length c0_2, .slice A0_3 l0_3.length c0_3] ∧ l0_2.length ≤ c0_2 ∧ Kd.C k147 W A0_2 l0_2.length l0_2 ∧ l0_3.length ≤ c0_3 ∧ Kd.C k91 W A0_3 l0_3.length l0_3 := by
    obtain ⟨_, _, e, rfl, ⟨_, _, rfl, rfl, ⟨_, _, rfl, ⟨B2, d2, rfl, hc2, hr2⟩, ⟨B3, d3, rfl, hc3, hr3⟩⟩⟩⟩ := hx0
    exact ⟨B2, d2, B3, d3, e, hc2, hr2, hc3, hr3⟩
  obtain ⟨A0_2, c0_2, A0_3, c0_3, ce0, hc0_2, hr0_2, hc0_3, hr0_3⟩ := hx0'
  obtain rfl : cs0 = #[.int .i64 a0_0, .int .i64 a0_1, .slice A0_2 l0_2.length c0_2, .slice A0_3 l0_3.length c0_3] := by rw [← Array.toList_inj, ce0]
  have k1 := h1
  have lt1 : ∀ x ∈ p1, x.block < W.heap.size := by obtain ⟨m, hm⟩ := k1; exact DataW.trod_lt m _ _ _ hm
  obtain ⟨cs1, rfl, sz1⟩ := okWide_struct Try.underlying45 (hval 1 45 v1 rfl rfl)
  obtain ⟨x1, hx1, hg1⟩ := open_arg (opens_struct (fun x => x) (fun y => y) (fun _ => rfl) Try.underlying45 (by kernel_rfl) (opensF_cons (opens_int Try.underlying3 (by kernel_rfl)) rfl (opensF_cons (opens_int Try.underlying3 (by kernel_rfl)) rfl (opensF_cons (opens_slice (e' := 147) Try.underlying43 (by kernel_rfl) opens147) rfl (opensF_one (opens_slice (e' := 91) Try.underlying25 (by kernel_rfl) opens91) rfl))))) h1
  obtain ⟨a1_0, a1_1, l1_2, l1_3⟩ := x1
  have hx1' : ∃ A1_2 c1_2, ∃ A1_3 c1_3, cs1.toList = [.int .i64 a1_0, .int .i64 a1_1, .slice A1_2 l1_2.length c1_2, .slice A1_3 l1_3.length c1_3] ∧ l1_2.length ≤ c1_2 ∧ Kd.C k147 W A1_2 l1_2.length l1_2 ∧ l1_3.length ≤ c1_3 ∧ Kd.C k91 W A1_3 l1_3.length l1_3 := by
    obtain ⟨_, _, e, rfl, ⟨_, _, rfl, rfl, ⟨_, _, rfl, ⟨B2, d2, rfl, hc2, hr2⟩, ⟨B3, d3, rfl, hc3, hr3⟩⟩⟩⟩ := hx1
    exact ⟨B2, d2, B3, d3, e, hc2, hr2, hc3, hr3⟩
  obtain ⟨A1_2, c1_2, A1_3, c1_3, ce1, hc1_2, hr1_2, hc1_3, hr1_3⟩ := hx1'
  obtain rfl : cs1 = #[.int .i64 a1_0, .int .i64 a1_1, .slice A1_2 l1_2.length c1_2, .slice A1_3 l1_3.length c1_3] := by rw [← Array.toList_inj, ce1]
  clear hA0 hval0 hsz0
  have hP := Pure.FnExactLogSame a0_0 a0_1 l0_2 l0_3 a1_0 a1_1 l1_2 l1_3 hg0 hg1
  obtain ⟨k, hP⟩ := hP
  refine (Q.laws_FnExactLogSame.calls k a0_0 a0_1 A0_2 c0_2 l0_2 A0_3 c0_3 l0_3 a1_0 a1_1 A1_2 c1_2 l1_2 A1_3 c1_3 l1_3 true W hr0_2 hc0_2 hr0_3 hc0_3 hr1_2 hc1_2 hr1_3 hc1_3 hP).mono fun e W' he => ?_
  obtain ⟨rfl, bel0⟩ := he
  have bel : Below W.heap.size W W' := bel0
  exact ⟨_, rfl, _, _, _, [], _, [], hW', trodAll_mk1 (shut_bool Try.underlying4 _), (trodAll_cons_mk (Below.trod laidOut (by kernel_rfl) (of_decide_eq_true (by kernel_rfl)) k0 bel lt0) (trodAll_cons_mk (Below.trod laidOut (by kernel_rfl) (of_decide_eq_true (by kernel_rfl)) k1 bel lt1) trodAll_mk0)), rfl, bel.frame _, fun h => by cases h⟩
theorem closed : joinedFacts Try.prog 5 Try.f5 Rows.fnExactLogSameSpec Rows.fnExactLogSameRow = true := by
  unfold joinedFacts
  rw [Facts.mayEnter, Facts.lifts, Facts.make]
  kernel_rfl
theorem over : Rows.fnExactLogSameRow.holds Try.pinned (OpenSpec.ofChange Rows.fnExactLogSameSpec) :=
  OpenClaim.holds_of_wide 5 Try.f5 rfl rfl rfl rfl rfl rfl rfl ⟨rfl, rfl, rfl, rfl, rfl⟩ rfl rfl rfl rfl rfl (by kernel_rfl) Try.func5 closed
    (of_decide_eq_true (by kernel_rfl)) (by unfold Func.isWrapper; first | (rw [if_pos (by decide +kernel)]; kernel_rfl) | (rw [if_neg (by decide +kernel)]; exact ⟨rfl, rfl⟩))
    (fun os started H enc _ => lifted os started H enc)
theorem proved : Rows.FnExactLogSameSaid := over
#print axioms proved
end Go.Proofs.Ytlaichooanflaaa.fnExactLogSame
namespace Go.Proofs.Ytlaichooanflaaa
/-- The row, under a short name, for the claim. -/
theorem fnExactLogSame_holds : Rows.FnExactLogSameSaid := fnExactLogSame.proved
end Go.Proofs.Ytlaichooanflaaa
