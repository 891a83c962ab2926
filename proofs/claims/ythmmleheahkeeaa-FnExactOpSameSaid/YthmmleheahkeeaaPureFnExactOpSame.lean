/- The plain law of FnExactOpSame. -/
import Derived.Test.YthmmleheahkeeaaOps
import Derived.Test.YthmmleheahkeeaaQ12
namespace Go.Proofs.Ythmmleheahkeeaa.Pure
open Go.RowKit Go.Proofs.YthmmleheahkeeaaW.PrintWords Go.Proofs.Ythmmleheahkeeaa.Base Go.Proofs.Ythmmleheahkeeaa.Q Go.Proofs.Ythmmleheahkeeaa.Ops
theorem FnExactOpSame (l0 l1 : List S28) (hg0 : l0.length ≤ 9223372036854775807 ∧ ∀ y0 ∈ l0, (Lit.int .i64 y0.f0).wf = true ∧ (Lit.int .i64 y0.f1).wf = true ∧ y0.f2.size ≤ 9223372036854775807 ∧ (Lit.int .i64 y0.f3).wf = true ∧ y0.f4.size ≤ 9223372036854775807 ∧ (Lit.int .i64 y0.f5).wf = true ∧ y0.f6.size ≤ 9223372036854775807) (hg1 : l1.length ≤ 9223372036854775807 ∧ ∀ y0 ∈ l1, (Lit.int .i64 y0.f0).wf = true ∧ (Lit.int .i64 y0.f1).wf = true ∧ y0.f2.size ≤ 9223372036854775807 ∧ (Lit.int .i64 y0.f3).wf = true ∧ y0.f4.size ≤ 9223372036854775807 ∧ (Lit.int .i64 y0.f5).wf = true ∧ y0.f6.size ≤ 9223372036854775807) :
    ∃ k, laws_FnExactOpSame.f k l0 l1 = some true := by
  refine Ev.rounds (?_ : Ev (fun k => laws_FnExactOpSame.f k l0 l1) true)
  unfold laws_FnExactOpSame.f
  obtain ⟨r0, h0, p0⟩ := szOpS l0 hg0.1 (fun y hy => let ⟨_, _, h2, _, h4, _, h6⟩ := hg0.2 y hy; ⟨h2, h4, h6⟩) 1048576 (by omega) (by omega)
  refine Ev.bind h0 (Ev.ite (fun _ => Ev.now _) (fun c0 => ?_))
  obtain ⟨q0, z0, _⟩ := p0 (by omega)
  obtain ⟨r1, h1, p1⟩ := szOpS l1 hg1.1 (fun y hy => let ⟨_, _, h2, _, h4, _, h6⟩ := hg1.2 y hy; ⟨h2, h4, h6⟩) r0 (by omega) (by omega)
  refine Ev.bind h1 (Ev.ite (fun _ => Ev.now _) (fun c1 => ?_))
  obtain ⟨_, z1, _⟩ := p1 (by omega)
  have t0 := toOpS l0 z0
  have t1 := toOpS l1 z1
  have L0 : (l0.map cvOp).length ≤ 4611686018427387903 := by rw [List.length_map]; omega
  have L1 : (l1.map cvOp).length ≤ 4611686018427387903 := by rw [List.length_map]; omega
  refine Ev.bind t0 (Ev.bind t1 (Ev.bind (spec_same _ _ L0) (Ev.bind t0 (Ev.bind t1 (Ev.bind (impl_same _ _ L0) (Ev.neg (by simp) ?_))))))
  refine Ev.bind t0 (Ev.bind (eqOpS _ _ L0) (Ev.pos (tr_t rfl) (Ev.bind t1 (Ev.bind (eqOpS _ _ L1) (Ev.pos (tr_t rfl) (Ev.now _))))))
end Go.Proofs.Ythmmleheahkeeaa.Pure
