/- The plain law of FnExactOpOk. -/
import Derived.Test.YthmmleheahkeeaaOps
import Derived.Test.YthmmleheahkeeaaOpOk
import Derived.Test.YthmmleheahkeeaaQ10
namespace Go.Proofs.Ythmmleheahkeeaa.Pure
open Go.RowKit Go.Proofs.YthmmleheahkeeaaW.PrintWords Go.Proofs.Ythmmleheahkeeaa.Base Go.Proofs.Ythmmleheahkeeaa.Q Go.Proofs.Ythmmleheahkeeaa.Ops Go.Proofs.Ythmmleheahkeeaa.OpOk
theorem FnExactOpOk (a0_0 : Int) (a0_1 : Int) (a0_2 : ByteArray) (a0_3 : Int) (a0_4 : ByteArray) (a0_5 : Int) (a0_6 : ByteArray) (hg0 : (Lit.int .i64 a0_0).wf = true ∧ (Lit.int .i64 a0_1).wf = true ∧ a0_2.size ≤ 9223372036854775807 ∧ (Lit.int .i64 a0_3).wf = true ∧ a0_4.size ≤ 9223372036854775807 ∧ (Lit.int .i64 a0_5).wf = true ∧ a0_6.size ≤ 9223372036854775807) :
    ∃ k, laws_FnExactOpOk.f k a0_0 a0_1 a0_2 a0_3 a0_4 a0_5 a0_6 = some true := by
  refine Ev.rounds (?_ : Ev (fun k => laws_FnExactOpOk.f k a0_0 a0_1 a0_2 a0_3 a0_4 a0_5 a0_6) true)
  unfold laws_FnExactOpOk.f
  obtain ⟨_, _, z2, _, z4, _, z6⟩ := hg0
  obtain ⟨r, hr, hp⟩ := szOp a0_0 a0_1 a0_3 a0_5 a0_2 a0_4 a0_6 1048576 (by omega) (by omega) z2 z4 z6
  rw [hr]
  refine Ev.sbind (Ev.ite (fun _ => Ev.now _) (fun c => ?_))
  obtain ⟨_, _, y2, y4, y6⟩ := hp.resolve_left (by omega)
  unfold laws_toOp.f
  simp only [Option.bind_some]
  exact Ev.bind (spec_ok (by omega) (by omega) (by omega)) (Ev.bind (impl_ok (by omega) (by omega) (by omega)) (Ev.neg (by simp) (Ev.now _)))
end Go.Proofs.Ythmmleheahkeeaa.Pure
