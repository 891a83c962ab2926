/- The plain law of FnExactTreeWord. -/
import Derived.Test.YthmmleheahkeeaaWordLaw
import Derived.Test.YthmmleheahkeeaaQ5
namespace Go.Proofs.Ythmmleheahkeeaa.Pure
open Go.RowKit Go.Proofs.YthmmleheahkeeaaW.PrintWords Go.Proofs.Ythmmleheahkeeaa.Base Go.Proofs.Ythmmleheahkeeaa.Q Go.Proofs.Ythmmleheahkeeaa.WordLaw
theorem FnExactTreeWord (a0 : ByteArray) (hg0 : a0.size ≤ 9223372036854775807) : ∃ k, laws_FnExactTreeWord.f k a0 = some true := by
  refine Ev.rounds (?_ : Ev (fun k => laws_FnExactTreeWord.f k a0) true)
  unfold laws_FnExactTreeWord.f
  refine Ev.ite (fun _ => Ev.now _) (fun _ => ?_)
  exact Ev.bind (spec_word a0 (by omega)) (Ev.bind (impl_word a0 (by omega)) (Ev.neg (by simp) (Ev.now _)))
end Go.Proofs.Ythmmleheahkeeaa.Pure
