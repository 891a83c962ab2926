/- The plain law of FnExactConstants. -/
import Derived.Test.YthmmleheahkeeaaQ4
namespace Go.Proofs.Ythmmleheahkeeaa.Pure
open Go.Proofs.Ythmmleheahkeeaa.Q
theorem FnExactConstants : laws_FnExactConstants.f = some true := rfl
end Go.Proofs.Ythmmleheahkeeaa.Pure
