/-
  No cell of these rows narrows 'for every input' (looked for: loops, veiled, ifaces, maps, wideKeys, modest, calm, conditions, laid).
  DERIVED. THE GIVEN ROWS OF THIS SEAT. 12 by the template 'for every input the law returns true; each argument reads behind the call as it read before'; 0 by the template 'total and deterministic' (their statements: YthmmleheahkeeaaTotals.lean).
  GIVEN WITH THE SEED: the statements are not yours to turn. If you find one false, say at which input.
  Laid BY PROGRAM, IN A SANDBOX (cutbox-rows.mjs): the forced cells as the released guide's own fill.sh prints them over the translation 31f71e4e742852be… (all of the seat's roots in one cut). By AI agents, Wed Nov 11 2026. No macro, syntax, notation, axiom, sorry.
-/
import Derived.Test.YthmmleheahkeeaaChecked
import GoSem.Claim
import GoSem.ClaimJoined
import GoSem.ClaimMapViews
import Derived.JoinedTies
import Derived.KernelRfl
namespace Go.Proofs.Ythmmleheahkeeaa
/- THE CELL 'sum', in the pinned program and in every row, IS THE sha256 OF THE DUMP (.gsa) THAT YthmmleheahkeeaaProg.lean LOADS. Nothing in Lean hashes anything: it is a label: what it is worth is what the hold of that sum in a sandbox is worth. -/
noncomputable def Try.pinned : Pinned := { name := "ythmmleheahkeeaa", sum := "31f71e4e742852bee70df4b689a4beec256723947d57c7098f8609613a1a4af3", checked := Try.checked }
namespace Rows
def none {H : Type} : Left H := { results := [], args := [] }

/-- 'laws.FnExactConstants': WHATEVER THE INPUT: true; the input reads as it did. -/
def fnExactConstantsSpec : ChangeSpec := { name := "fnExactConstants", fn := fun _ => fun
  | [] => { results := [.lit (.bool true)], args := [] }
  | _ => none }
def fnExactConstantsRow : OpenClaim := { program := "ythmmleheahkeeaa", sum := "31f71e4e742852bee70df4b689a4beec256723947d57c7098f8609613a1a4af3", func := "loop.example/shieling/laws.FnExactConstants", spec := "fnExactConstants", apart := false }
def FnExactConstantsSaid : Prop := fnExactConstantsRow.holds Try.pinned (OpenSpec.ofChange fnExactConstantsSpec)

/-- ITS FALSE NEIGHBOUR: 'it returns false'. Refute it at one input. -/
def fnExactConstantsWrong : ChangeSpec := { name := "fnExactConstants", fn := fun _ => fun
  | [] => { results := [.lit (.bool false)], args := [] }
  | _ => none }
def FnExactConstantsWrongFalsely : Prop := fnExactConstantsRow.holds Try.pinned (OpenSpec.ofChange fnExactConstantsWrong)

/-- 'laws.FnExactTreeBody': WHATEVER THE INPUT: true; the input reads as it did. -/
def fnExactTreeBodySpec : ChangeSpec := { name := "fnExactTreeBody", fn := fun _ => fun
  | [d] => { results := [.lit (.bool true)], args := [d] }
  | _ => none }
def fnExactTreeBodyRow : OpenClaim := { program := "ythmmleheahkeeaa", sum := "31f71e4e742852bee70df4b689a4beec256723947d57c7098f8609613a1a4af3", func := "loop.example/shieling/laws.FnExactTreeBody", spec := "fnExactTreeBody", apart := false }
def FnExactTreeBodySaid : Prop := fnExactTreeBodyRow.holds Try.pinned (OpenSpec.ofChange fnExactTreeBodySpec)

/-- ITS FALSE NEIGHBOUR: 'it returns false'. Refute it at one input. -/
def fnExactTreeBodyWrong : ChangeSpec := { name := "fnExactTreeBody", fn := fun _ => fun
  | [d] => { results := [.lit (.bool false)], args := [d] }
  | _ => none }
def FnExactTreeBodyWrongFalsely : Prop := fnExactTreeBodyRow.holds Try.pinned (OpenSpec.ofChange fnExactTreeBodyWrong)

/-- 'laws.FnExactTreeWord': WHATEVER THE INPUT: true; the input reads as it did. -/
def fnExactTreeWordSpec : ChangeSpec := { name := "fnExactTreeWord", fn := fun _ => fun
  | [d] => { results := [.lit (.bool true)], args := [d] }
  | _ => none }
def fnExactTreeWordRow : OpenClaim := { program := "ythmmleheahkeeaa", sum := "31f71e4e742852bee70df4b689a4beec256723947d57c7098f8609613a1a4af3", func := "loop.example/shieling/laws.FnExactTreeWord", spec := "fnExactTreeWord", apart := false }
def FnExactTreeWordSaid : Prop := fnExactTreeWordRow.holds Try.pinned (OpenSpec.ofChange fnExactTreeWordSpec)

/-- ITS FALSE NEIGHBOUR: 'it returns false'. Refute it at one input. -/
def fnExactTreeWordWrong : ChangeSpec := { name := "fnExactTreeWord", fn := fun _ => fun
  | [d] => { results := [.lit (.bool false)], args := [d] }
  | _ => none }
def FnExactTreeWordWrongFalsely : Prop := fnExactTreeWordRow.holds Try.pinned (OpenSpec.ofChange fnExactTreeWordWrong)

/-- 'laws.FnTreeWord': WHATEVER THE INPUT: true; the input reads as it did. -/
def fnTreeWordSpec : ChangeSpec := { name := "fnTreeWord", fn := fun _ => fun
  | [d] => { results := [.lit (.bool true)], args := [d] }
  | _ => none }
def fnTreeWordRow : OpenClaim := { program := "ythmmleheahkeeaa", sum := "31f71e4e742852bee70df4b689a4beec256723947d57c7098f8609613a1a4af3", func := "loop.example/shieling/laws.FnTreeWord", spec := "fnTreeWord", apart := false }
def FnTreeWordSaid : Prop := fnTreeWordRow.holds Try.pinned (OpenSpec.ofChange fnTreeWordSpec)

/-- ITS FALSE NEIGHBOUR: 'it returns false'. Refute it at one input. -/
def fnTreeWordWrong : ChangeSpec := { name := "fnTreeWord", fn := fun _ => fun
  | [d] => { results := [.lit (.bool false)], args := [d] }
  | _ => none }
def FnTreeWordWrongFalsely : Prop := fnTreeWordRow.holds Try.pinned (OpenSpec.ofChange fnTreeWordWrong)

/-- 'laws.FnExactOpOk': WHATEVER THE INPUT: true; the input reads as it did. -/
def fnExactOpOkSpec : ChangeSpec := { name := "fnExactOpOk", fn := fun _ => fun
  | [d] => { results := [.lit (.bool true)], args := [d] }
  | _ => none }
def fnExactOpOkRow : OpenClaim := { program := "ythmmleheahkeeaa", sum := "31f71e4e742852bee70df4b689a4beec256723947d57c7098f8609613a1a4af3", func := "loop.example/shieling/laws.FnExactOpOk", spec := "fnExactOpOk", apart := false }
def FnExactOpOkSaid : Prop := fnExactOpOkRow.holds Try.pinned (OpenSpec.ofChange fnExactOpOkSpec)

/-- ITS FALSE NEIGHBOUR: 'it returns false'. Refute it at one input. -/
def fnExactOpOkWrong : ChangeSpec := { name := "fnExactOpOk", fn := fun _ => fun
  | [d] => { results := [.lit (.bool false)], args := [d] }
  | _ => none }
def FnExactOpOkWrongFalsely : Prop := fnExactOpOkRow.holds Try.pinned (OpenSpec.ofChange fnExactOpOkWrong)

/-- 'laws.FnExactOpSame': WHATEVER THE INPUT: true; the input reads as it did. -/
def fnExactOpSameSpec : ChangeSpec := { name := "fnExactOpSame", fn := fun _ => fun
  | [d1, d2] => { results := [.lit (.bool true)], args := [d1, d2] }
  | _ => none }
def fnExactOpSameRow : OpenClaim := { program := "ythmmleheahkeeaa", sum := "31f71e4e742852bee70df4b689a4beec256723947d57c7098f8609613a1a4af3", func := "loop.example/shieling/laws.FnExactOpSame", spec := "fnExactOpSame", apart := false }
def FnExactOpSameSaid : Prop := fnExactOpSameRow.holds Try.pinned (OpenSpec.ofChange fnExactOpSameSpec)

/-- ITS FALSE NEIGHBOUR: 'it returns false'. Refute it at one input. -/
def fnExactOpSameWrong : ChangeSpec := { name := "fnExactOpSame", fn := fun _ => fun
  | [d1, d2] => { results := [.lit (.bool false)], args := [d1, d2] }
  | _ => none }
def FnExactOpSameWrongFalsely : Prop := fnExactOpSameRow.holds Try.pinned (OpenSpec.ofChange fnExactOpSameWrong)

/-- 'laws.FnExactTreeOpen': WHATEVER THE INPUT: true; the input reads as it did. -/
def fnExactTreeOpenSpec : ChangeSpec := { name := "fnExactTreeOpen", fn := fun _ => fun
  | [] => { results := [.lit (.bool true)], args := [] }
  | _ => none }
def fnExactTreeOpenRow : OpenClaim := { program := "ythmmleheahkeeaa", sum := "31f71e4e742852bee70df4b689a4beec256723947d57c7098f8609613a1a4af3", func := "loop.example/shieling/laws.FnExactTreeOpen", spec := "fnExactTreeOpen", apart := false }
def FnExactTreeOpenSaid : Prop := fnExactTreeOpenRow.holds Try.pinned (OpenSpec.ofChange fnExactTreeOpenSpec)

/-- ITS FALSE NEIGHBOUR: 'it returns false'. Refute it at one input. -/
def fnExactTreeOpenWrong : ChangeSpec := { name := "fnExactTreeOpen", fn := fun _ => fun
  | [] => { results := [.lit (.bool false)], args := [] }
  | _ => none }
def FnExactTreeOpenWrongFalsely : Prop := fnExactTreeOpenRow.holds Try.pinned (OpenSpec.ofChange fnExactTreeOpenWrong)

/-- 'laws.FnExactOpIds': WHATEVER THE INPUT: true; the input reads as it did. -/
def fnExactOpIdsSpec : ChangeSpec := { name := "fnExactOpIds", fn := fun _ => fun
  | [d] => { results := [.lit (.bool true)], args := [d] }
  | _ => none }
def fnExactOpIdsRow : OpenClaim := { program := "ythmmleheahkeeaa", sum := "31f71e4e742852bee70df4b689a4beec256723947d57c7098f8609613a1a4af3", func := "loop.example/shieling/laws.FnExactOpIds", spec := "fnExactOpIds", apart := false }
def FnExactOpIdsSaid : Prop := fnExactOpIdsRow.holds Try.pinned (OpenSpec.ofChange fnExactOpIdsSpec)

/-- ITS FALSE NEIGHBOUR: 'it returns false'. Refute it at one input. -/
def fnExactOpIdsWrong : ChangeSpec := { name := "fnExactOpIds", fn := fun _ => fun
  | [d] => { results := [.lit (.bool false)], args := [d] }
  | _ => none }
def FnExactOpIdsWrongFalsely : Prop := fnExactOpIdsRow.holds Try.pinned (OpenSpec.ofChange fnExactOpIdsWrong)

/-- 'laws.FnExactTreeLike': WHATEVER THE INPUT: true; the input reads as it did. -/
def fnExactTreeLikeSpec : ChangeSpec := { name := "fnExactTreeLike", fn := fun _ => fun
  | [d1, d2] => { results := [.lit (.bool true)], args := [d1, d2] }
  | _ => none }
def fnExactTreeLikeRow : OpenClaim := { program := "ythmmleheahkeeaa", sum := "31f71e4e742852bee70df4b689a4beec256723947d57c7098f8609613a1a4af3", func := "loop.example/shieling/laws.FnExactTreeLike", spec := "fnExactTreeLike", apart := false }
def FnExactTreeLikeSaid : Prop := fnExactTreeLikeRow.holds Try.pinned (OpenSpec.ofChange fnExactTreeLikeSpec)

/-- ITS FALSE NEIGHBOUR: 'it returns false'. Refute it at one input. -/
def fnExactTreeLikeWrong : ChangeSpec := { name := "fnExactTreeLike", fn := fun _ => fun
  | [d1, d2] => { results := [.lit (.bool false)], args := [d1, d2] }
  | _ => none }
def FnExactTreeLikeWrongFalsely : Prop := fnExactTreeLikeRow.holds Try.pinned (OpenSpec.ofChange fnExactTreeLikeWrong)

/-- 'laws.FnExactLogSame': WHATEVER THE INPUT: true; the input reads as it did. -/
def fnExactLogSameSpec : ChangeSpec := { name := "fnExactLogSame", fn := fun _ => fun
  | [d1, d2] => { results := [.lit (.bool true)], args := [d1, d2] }
  | _ => none }
def fnExactLogSameRow : OpenClaim := { program := "ythmmleheahkeeaa", sum := "31f71e4e742852bee70df4b689a4beec256723947d57c7098f8609613a1a4af3", func := "loop.example/shieling/laws.FnExactLogSame", spec := "fnExactLogSame", apart := false }
def FnExactLogSameSaid : Prop := fnExactLogSameRow.holds Try.pinned (OpenSpec.ofChange fnExactLogSameSpec)

/-- ITS FALSE NEIGHBOUR: 'it returns false'. Refute it at one input. -/
def fnExactLogSameWrong : ChangeSpec := { name := "fnExactLogSame", fn := fun _ => fun
  | [d1, d2] => { results := [.lit (.bool false)], args := [d1, d2] }
  | _ => none }
def FnExactLogSameWrongFalsely : Prop := fnExactLogSameRow.holds Try.pinned (OpenSpec.ofChange fnExactLogSameWrong)

/-- 'laws.FnExactTreeSame': WHATEVER THE INPUT: true; the input reads as it did. -/
def fnExactTreeSameSpec : ChangeSpec := { name := "fnExactTreeSame", fn := fun _ => fun
  | [d1, d2] => { results := [.lit (.bool true)], args := [d1, d2] }
  | _ => none }
def fnExactTreeSameRow : OpenClaim := { program := "ythmmleheahkeeaa", sum := "31f71e4e742852bee70df4b689a4beec256723947d57c7098f8609613a1a4af3", func := "loop.example/shieling/laws.FnExactTreeSame", spec := "fnExactTreeSame", apart := false }
def FnExactTreeSameSaid : Prop := fnExactTreeSameRow.holds Try.pinned (OpenSpec.ofChange fnExactTreeSameSpec)

/-- ITS FALSE NEIGHBOUR: 'it returns false'. Refute it at one input. -/
def fnExactTreeSameWrong : ChangeSpec := { name := "fnExactTreeSame", fn := fun _ => fun
  | [d1, d2] => { results := [.lit (.bool false)], args := [d1, d2] }
  | _ => none }
def FnExactTreeSameWrongFalsely : Prop := fnExactTreeSameRow.holds Try.pinned (OpenSpec.ofChange fnExactTreeSameWrong)

/-- 'laws.FnExactLogIds': WHATEVER THE INPUT: true; the input reads as it did. -/
def fnExactLogIdsSpec : ChangeSpec := { name := "fnExactLogIds", fn := fun _ => fun
  | [d] => { results := [.lit (.bool true)], args := [d] }
  | _ => none }
def fnExactLogIdsRow : OpenClaim := { program := "ythmmleheahkeeaa", sum := "31f71e4e742852bee70df4b689a4beec256723947d57c7098f8609613a1a4af3", func := "loop.example/shieling/laws.FnExactLogIds", spec := "fnExactLogIds", apart := false }
def FnExactLogIdsSaid : Prop := fnExactLogIdsRow.holds Try.pinned (OpenSpec.ofChange fnExactLogIdsSpec)

/-- ITS FALSE NEIGHBOUR: 'it returns false'. Refute it at one input. -/
def fnExactLogIdsWrong : ChangeSpec := { name := "fnExactLogIds", fn := fun _ => fun
  | [d] => { results := [.lit (.bool false)], args := [d] }
  | _ => none }
def FnExactLogIdsWrongFalsely : Prop := fnExactLogIdsRow.holds Try.pinned (OpenSpec.ofChange fnExactLogIdsWrong)

/- THE SECOND FORM. 'bulk': how many values and letters a reading holds, each counted each time it is reached (what is shared counts as often as it is met; a slice's spare places count too). A statement '..UptoSaid' is the law's where the arguments, and the package variables that the reading takes, are together of bulk at most 1048576: NARROWER than '..Said'. Prove '..Said' where nothing that the law and all that it calls make is longer than what came in: it says more and counts as full. Else prove '..UptoSaid'. A law counts once. -/
mutual
def uptoBulk {H : Type} : DataW H → Nat
  | .lit (.string bytes) => bytes.length + 1
  | .lit _ => 1
  | .nil => 1
  | .ptr d => uptoBulk d + 1
  | .slice elems spare => uptoBulkAll elems + uptoBulkAll spare + 1
  | .agg parts => uptoBulkAll parts + 1
  | .iface _ d => uptoBulk d + 1
  | .map entries => uptoBulkEntries entries + 1
  | .held _ => 1
def uptoBulkAll {H : Type} : List (DataW H) → Nat
  | [] => 0
  | d :: r => uptoBulk d + uptoBulkAll r
def uptoBulkEntries {H : Type} : List (Lit × DataW H) → Nat
  | [] => 0
  | x :: r => uptoBulkEntry x + uptoBulkEntries r
def uptoBulkEntry {H : Type} : Lit × DataW H → Nat
  | (.string bytes, d) => bytes.length + uptoBulk d + 1
  | (_, d) => uptoBulk d + 1
 end
def uptoSmall : (H : Type) → List (DataW H) → Bool := fun _ ds => decide (uptoBulkAll ds ≤ 1048576)
def OpenSpec.upto (s : _root_.Go.ChangeSpec) : _root_.Go.OpenSpec := { _root_.Go.OpenSpec.ofChange s with cond := some uptoSmall }

/-- 'laws.FnExactConstants', WHERE WHAT IT READS IS OF BULK AT MOST 1048576: true; the input reads as it did. -/
def fnExactConstantsUptoRow : OpenClaim := { program := "ythmmleheahkeeaa", sum := "31f71e4e742852bee70df4b689a4beec256723947d57c7098f8609613a1a4af3", func := "loop.example/shieling/laws.FnExactConstants", spec := "fnExactConstants", apart := false, narrowed := true }
def FnExactConstantsUptoSaid : Prop := fnExactConstantsUptoRow.holds Try.pinned (OpenSpec.upto fnExactConstantsSpec)

/-- 'laws.FnExactTreeBody', WHERE WHAT IT READS IS OF BULK AT MOST 1048576: true; the input reads as it did. -/
def fnExactTreeBodyUptoRow : OpenClaim := { program := "ythmmleheahkeeaa", sum := "31f71e4e742852bee70df4b689a4beec256723947d57c7098f8609613a1a4af3", func := "loop.example/shieling/laws.FnExactTreeBody", spec := "fnExactTreeBody", apart := false, narrowed := true }
def FnExactTreeBodyUptoSaid : Prop := fnExactTreeBodyUptoRow.holds Try.pinned (OpenSpec.upto fnExactTreeBodySpec)

/-- 'laws.FnExactTreeWord', WHERE WHAT IT READS IS OF BULK AT MOST 1048576: true; the input reads as it did. -/
def fnExactTreeWordUptoRow : OpenClaim := { program := "ythmmleheahkeeaa", sum := "31f71e4e742852bee70df4b689a4beec256723947d57c7098f8609613a1a4af3", func := "loop.example/shieling/laws.FnExactTreeWord", spec := "fnExactTreeWord", apart := false, narrowed := true }
def FnExactTreeWordUptoSaid : Prop := fnExactTreeWordUptoRow.holds Try.pinned (OpenSpec.upto fnExactTreeWordSpec)

/-- 'laws.FnTreeWord', WHERE WHAT IT READS IS OF BULK AT MOST 1048576: true; the input reads as it did. -/
def fnTreeWordUptoRow : OpenClaim := { program := "ythmmleheahkeeaa", sum := "31f71e4e742852bee70df4b689a4beec256723947d57c7098f8609613a1a4af3", func := "loop.example/shieling/laws.FnTreeWord", spec := "fnTreeWord", apart := false, narrowed := true }
def FnTreeWordUptoSaid : Prop := fnTreeWordUptoRow.holds Try.pinned (OpenSpec.upto fnTreeWordSpec)

/-- 'laws.FnExactOpOk', WHERE WHAT IT READS IS OF BULK AT MOST 1048576: true; the input reads as it did. -/
def fnExactOpOkUptoRow : OpenClaim := { program := "ythmmleheahkeeaa", sum := "31f71e4e742852bee70df4b689a4beec256723947d57c7098f8609613a1a4af3", func := "loop.example/shieling/laws.FnExactOpOk", spec := "fnExactOpOk", apart := false, narrowed := true }
def FnExactOpOkUptoSaid : Prop := fnExactOpOkUptoRow.holds Try.pinned (OpenSpec.upto fnExactOpOkSpec)

/-- 'laws.FnExactOpSame', WHERE WHAT IT READS IS OF BULK AT MOST 1048576: true; the input reads as it did. -/
def fnExactOpSameUptoRow : OpenClaim := { program := "ythmmleheahkeeaa", sum := "31f71e4e742852bee70df4b689a4beec256723947d57c7098f8609613a1a4af3", func := "loop.example/shieling/laws.FnExactOpSame", spec := "fnExactOpSame", apart := false, narrowed := true }
def FnExactOpSameUptoSaid : Prop := fnExactOpSameUptoRow.holds Try.pinned (OpenSpec.upto fnExactOpSameSpec)

/-- 'laws.FnExactTreeOpen', WHERE WHAT IT READS IS OF BULK AT MOST 1048576: true; the input reads as it did. -/
def fnExactTreeOpenUptoRow : OpenClaim := { program := "ythmmleheahkeeaa", sum := "31f71e4e742852bee70df4b689a4beec256723947d57c7098f8609613a1a4af3", func := "loop.example/shieling/laws.FnExactTreeOpen", spec := "fnExactTreeOpen", apart := false, narrowed := true }
def FnExactTreeOpenUptoSaid : Prop := fnExactTreeOpenUptoRow.holds Try.pinned (OpenSpec.upto fnExactTreeOpenSpec)

/-- 'laws.FnExactOpIds', WHERE WHAT IT READS IS OF BULK AT MOST 1048576: true; the input reads as it did. -/
def fnExactOpIdsUptoRow : OpenClaim := { program := "ythmmleheahkeeaa", sum := "31f71e4e742852bee70df4b689a4beec256723947d57c7098f8609613a1a4af3", func := "loop.example/shieling/laws.FnExactOpIds", spec := "fnExactOpIds", apart := false, narrowed := true }
def FnExactOpIdsUptoSaid : Prop := fnExactOpIdsUptoRow.holds Try.pinned (OpenSpec.upto fnExactOpIdsSpec)

/-- 'laws.FnExactTreeLike', WHERE WHAT IT READS IS OF BULK AT MOST 1048576: true; the input reads as it did. -/
def fnExactTreeLikeUptoRow : OpenClaim := { program := "ythmmleheahkeeaa", sum := "31f71e4e742852bee70df4b689a4beec256723947d57c7098f8609613a1a4af3", func := "loop.example/shieling/laws.FnExactTreeLike", spec := "fnExactTreeLike", apart := false, narrowed := true }
def FnExactTreeLikeUptoSaid : Prop := fnExactTreeLikeUptoRow.holds Try.pinned (OpenSpec.upto fnExactTreeLikeSpec)

/-- 'laws.FnExactLogSame', WHERE WHAT IT READS IS OF BULK AT MOST 1048576: true; the input reads as it did. -/
def fnExactLogSameUptoRow : OpenClaim := { program := "ythmmleheahkeeaa", sum := "31f71e4e742852bee70df4b689a4beec256723947d57c7098f8609613a1a4af3", func := "loop.example/shieling/laws.FnExactLogSame", spec := "fnExactLogSame", apart := false, narrowed := true }
def FnExactLogSameUptoSaid : Prop := fnExactLogSameUptoRow.holds Try.pinned (OpenSpec.upto fnExactLogSameSpec)

/-- 'laws.FnExactTreeSame', WHERE WHAT IT READS IS OF BULK AT MOST 1048576: true; the input reads as it did. -/
def fnExactTreeSameUptoRow : OpenClaim := { program := "ythmmleheahkeeaa", sum := "31f71e4e742852bee70df4b689a4beec256723947d57c7098f8609613a1a4af3", func := "loop.example/shieling/laws.FnExactTreeSame", spec := "fnExactTreeSame", apart := false, narrowed := true }
def FnExactTreeSameUptoSaid : Prop := fnExactTreeSameUptoRow.holds Try.pinned (OpenSpec.upto fnExactTreeSameSpec)

/-- 'laws.FnExactLogIds', WHERE WHAT IT READS IS OF BULK AT MOST 1048576: true; the input reads as it did. -/
def fnExactLogIdsUptoRow : OpenClaim := { program := "ythmmleheahkeeaa", sum := "31f71e4e742852bee70df4b689a4beec256723947d57c7098f8609613a1a4af3", func := "loop.example/shieling/laws.FnExactLogIds", spec := "fnExactLogIds", apart := false, narrowed := true }
def FnExactLogIdsUptoSaid : Prop := fnExactLogIdsUptoRow.holds Try.pinned (OpenSpec.upto fnExactLogIdsSpec)

end Rows
end Go.Proofs.Ythmmleheahkeeaa
