/-
  No cell of these rows narrows 'for every input' (looked for: loops, veiled, ifaces, maps, wideKeys, modest, calm, conditions, laid).
  DERIVED. THE GIVEN ROWS OF THIS SEAT. 25 by the template 'for every input the law returns true; each argument reads behind the call as it read before'; 0 by the template 'total and deterministic' (their statements: YtlaichooanflaaaTotals.lean).
  GIVEN WITH THE SEED: the statements are not yours to turn. If you find one false, say at which input.
  Laid BY PROGRAM, IN A SANDBOX (cutbox-rows.mjs): the forced cells as the released guide's own fill.sh prints them over the translation dbe444a4e905ca7a… (all of the seat's roots in one cut). By AI agents, Wed Nov 11 2026. No macro, syntax, notation, axiom, sorry.
-/
import Derived.Test.YtlaichooanflaaaChecked
import GoSem.Claim
import GoSem.ClaimJoined
import GoSem.ClaimMapViews
import Derived.JoinedTies
import Derived.KernelRfl
namespace Go.Proofs.Ytlaichooanflaaa
/- THE CELL 'sum', in the pinned program and in every row, IS THE sha256 OF THE DUMP (.gsa) THAT YtlaichooanflaaaProg.lean LOADS. Nothing in Lean hashes anything: it is a label: what it is worth is what the hold of that sum in a sandbox is worth. -/
noncomputable def Try.pinned : Pinned := { name := "ytlaichooanflaaa", sum := "dbe444a4e905ca7ab4a210db2aea6dc46b6f421bc3fbdde54589182240652c0d", checked := Try.checked }
namespace Rows
def none {H : Type} : Left H := { results := [], args := [] }

/-- 'laws.FnExactActAll': WHATEVER THE INPUT: true; the input reads as it did. -/
def fnExactActAllSpec : ChangeSpec := { name := "fnExactActAll", fn := fun _ => fun
  | [d1, d2] => { results := [.lit (.bool true)], args := [d1, d2] }
  | _ => none }
def fnExactActAllRow : OpenClaim := { program := "ytlaichooanflaaa", sum := "dbe444a4e905ca7ab4a210db2aea6dc46b6f421bc3fbdde54589182240652c0d", func := "loop.example/shieling/laws.FnExactActAll", spec := "fnExactActAll", unfollowed := true, recurses := true, apart := false }
def FnExactActAllSaid : Prop := fnExactActAllRow.holds Try.pinned (OpenSpec.ofChange fnExactActAllSpec)

/-- ITS FALSE NEIGHBOUR: 'it returns false'. Refute it at one input. -/
def fnExactActAllWrong : ChangeSpec := { name := "fnExactActAll", fn := fun _ => fun
  | [d1, d2] => { results := [.lit (.bool false)], args := [d1, d2] }
  | _ => none }
def FnExactActAllWrongFalsely : Prop := fnExactActAllRow.holds Try.pinned (OpenSpec.ofChange fnExactActAllWrong)

/-- 'laws.FnExactTreeOpen': WHATEVER THE INPUT: true; the input reads as it did. -/
def fnExactTreeOpenSpec : ChangeSpec := { name := "fnExactTreeOpen", fn := fun _ => fun
  | [] => { results := [.lit (.bool true)], args := [] }
  | _ => none }
def fnExactTreeOpenRow : OpenClaim := { program := "ytlaichooanflaaa", sum := "dbe444a4e905ca7ab4a210db2aea6dc46b6f421bc3fbdde54589182240652c0d", func := "loop.example/shieling/laws.FnExactTreeOpen", spec := "fnExactTreeOpen", apart := false }
def FnExactTreeOpenSaid : Prop := fnExactTreeOpenRow.holds Try.pinned (OpenSpec.ofChange fnExactTreeOpenSpec)

/-- ITS FALSE NEIGHBOUR: 'it returns false'. Refute it at one input. -/
def fnExactTreeOpenWrong : ChangeSpec := { name := "fnExactTreeOpen", fn := fun _ => fun
  | [] => { results := [.lit (.bool false)], args := [] }
  | _ => none }
def FnExactTreeOpenWrongFalsely : Prop := fnExactTreeOpenRow.holds Try.pinned (OpenSpec.ofChange fnExactTreeOpenWrong)

/-- 'laws.FnExactLogSame': WHATEVER THE INPUT: true; the input reads as it did. -/
def fnExactLogSameSpec : ChangeSpec := { name := "fnExactLogSame", fn := fun _ => fun
  | [d1, d2] => { results := [.lit (.bool true)], args := [d1, d2] }
  | _ => none }
def fnExactLogSameRow : OpenClaim := { program := "ytlaichooanflaaa", sum := "dbe444a4e905ca7ab4a210db2aea6dc46b6f421bc3fbdde54589182240652c0d", func := "loop.example/shieling/laws.FnExactLogSame", spec := "fnExactLogSame", apart := false }
def FnExactLogSameSaid : Prop := fnExactLogSameRow.holds Try.pinned (OpenSpec.ofChange fnExactLogSameSpec)

/-- ITS FALSE NEIGHBOUR: 'it returns false'. Refute it at one input. -/
def fnExactLogSameWrong : ChangeSpec := { name := "fnExactLogSame", fn := fun _ => fun
  | [d1, d2] => { results := [.lit (.bool false)], args := [d1, d2] }
  | _ => none }
def FnExactLogSameWrongFalsely : Prop := fnExactLogSameRow.holds Try.pinned (OpenSpec.ofChange fnExactLogSameWrong)

/-- 'laws.FnExactTreeOk': WHATEVER THE INPUT: true; the input reads as it did. -/
def fnExactTreeOkSpec : ChangeSpec := { name := "fnExactTreeOk", fn := fun _ => fun
  | [d] => { results := [.lit (.bool true)], args := [d] }
  | _ => none }
def fnExactTreeOkRow : OpenClaim := { program := "ytlaichooanflaaa", sum := "dbe444a4e905ca7ab4a210db2aea6dc46b6f421bc3fbdde54589182240652c0d", func := "loop.example/shieling/laws.FnExactTreeOk", spec := "fnExactTreeOk", recurses := true, apart := false }
def FnExactTreeOkSaid : Prop := fnExactTreeOkRow.holds Try.pinned (OpenSpec.ofChange fnExactTreeOkSpec)

/-- ITS FALSE NEIGHBOUR: 'it returns false'. Refute it at one input. -/
def fnExactTreeOkWrong : ChangeSpec := { name := "fnExactTreeOk", fn := fun _ => fun
  | [d] => { results := [.lit (.bool false)], args := [d] }
  | _ => none }
def FnExactTreeOkWrongFalsely : Prop := fnExactTreeOkRow.holds Try.pinned (OpenSpec.ofChange fnExactTreeOkWrong)

/-- 'laws.FnExactActFresh': WHATEVER THE INPUT: true; the input reads as it did. -/
def fnExactActFreshSpec : ChangeSpec := { name := "fnExactActFresh", fn := fun _ => fun
  | [d1, d2] => { results := [.lit (.bool true)], args := [d1, d2] }
  | _ => none }
def fnExactActFreshRow : OpenClaim := { program := "ytlaichooanflaaa", sum := "dbe444a4e905ca7ab4a210db2aea6dc46b6f421bc3fbdde54589182240652c0d", func := "loop.example/shieling/laws.FnExactActFresh", spec := "fnExactActFresh", recurses := true, apart := false }
def FnExactActFreshSaid : Prop := fnExactActFreshRow.holds Try.pinned (OpenSpec.ofChange fnExactActFreshSpec)

/-- ITS FALSE NEIGHBOUR: 'it returns false'. Refute it at one input. -/
def fnExactActFreshWrong : ChangeSpec := { name := "fnExactActFresh", fn := fun _ => fun
  | [d1, d2] => { results := [.lit (.bool false)], args := [d1, d2] }
  | _ => none }
def FnExactActFreshWrongFalsely : Prop := fnExactActFreshRow.holds Try.pinned (OpenSpec.ofChange fnExactActFreshWrong)

/-- 'laws.FnExactSlimMoves': WHATEVER THE INPUT: true; the input reads as it did. -/
def fnExactSlimMovesSpec : ChangeSpec := { name := "fnExactSlimMoves", fn := fun _ => fun
  | [d] => { results := [.lit (.bool true)], args := [d] }
  | _ => none }
def fnExactSlimMovesRow : OpenClaim := { program := "ytlaichooanflaaa", sum := "dbe444a4e905ca7ab4a210db2aea6dc46b6f421bc3fbdde54589182240652c0d", func := "loop.example/shieling/laws.FnExactSlimMoves", spec := "fnExactSlimMoves", apart := false }
def FnExactSlimMovesSaid : Prop := fnExactSlimMovesRow.holds Try.pinned (OpenSpec.ofChange fnExactSlimMovesSpec)

/-- ITS FALSE NEIGHBOUR: 'it returns false'. Refute it at one input. -/
def fnExactSlimMovesWrong : ChangeSpec := { name := "fnExactSlimMoves", fn := fun _ => fun
  | [d] => { results := [.lit (.bool false)], args := [d] }
  | _ => none }
def FnExactSlimMovesWrongFalsely : Prop := fnExactSlimMovesRow.holds Try.pinned (OpenSpec.ofChange fnExactSlimMovesWrong)

/-- 'laws.FnExactTreeHome': WHATEVER THE INPUT: true; the input reads as it did. -/
def fnExactTreeHomeSpec : ChangeSpec := { name := "fnExactTreeHome", fn := fun _ => fun
  | [d1, d2] => { results := [.lit (.bool true)], args := [d1, d2] }
  | _ => none }
def fnExactTreeHomeRow : OpenClaim := { program := "ytlaichooanflaaa", sum := "dbe444a4e905ca7ab4a210db2aea6dc46b6f421bc3fbdde54589182240652c0d", func := "loop.example/shieling/laws.FnExactTreeHome", spec := "fnExactTreeHome", recurses := true, apart := false }
def FnExactTreeHomeSaid : Prop := fnExactTreeHomeRow.holds Try.pinned (OpenSpec.ofChange fnExactTreeHomeSpec)

/-- ITS FALSE NEIGHBOUR: 'it returns false'. Refute it at one input. -/
def fnExactTreeHomeWrong : ChangeSpec := { name := "fnExactTreeHome", fn := fun _ => fun
  | [d1, d2] => { results := [.lit (.bool false)], args := [d1, d2] }
  | _ => none }
def FnExactTreeHomeWrongFalsely : Prop := fnExactTreeHomeRow.holds Try.pinned (OpenSpec.ofChange fnExactTreeHomeWrong)

/-- 'laws.FnExactTreeFind': WHATEVER THE INPUT: true; the input reads as it did. -/
def fnExactTreeFindSpec : ChangeSpec := { name := "fnExactTreeFind", fn := fun _ => fun
  | [d1, d2, d3] => { results := [.lit (.bool true)], args := [d1, d2, d3] }
  | _ => none }
def fnExactTreeFindRow : OpenClaim := { program := "ytlaichooanflaaa", sum := "dbe444a4e905ca7ab4a210db2aea6dc46b6f421bc3fbdde54589182240652c0d", func := "loop.example/shieling/laws.FnExactTreeFind", spec := "fnExactTreeFind", recurses := true, apart := false }
def FnExactTreeFindSaid : Prop := fnExactTreeFindRow.holds Try.pinned (OpenSpec.ofChange fnExactTreeFindSpec)

/-- ITS FALSE NEIGHBOUR: 'it returns false'. Refute it at one input. -/
def fnExactTreeFindWrong : ChangeSpec := { name := "fnExactTreeFind", fn := fun _ => fun
  | [d1, d2, d3] => { results := [.lit (.bool false)], args := [d1, d2, d3] }
  | _ => none }
def FnExactTreeFindWrongFalsely : Prop := fnExactTreeFindRow.holds Try.pinned (OpenSpec.ofChange fnExactTreeFindWrong)

/-- 'laws.FnExactTreeUnder': WHATEVER THE INPUT: true; the input reads as it did. -/
def fnExactTreeUnderSpec : ChangeSpec := { name := "fnExactTreeUnder", fn := fun _ => fun
  | [d1, d2, d3] => { results := [.lit (.bool true)], args := [d1, d2, d3] }
  | _ => none }
def fnExactTreeUnderRow : OpenClaim := { program := "ytlaichooanflaaa", sum := "dbe444a4e905ca7ab4a210db2aea6dc46b6f421bc3fbdde54589182240652c0d", func := "loop.example/shieling/laws.FnExactTreeUnder", spec := "fnExactTreeUnder", recurses := true, apart := false }
def FnExactTreeUnderSaid : Prop := fnExactTreeUnderRow.holds Try.pinned (OpenSpec.ofChange fnExactTreeUnderSpec)

/-- ITS FALSE NEIGHBOUR: 'it returns false'. Refute it at one input. -/
def fnExactTreeUnderWrong : ChangeSpec := { name := "fnExactTreeUnder", fn := fun _ => fun
  | [d1, d2, d3] => { results := [.lit (.bool false)], args := [d1, d2, d3] }
  | _ => none }
def FnExactTreeUnderWrongFalsely : Prop := fnExactTreeUnderRow.holds Try.pinned (OpenSpec.ofChange fnExactTreeUnderWrong)

/-- 'laws.FnExactTreePath': WHATEVER THE INPUT: true; the input reads as it did. -/
def fnExactTreePathSpec : ChangeSpec := { name := "fnExactTreePath", fn := fun _ => fun
  | [d1, d2] => { results := [.lit (.bool true)], args := [d1, d2] }
  | _ => none }
def fnExactTreePathRow : OpenClaim := { program := "ytlaichooanflaaa", sum := "dbe444a4e905ca7ab4a210db2aea6dc46b6f421bc3fbdde54589182240652c0d", func := "loop.example/shieling/laws.FnExactTreePath", spec := "fnExactTreePath", recurses := true, apart := false }
def FnExactTreePathSaid : Prop := fnExactTreePathRow.holds Try.pinned (OpenSpec.ofChange fnExactTreePathSpec)

/-- ITS FALSE NEIGHBOUR: 'it returns false'. Refute it at one input. -/
def fnExactTreePathWrong : ChangeSpec := { name := "fnExactTreePath", fn := fun _ => fun
  | [d1, d2] => { results := [.lit (.bool false)], args := [d1, d2] }
  | _ => none }
def FnExactTreePathWrongFalsely : Prop := fnExactTreePathRow.holds Try.pinned (OpenSpec.ofChange fnExactTreePathWrong)

/-- 'laws.FnTreeSame': WHATEVER THE INPUT: true; the input reads as it did. -/
def fnTreeSameSpec : ChangeSpec := { name := "fnTreeSame", fn := fun _ => fun
  | [d] => { results := [.lit (.bool true)], args := [d] }
  | _ => none }
def fnTreeSameRow : OpenClaim := { program := "ytlaichooanflaaa", sum := "dbe444a4e905ca7ab4a210db2aea6dc46b6f421bc3fbdde54589182240652c0d", func := "loop.example/shieling/laws.FnTreeSame", spec := "fnTreeSame", apart := false }
def FnTreeSameSaid : Prop := fnTreeSameRow.holds Try.pinned (OpenSpec.ofChange fnTreeSameSpec)

/-- ITS FALSE NEIGHBOUR: 'it returns false'. Refute it at one input. -/
def fnTreeSameWrong : ChangeSpec := { name := "fnTreeSame", fn := fun _ => fun
  | [d] => { results := [.lit (.bool false)], args := [d] }
  | _ => none }
def FnTreeSameWrongFalsely : Prop := fnTreeSameRow.holds Try.pinned (OpenSpec.ofChange fnTreeSameWrong)

/-- 'laws.FnSlimTexts': WHATEVER THE INPUT: true; the input reads as it did. -/
def fnSlimTextsSpec : ChangeSpec := { name := "fnSlimTexts", fn := fun _ => fun
  | [d] => { results := [.lit (.bool true)], args := [d] }
  | _ => none }
def fnSlimTextsRow : OpenClaim := { program := "ytlaichooanflaaa", sum := "dbe444a4e905ca7ab4a210db2aea6dc46b6f421bc3fbdde54589182240652c0d", func := "loop.example/shieling/laws.FnSlimTexts", spec := "fnSlimTexts", apart := false }
def FnSlimTextsSaid : Prop := fnSlimTextsRow.holds Try.pinned (OpenSpec.ofChange fnSlimTextsSpec)

/-- ITS FALSE NEIGHBOUR: 'it returns false'. Refute it at one input. -/
def fnSlimTextsWrong : ChangeSpec := { name := "fnSlimTexts", fn := fun _ => fun
  | [d] => { results := [.lit (.bool false)], args := [d] }
  | _ => none }
def FnSlimTextsWrongFalsely : Prop := fnSlimTextsRow.holds Try.pinned (OpenSpec.ofChange fnSlimTextsWrong)

/-- 'laws.FnSlimMoves': WHATEVER THE INPUT: true; the input reads as it did. -/
def fnSlimMovesSpec : ChangeSpec := { name := "fnSlimMoves", fn := fun _ => fun
  | [d] => { results := [.lit (.bool true)], args := [d] }
  | _ => none }
def fnSlimMovesRow : OpenClaim := { program := "ytlaichooanflaaa", sum := "dbe444a4e905ca7ab4a210db2aea6dc46b6f421bc3fbdde54589182240652c0d", func := "loop.example/shieling/laws.FnSlimMoves", spec := "fnSlimMoves", apart := false }
def FnSlimMovesSaid : Prop := fnSlimMovesRow.holds Try.pinned (OpenSpec.ofChange fnSlimMovesSpec)

/-- ITS FALSE NEIGHBOUR: 'it returns false'. Refute it at one input. -/
def fnSlimMovesWrong : ChangeSpec := { name := "fnSlimMoves", fn := fun _ => fun
  | [d] => { results := [.lit (.bool false)], args := [d] }
  | _ => none }
def FnSlimMovesWrongFalsely : Prop := fnSlimMovesRow.holds Try.pinned (OpenSpec.ofChange fnSlimMovesWrong)

/-- 'laws.FnTreeUnder': WHATEVER THE INPUT: true; the input reads as it did. -/
def fnTreeUnderSpec : ChangeSpec := { name := "fnTreeUnder", fn := fun _ => fun
  | [d] => { results := [.lit (.bool true)], args := [d] }
  | _ => none }
def fnTreeUnderRow : OpenClaim := { program := "ytlaichooanflaaa", sum := "dbe444a4e905ca7ab4a210db2aea6dc46b6f421bc3fbdde54589182240652c0d", func := "loop.example/shieling/laws.FnTreeUnder", spec := "fnTreeUnder", recurses := true, apart := false }
def FnTreeUnderSaid : Prop := fnTreeUnderRow.holds Try.pinned (OpenSpec.ofChange fnTreeUnderSpec)

/-- ITS FALSE NEIGHBOUR: 'it returns false'. Refute it at one input. -/
def fnTreeUnderWrong : ChangeSpec := { name := "fnTreeUnder", fn := fun _ => fun
  | [d] => { results := [.lit (.bool false)], args := [d] }
  | _ => none }
def FnTreeUnderWrongFalsely : Prop := fnTreeUnderRow.holds Try.pinned (OpenSpec.ofChange fnTreeUnderWrong)

/-- 'laws.FnTreeBent': WHATEVER THE INPUT: true; the input reads as it did. -/
def fnTreeBentSpec : ChangeSpec := { name := "fnTreeBent", fn := fun _ => fun
  | [d] => { results := [.lit (.bool true)], args := [d] }
  | _ => none }
def fnTreeBentRow : OpenClaim := { program := "ytlaichooanflaaa", sum := "dbe444a4e905ca7ab4a210db2aea6dc46b6f421bc3fbdde54589182240652c0d", func := "loop.example/shieling/laws.FnTreeBent", spec := "fnTreeBent", recurses := true, apart := false }
def FnTreeBentSaid : Prop := fnTreeBentRow.holds Try.pinned (OpenSpec.ofChange fnTreeBentSpec)

/-- ITS FALSE NEIGHBOUR: 'it returns false'. Refute it at one input. -/
def fnTreeBentWrong : ChangeSpec := { name := "fnTreeBent", fn := fun _ => fun
  | [d] => { results := [.lit (.bool false)], args := [d] }
  | _ => none }
def FnTreeBentWrongFalsely : Prop := fnTreeBentRow.holds Try.pinned (OpenSpec.ofChange fnTreeBentWrong)

/-- 'laws.FnTreeHome': WHATEVER THE INPUT: true; the input reads as it did. -/
def fnTreeHomeSpec : ChangeSpec := { name := "fnTreeHome", fn := fun _ => fun
  | [d] => { results := [.lit (.bool true)], args := [d] }
  | _ => none }
def fnTreeHomeRow : OpenClaim := { program := "ytlaichooanflaaa", sum := "dbe444a4e905ca7ab4a210db2aea6dc46b6f421bc3fbdde54589182240652c0d", func := "loop.example/shieling/laws.FnTreeHome", spec := "fnTreeHome", recurses := true, apart := false }
def FnTreeHomeSaid : Prop := fnTreeHomeRow.holds Try.pinned (OpenSpec.ofChange fnTreeHomeSpec)

/-- ITS FALSE NEIGHBOUR: 'it returns false'. Refute it at one input. -/
def fnTreeHomeWrong : ChangeSpec := { name := "fnTreeHome", fn := fun _ => fun
  | [d] => { results := [.lit (.bool false)], args := [d] }
  | _ => none }
def FnTreeHomeWrongFalsely : Prop := fnTreeHomeRow.holds Try.pinned (OpenSpec.ofChange fnTreeHomeWrong)

/-- 'laws.FnTree': WHATEVER THE INPUT: true; the input reads as it did. -/
def fnTreeSpec : ChangeSpec := { name := "fnTree", fn := fun _ => fun
  | [d] => { results := [.lit (.bool true)], args := [d] }
  | _ => none }
def fnTreeRow : OpenClaim := { program := "ytlaichooanflaaa", sum := "dbe444a4e905ca7ab4a210db2aea6dc46b6f421bc3fbdde54589182240652c0d", func := "loop.example/shieling/laws.FnTree", spec := "fnTree", recurses := true, apart := false }
def FnTreeSaid : Prop := fnTreeRow.holds Try.pinned (OpenSpec.ofChange fnTreeSpec)

/-- ITS FALSE NEIGHBOUR: 'it returns false'. Refute it at one input. -/
def fnTreeWrong : ChangeSpec := { name := "fnTree", fn := fun _ => fun
  | [d] => { results := [.lit (.bool false)], args := [d] }
  | _ => none }
def FnTreeWrongFalsely : Prop := fnTreeRow.holds Try.pinned (OpenSpec.ofChange fnTreeWrong)

/-- 'laws.FnActFresh': WHATEVER THE INPUT: true; the input reads as it did. -/
def fnActFreshSpec : ChangeSpec := { name := "fnActFresh", fn := fun _ => fun
  | [d] => { results := [.lit (.bool true)], args := [d] }
  | _ => none }
def fnActFreshRow : OpenClaim := { program := "ytlaichooanflaaa", sum := "dbe444a4e905ca7ab4a210db2aea6dc46b6f421bc3fbdde54589182240652c0d", func := "loop.example/shieling/laws.FnActFresh", spec := "fnActFresh", unfollowed := true, recurses := true, apart := false }
def FnActFreshSaid : Prop := fnActFreshRow.holds Try.pinned (OpenSpec.ofChange fnActFreshSpec)

/-- ITS FALSE NEIGHBOUR: 'it returns false'. Refute it at one input. -/
def fnActFreshWrong : ChangeSpec := { name := "fnActFresh", fn := fun _ => fun
  | [d] => { results := [.lit (.bool false)], args := [d] }
  | _ => none }
def FnActFreshWrongFalsely : Prop := fnActFreshRow.holds Try.pinned (OpenSpec.ofChange fnActFreshWrong)

/-- 'laws.FnActTurn': WHATEVER THE INPUT: true; the input reads as it did. -/
def fnActTurnSpec : ChangeSpec := { name := "fnActTurn", fn := fun _ => fun
  | [d] => { results := [.lit (.bool true)], args := [d] }
  | _ => none }
def fnActTurnRow : OpenClaim := { program := "ytlaichooanflaaa", sum := "dbe444a4e905ca7ab4a210db2aea6dc46b6f421bc3fbdde54589182240652c0d", func := "loop.example/shieling/laws.FnActTurn", spec := "fnActTurn", unfollowed := true, recurses := true, apart := false }
def FnActTurnSaid : Prop := fnActTurnRow.holds Try.pinned (OpenSpec.ofChange fnActTurnSpec)

/-- ITS FALSE NEIGHBOUR: 'it returns false'. Refute it at one input. -/
def fnActTurnWrong : ChangeSpec := { name := "fnActTurn", fn := fun _ => fun
  | [d] => { results := [.lit (.bool false)], args := [d] }
  | _ => none }
def FnActTurnWrongFalsely : Prop := fnActTurnRow.holds Try.pinned (OpenSpec.ofChange fnActTurnWrong)

/-- 'laws.FnActCode': WHATEVER THE INPUT: true; the input reads as it did. -/
def fnActCodeSpec : ChangeSpec := { name := "fnActCode", fn := fun _ => fun
  | [d] => { results := [.lit (.bool true)], args := [d] }
  | _ => none }
def fnActCodeRow : OpenClaim := { program := "ytlaichooanflaaa", sum := "dbe444a4e905ca7ab4a210db2aea6dc46b6f421bc3fbdde54589182240652c0d", func := "loop.example/shieling/laws.FnActCode", spec := "fnActCode", unfollowed := true, recurses := true, apart := false }
def FnActCodeSaid : Prop := fnActCodeRow.holds Try.pinned (OpenSpec.ofChange fnActCodeSpec)

/-- ITS FALSE NEIGHBOUR: 'it returns false'. Refute it at one input. -/
def fnActCodeWrong : ChangeSpec := { name := "fnActCode", fn := fun _ => fun
  | [d] => { results := [.lit (.bool false)], args := [d] }
  | _ => none }
def FnActCodeWrongFalsely : Prop := fnActCodeRow.holds Try.pinned (OpenSpec.ofChange fnActCodeWrong)

/-- 'laws.FnAct': WHATEVER THE INPUT: true; the input reads as it did. -/
def fnActSpec : ChangeSpec := { name := "fnAct", fn := fun _ => fun
  | [d] => { results := [.lit (.bool true)], args := [d] }
  | _ => none }
def fnActRow : OpenClaim := { program := "ytlaichooanflaaa", sum := "dbe444a4e905ca7ab4a210db2aea6dc46b6f421bc3fbdde54589182240652c0d", func := "loop.example/shieling/laws.FnAct", spec := "fnAct", unfollowed := true, recurses := true, apart := false }
def FnActSaid : Prop := fnActRow.holds Try.pinned (OpenSpec.ofChange fnActSpec)

/-- ITS FALSE NEIGHBOUR: 'it returns false'. Refute it at one input. -/
def fnActWrong : ChangeSpec := { name := "fnAct", fn := fun _ => fun
  | [d] => { results := [.lit (.bool false)], args := [d] }
  | _ => none }
def FnActWrongFalsely : Prop := fnActRow.holds Try.pinned (OpenSpec.ofChange fnActWrong)

/-- 'laws.FnActOrder': WHATEVER THE INPUT: true; the input reads as it did. -/
def fnActOrderSpec : ChangeSpec := { name := "fnActOrder", fn := fun _ => fun
  | [d1, d2] => { results := [.lit (.bool true)], args := [d1, d2] }
  | _ => none }
def fnActOrderRow : OpenClaim := { program := "ytlaichooanflaaa", sum := "dbe444a4e905ca7ab4a210db2aea6dc46b6f421bc3fbdde54589182240652c0d", func := "loop.example/shieling/laws.FnActOrder", spec := "fnActOrder", unfollowed := true, recurses := true, apart := false }
def FnActOrderSaid : Prop := fnActOrderRow.holds Try.pinned (OpenSpec.ofChange fnActOrderSpec)

/-- ITS FALSE NEIGHBOUR: 'it returns false'. Refute it at one input. -/
def fnActOrderWrong : ChangeSpec := { name := "fnActOrder", fn := fun _ => fun
  | [d1, d2] => { results := [.lit (.bool false)], args := [d1, d2] }
  | _ => none }
def FnActOrderWrongFalsely : Prop := fnActOrderRow.holds Try.pinned (OpenSpec.ofChange fnActOrderWrong)

/-- 'laws.FnActBack': WHATEVER THE INPUT: true; the input reads as it did. -/
def fnActBackSpec : ChangeSpec := { name := "fnActBack", fn := fun _ => fun
  | [d] => { results := [.lit (.bool true)], args := [d] }
  | _ => none }
def fnActBackRow : OpenClaim := { program := "ytlaichooanflaaa", sum := "dbe444a4e905ca7ab4a210db2aea6dc46b6f421bc3fbdde54589182240652c0d", func := "loop.example/shieling/laws.FnActBack", spec := "fnActBack", unfollowed := true, recurses := true, apart := false }
def FnActBackSaid : Prop := fnActBackRow.holds Try.pinned (OpenSpec.ofChange fnActBackSpec)

/-- ITS FALSE NEIGHBOUR: 'it returns false'. Refute it at one input. -/
def fnActBackWrong : ChangeSpec := { name := "fnActBack", fn := fun _ => fun
  | [d] => { results := [.lit (.bool false)], args := [d] }
  | _ => none }
def FnActBackWrongFalsely : Prop := fnActBackRow.holds Try.pinned (OpenSpec.ofChange fnActBackWrong)

/-- 'laws.FnActAll': WHATEVER THE INPUT: true; the input reads as it did. -/
def fnActAllSpec : ChangeSpec := { name := "fnActAll", fn := fun _ => fun
  | [d1, d2] => { results := [.lit (.bool true)], args := [d1, d2] }
  | _ => none }
def fnActAllRow : OpenClaim := { program := "ytlaichooanflaaa", sum := "dbe444a4e905ca7ab4a210db2aea6dc46b6f421bc3fbdde54589182240652c0d", func := "loop.example/shieling/laws.FnActAll", spec := "fnActAll", unfollowed := true, recurses := true, apart := false }
def FnActAllSaid : Prop := fnActAllRow.holds Try.pinned (OpenSpec.ofChange fnActAllSpec)

/-- ITS FALSE NEIGHBOUR: 'it returns false'. Refute it at one input. -/
def fnActAllWrong : ChangeSpec := { name := "fnActAll", fn := fun _ => fun
  | [d1, d2] => { results := [.lit (.bool false)], args := [d1, d2] }
  | _ => none }
def FnActAllWrongFalsely : Prop := fnActAllRow.holds Try.pinned (OpenSpec.ofChange fnActAllWrong)

/-- 'laws.FnExactActDo': WHATEVER THE INPUT: true; the input reads as it did. -/
def fnExactActDoSpec : ChangeSpec := { name := "fnExactActDo", fn := fun _ => fun
  | [d1, d2] => { results := [.lit (.bool true)], args := [d1, d2] }
  | _ => none }
def fnExactActDoRow : OpenClaim := { program := "ytlaichooanflaaa", sum := "dbe444a4e905ca7ab4a210db2aea6dc46b6f421bc3fbdde54589182240652c0d", func := "loop.example/shieling/laws.FnExactActDo", spec := "fnExactActDo", unfollowed := true, recurses := true, apart := false }
def FnExactActDoSaid : Prop := fnExactActDoRow.holds Try.pinned (OpenSpec.ofChange fnExactActDoSpec)

/-- ITS FALSE NEIGHBOUR: 'it returns false'. Refute it at one input. -/
def fnExactActDoWrong : ChangeSpec := { name := "fnExactActDo", fn := fun _ => fun
  | [d1, d2] => { results := [.lit (.bool false)], args := [d1, d2] }
  | _ => none }
def FnExactActDoWrongFalsely : Prop := fnExactActDoRow.holds Try.pinned (OpenSpec.ofChange fnExactActDoWrong)

/- THE SECOND FORM. 'bulk': how many values and letters a reading holds, each counted each time it is reached (what is shared counts as often as it is met; a slice's spare places count too). A statement '..UptoSaid' is the law's where the arguments, and the package variables that the reading takes, are together of bulk at most 1048576: NARROWER than '..Said'. Prove '..Said' where nothing that the law and all that it calls make is longer than what came in: it says more and counts as full. Else prove '..UptoSaid'. A law counts once. -/
mutual
def uptoBulk {H : Type} : DataW H → Nat
  | .lit (.string bytes) => bytes.length + 1
  | .lit _ => 1
  | .nil => 1
  | .ptr d => uptoBulk d + 1
  | .slice elems spare => uptoBulkAll elems + uptoBulkAll spare + 1
  | .agg parts => uptoBulkAll parts + 1
  | .iface _ d => uptoBulk d + 1
  | .map entries => uptoBulkEntries entries + 1
  | .held _ => 1
def uptoBulkAll {H : Type} : List (DataW H) → Nat
  | [] => 0
  | d :: r => uptoBulk d + uptoBulkAll r
def uptoBulkEntries {H : Type} : List (Lit × DataW H) → Nat
  | [] => 0
  | x :: r => uptoBulkEntry x + uptoBulkEntries r
def uptoBulkEntry {H : Type} : Lit × DataW H → Nat
  | (.string bytes, d) => bytes.length + uptoBulk d + 1
  | (_, d) => uptoBulk d + 1
 end
def uptoSmall : (H : Type) → List (DataW H) → Bool := fun _ ds => decide (uptoBulkAll ds ≤ 1048576)
def OpenSpec.upto (s : _root_.Go.ChangeSpec) : _root_.Go.OpenSpec := { _root_.Go.OpenSpec.ofChange s with cond := some uptoSmall }

/-- 'laws.FnExactActAll', WHERE WHAT IT READS IS OF BULK AT MOST 1048576: true; the input reads as it did. -/
def fnExactActAllUptoRow : OpenClaim := { program := "ytlaichooanflaaa", sum := "dbe444a4e905ca7ab4a210db2aea6dc46b6f421bc3fbdde54589182240652c0d", func := "loop.example/shieling/laws.FnExactActAll", spec := "fnExactActAll", unfollowed := true, recurses := true, apart := false, narrowed := true }
def FnExactActAllUptoSaid : Prop := fnExactActAllUptoRow.holds Try.pinned (OpenSpec.upto fnExactActAllSpec)

/-- 'laws.FnExactTreeOpen', WHERE WHAT IT READS IS OF BULK AT MOST 1048576: true; the input reads as it did. -/
def fnExactTreeOpenUptoRow : OpenClaim := { program := "ytlaichooanflaaa", sum := "dbe444a4e905ca7ab4a210db2aea6dc46b6f421bc3fbdde54589182240652c0d", func := "loop.example/shieling/laws.FnExactTreeOpen", spec := "fnExactTreeOpen", apart := false, narrowed := true }
def FnExactTreeOpenUptoSaid : Prop := fnExactTreeOpenUptoRow.holds Try.pinned (OpenSpec.upto fnExactTreeOpenSpec)

/-- 'laws.FnExactLogSame', WHERE WHAT IT READS IS OF BULK AT MOST 1048576: true; the input reads as it did. -/
def fnExactLogSameUptoRow : OpenClaim := { program := "ytlaichooanflaaa", sum := "dbe444a4e905ca7ab4a210db2aea6dc46b6f421bc3fbdde54589182240652c0d", func := "loop.example/shieling/laws.FnExactLogSame", spec := "fnExactLogSame", apart := false, narrowed := true }
def FnExactLogSameUptoSaid : Prop := fnExactLogSameUptoRow.holds Try.pinned (OpenSpec.upto fnExactLogSameSpec)

/-- 'laws.FnExactTreeOk', WHERE WHAT IT READS IS OF BULK AT MOST 1048576: true; the input reads as it did. -/
def fnExactTreeOkUptoRow : OpenClaim := { program := "ytlaichooanflaaa", sum := "dbe444a4e905ca7ab4a210db2aea6dc46b6f421bc3fbdde54589182240652c0d", func := "loop.example/shieling/laws.FnExactTreeOk", spec := "fnExactTreeOk", recurses := true, apart := false, narrowed := true }
def FnExactTreeOkUptoSaid : Prop := fnExactTreeOkUptoRow.holds Try.pinned (OpenSpec.upto fnExactTreeOkSpec)

/-- 'laws.FnExactActFresh', WHERE WHAT IT READS IS OF BULK AT MOST 1048576: true; the input reads as it did. -/
def fnExactActFreshUptoRow : OpenClaim := { program := "ytlaichooanflaaa", sum := "dbe444a4e905ca7ab4a210db2aea6dc46b6f421bc3fbdde54589182240652c0d", func := "loop.example/shieling/laws.FnExactActFresh", spec := "fnExactActFresh", recurses := true, apart := false, narrowed := true }
def FnExactActFreshUptoSaid : Prop := fnExactActFreshUptoRow.holds Try.pinned (OpenSpec.upto fnExactActFreshSpec)

/-- 'laws.FnExactSlimMoves', WHERE WHAT IT READS IS OF BULK AT MOST 1048576: true; the input reads as it did. -/
def fnExactSlimMovesUptoRow : OpenClaim := { program := "ytlaichooanflaaa", sum := "dbe444a4e905ca7ab4a210db2aea6dc46b6f421bc3fbdde54589182240652c0d", func := "loop.example/shieling/laws.FnExactSlimMoves", spec := "fnExactSlimMoves", apart := false, narrowed := true }
def FnExactSlimMovesUptoSaid : Prop := fnExactSlimMovesUptoRow.holds Try.pinned (OpenSpec.upto fnExactSlimMovesSpec)

/-- 'laws.FnExactTreeHome', WHERE WHAT IT READS IS OF BULK AT MOST 1048576: true; the input reads as it did. -/
def fnExactTreeHomeUptoRow : OpenClaim := { program := "ytlaichooanflaaa", sum := "dbe444a4e905ca7ab4a210db2aea6dc46b6f421bc3fbdde54589182240652c0d", func := "loop.example/shieling/laws.FnExactTreeHome", spec := "fnExactTreeHome", recurses := true, apart := false, narrowed := true }
def FnExactTreeHomeUptoSaid : Prop := fnExactTreeHomeUptoRow.holds Try.pinned (OpenSpec.upto fnExactTreeHomeSpec)

/-- 'laws.FnExactTreeFind', WHERE WHAT IT READS IS OF BULK AT MOST 1048576: true; the input reads as it did. -/
def fnExactTreeFindUptoRow : OpenClaim := { program := "ytlaichooanflaaa", sum := "dbe444a4e905ca7ab4a210db2aea6dc46b6f421bc3fbdde54589182240652c0d", func := "loop.example/shieling/laws.FnExactTreeFind", spec := "fnExactTreeFind", recurses := true, apart := false, narrowed := true }
def FnExactTreeFindUptoSaid : Prop := fnExactTreeFindUptoRow.holds Try.pinned (OpenSpec.upto fnExactTreeFindSpec)

/-- 'laws.FnExactTreeUnder', WHERE WHAT IT READS IS OF BULK AT MOST 1048576: true; the input reads as it did. -/
def fnExactTreeUnderUptoRow : OpenClaim := { program := "ytlaichooanflaaa", sum := "dbe444a4e905ca7ab4a210db2aea6dc46b6f421bc3fbdde54589182240652c0d", func := "loop.example/shieling/laws.FnExactTreeUnder", spec := "fnExactTreeUnder", recurses := true, apart := false, narrowed := true }
def FnExactTreeUnderUptoSaid : Prop := fnExactTreeUnderUptoRow.holds Try.pinned (OpenSpec.upto fnExactTreeUnderSpec)

/-- 'laws.FnExactTreePath', WHERE WHAT IT READS IS OF BULK AT MOST 1048576: true; the input reads as it did. -/
def fnExactTreePathUptoRow : OpenClaim := { program := "ytlaichooanflaaa", sum := "dbe444a4e905ca7ab4a210db2aea6dc46b6f421bc3fbdde54589182240652c0d", func := "loop.example/shieling/laws.FnExactTreePath", spec := "fnExactTreePath", recurses := true, apart := false, narrowed := true }
def FnExactTreePathUptoSaid : Prop := fnExactTreePathUptoRow.holds Try.pinned (OpenSpec.upto fnExactTreePathSpec)

/-- 'laws.FnTreeSame', WHERE WHAT IT READS IS OF BULK AT MOST 1048576: true; the input reads as it did. -/
def fnTreeSameUptoRow : OpenClaim := { program := "ytlaichooanflaaa", sum := "dbe444a4e905ca7ab4a210db2aea6dc46b6f421bc3fbdde54589182240652c0d", func := "loop.example/shieling/laws.FnTreeSame", spec := "fnTreeSame", apart := false, narrowed := true }
def FnTreeSameUptoSaid : Prop := fnTreeSameUptoRow.holds Try.pinned (OpenSpec.upto fnTreeSameSpec)

/-- 'laws.FnSlimTexts', WHERE WHAT IT READS IS OF BULK AT MOST 1048576: true; the input reads as it did. -/
def fnSlimTextsUptoRow : OpenClaim := { program := "ytlaichooanflaaa", sum := "dbe444a4e905ca7ab4a210db2aea6dc46b6f421bc3fbdde54589182240652c0d", func := "loop.example/shieling/laws.FnSlimTexts", spec := "fnSlimTexts", apart := false, narrowed := true }
def FnSlimTextsUptoSaid : Prop := fnSlimTextsUptoRow.holds Try.pinned (OpenSpec.upto fnSlimTextsSpec)

/-- 'laws.FnSlimMoves', WHERE WHAT IT READS IS OF BULK AT MOST 1048576: true; the input reads as it did. -/
def fnSlimMovesUptoRow : OpenClaim := { program := "ytlaichooanflaaa", sum := "dbe444a4e905ca7ab4a210db2aea6dc46b6f421bc3fbdde54589182240652c0d", func := "loop.example/shieling/laws.FnSlimMoves", spec := "fnSlimMoves", apart := false, narrowed := true }
def FnSlimMovesUptoSaid : Prop := fnSlimMovesUptoRow.holds Try.pinned (OpenSpec.upto fnSlimMovesSpec)

/-- 'laws.FnTreeUnder', WHERE WHAT IT READS IS OF BULK AT MOST 1048576: true; the input reads as it did. -/
def fnTreeUnderUptoRow : OpenClaim := { program := "ytlaichooanflaaa", sum := "dbe444a4e905ca7ab4a210db2aea6dc46b6f421bc3fbdde54589182240652c0d", func := "loop.example/shieling/laws.FnTreeUnder", spec := "fnTreeUnder", recurses := true, apart := false, narrowed := true }
def FnTreeUnderUptoSaid : Prop := fnTreeUnderUptoRow.holds Try.pinned (OpenSpec.upto fnTreeUnderSpec)

/-- 'laws.FnTreeBent', WHERE WHAT IT READS IS OF BULK AT MOST 1048576: true; the input reads as it did. -/
def fnTreeBentUptoRow : OpenClaim := { program := "ytlaichooanflaaa", sum := "dbe444a4e905ca7ab4a210db2aea6dc46b6f421bc3fbdde54589182240652c0d", func := "loop.example/shieling/laws.FnTreeBent", spec := "fnTreeBent", recurses := true, apart := false, narrowed := true }
def FnTreeBentUptoSaid : Prop := fnTreeBentUptoRow.holds Try.pinned (OpenSpec.upto fnTreeBentSpec)

/-- 'laws.FnTreeHome', WHERE WHAT IT READS IS OF BULK AT MOST 1048576: true; the input reads as it did. -/
def fnTreeHomeUptoRow : OpenClaim := { program := "ytlaichooanflaaa", sum := "dbe444a4e905ca7ab4a210db2aea6dc46b6f421bc3fbdde54589182240652c0d", func := "loop.example/shieling/laws.FnTreeHome", spec := "fnTreeHome", recurses := true, apart := false, narrowed := true }
def FnTreeHomeUptoSaid : Prop := fnTreeHomeUptoRow.holds Try.pinned (OpenSpec.upto fnTreeHomeSpec)

/-- 'laws.FnTree', WHERE WHAT IT READS IS OF BULK AT MOST 1048576: true; the input reads as it did. -/
def fnTreeUptoRow : OpenClaim := { program := "ytlaichooanflaaa", sum := "dbe444a4e905ca7ab4a210db2aea6dc46b6f421bc3fbdde54589182240652c0d", func := "loop.example/shieling/laws.FnTree", spec := "fnTree", recurses := true, apart := false, narrowed := true }
def FnTreeUptoSaid : Prop := fnTreeUptoRow.holds Try.pinned (OpenSpec.upto fnTreeSpec)

/-- 'laws.FnActFresh', WHERE WHAT IT READS IS OF BULK AT MOST 1048576: true; the input reads as it did. -/
def fnActFreshUptoRow : OpenClaim := { program := "ytlaichooanflaaa", sum := "dbe444a4e905ca7ab4a210db2aea6dc46b6f421bc3fbdde54589182240652c0d", func := "loop.example/shieling/laws.FnActFresh", spec := "fnActFresh", unfollowed := true, recurses := true, apart := false, narrowed := true }
def FnActFreshUptoSaid : Prop := fnActFreshUptoRow.holds Try.pinned (OpenSpec.upto fnActFreshSpec)

/-- 'laws.FnActTurn', WHERE WHAT IT READS IS OF BULK AT MOST 1048576: true; the input reads as it did. -/
def fnActTurnUptoRow : OpenClaim := { program := "ytlaichooanflaaa", sum := "dbe444a4e905ca7ab4a210db2aea6dc46b6f421bc3fbdde54589182240652c0d", func := "loop.example/shieling/laws.FnActTurn", spec := "fnActTurn", unfollowed := true, recurses := true, apart := false, narrowed := true }
def FnActTurnUptoSaid : Prop := fnActTurnUptoRow.holds Try.pinned (OpenSpec.upto fnActTurnSpec)

/-- 'laws.FnActCode', WHERE WHAT IT READS IS OF BULK AT MOST 1048576: true; the input reads as it did. -/
def fnActCodeUptoRow : OpenClaim := { program := "ytlaichooanflaaa", sum := "dbe444a4e905ca7ab4a210db2aea6dc46b6f421bc3fbdde54589182240652c0d", func := "loop.example/shieling/laws.FnActCode", spec := "fnActCode", unfollowed := true, recurses := true, apart := false, narrowed := true }
def FnActCodeUptoSaid : Prop := fnActCodeUptoRow.holds Try.pinned (OpenSpec.upto fnActCodeSpec)

/-- 'laws.FnAct', WHERE WHAT IT READS IS OF BULK AT MOST 1048576: true; the input reads as it did. -/
def fnActUptoRow : OpenClaim := { program := "ytlaichooanflaaa", sum := "dbe444a4e905ca7ab4a210db2aea6dc46b6f421bc3fbdde54589182240652c0d", func := "loop.example/shieling/laws.FnAct", spec := "fnAct", unfollowed := true, recurses := true, apart := false, narrowed := true }
def FnActUptoSaid : Prop := fnActUptoRow.holds Try.pinned (OpenSpec.upto fnActSpec)

/-- 'laws.FnActOrder', WHERE WHAT IT READS IS OF BULK AT MOST 1048576: true; the input reads as it did. -/
def fnActOrderUptoRow : OpenClaim := { program := "ytlaichooanflaaa", sum := "dbe444a4e905ca7ab4a210db2aea6dc46b6f421bc3fbdde54589182240652c0d", func := "loop.example/shieling/laws.FnActOrder", spec := "fnActOrder", unfollowed := true, recurses := true, apart := false, narrowed := true }
def FnActOrderUptoSaid : Prop := fnActOrderUptoRow.holds Try.pinned (OpenSpec.upto fnActOrderSpec)

/-- 'laws.FnActBack', WHERE WHAT IT READS IS OF BULK AT MOST 1048576: true; the input reads as it did. -/
def fnActBackUptoRow : OpenClaim := { program := "ytlaichooanflaaa", sum := "dbe444a4e905ca7ab4a210db2aea6dc46b6f421bc3fbdde54589182240652c0d", func := "loop.example/shieling/laws.FnActBack", spec := "fnActBack", unfollowed := true, recurses := true, apart := false, narrowed := true }
def FnActBackUptoSaid : Prop := fnActBackUptoRow.holds Try.pinned (OpenSpec.upto fnActBackSpec)

/-- 'laws.FnActAll', WHERE WHAT IT READS IS OF BULK AT MOST 1048576: true; the input reads as it did. -/
def fnActAllUptoRow : OpenClaim := { program := "ytlaichooanflaaa", sum := "dbe444a4e905ca7ab4a210db2aea6dc46b6f421bc3fbdde54589182240652c0d", func := "loop.example/shieling/laws.FnActAll", spec := "fnActAll", unfollowed := true, recurses := true, apart := false, narrowed := true }
def FnActAllUptoSaid : Prop := fnActAllUptoRow.holds Try.pinned (OpenSpec.upto fnActAllSpec)

/-- 'laws.FnExactActDo', WHERE WHAT IT READS IS OF BULK AT MOST 1048576: true; the input reads as it did. -/
def fnExactActDoUptoRow : OpenClaim := { program := "ytlaichooanflaaa", sum := "dbe444a4e905ca7ab4a210db2aea6dc46b6f421bc3fbdde54589182240652c0d", func := "loop.example/shieling/laws.FnExactActDo", spec := "fnExactActDo", unfollowed := true, recurses := true, apart := false, narrowed := true }
def FnExactActDoUptoSaid : Prop := fnExactActDoUptoRow.holds Try.pinned (OpenSpec.upto fnExactActDoSpec)

end Rows
end Go.Proofs.Ytlaichooanflaaa
