/-
  NARROWER THAN 'FOR EVERY INPUT', by the rows' own cells (each row's printed sentence says how): FnRefills: laid · FnExactPractise: laid · FnExactRefillWithin: laid · FnExactAssignPupils: laid · FnExactJoinStock: laid · FnExactWorstDelay: laid · FnExactPutStock: laid · FnExactEarliestDue: laid · FnExactOnTimeMost: laid · FnStock: laid · FnTasks: laid · FnListed: laid.
  DERIVED. THE GIVEN ROWS OF THIS SEAT. 12 by the template 'for every input the law returns true; each argument reads behind the call as it read before'; 0 by the template 'total and deterministic' (their statements: YtdjdillppgijmaaDoorTotals.lean).
  GIVEN WITH THE SEED: the statements are not yours to turn. If you find one false, say at which input.
  Laid BY PROGRAM, IN A SANDBOX (cutbox-rows.mjs): the forced cells as the released guide's own fill.sh prints them over the translation a20f86b7e1e11e7c… (all of the seat's roots in one cut). By AI agents, Wed Nov 11 2026. No macro, syntax, notation, axiom, sorry.
-/
import Derived.Test.YtdjdillppgijmaaDoorChecked
import GoSem.PinnedTables
import GoSem.Claim
import GoSem.ClaimJoined
import GoSem.ClaimMapViews
import Derived.JoinedTies
import Derived.KernelRfl
namespace Go.Proofs.YtdjdillppgijmaaDoor
/- THE CELL 'sum', in the pinned program and in every row, IS THE sha256 OF THE DUMP (.gsa) THAT YtdjdillppgijmaaDoorProg.lean LOADS. Nothing in Lean hashes anything: it is a label: what it is worth is what the hold of that sum in a sandbox is worth. -/
noncomputable def Tryd.pinned : Pinned := { name := "ytdjdillppgijmaadoor", sum := "a20f86b7e1e11e7c936d922d6f1057b6cb46ea7f00b91727df181879f8406534", checked := Tryd.checked }
namespace Rows
def none {H : Type} : Left H := { results := [], args := [] }

/- WHAT THE LISTED PACKAGE-LEVEL VARIABLES READ AS WHEN THE CALL BEGINS. Each datum BY PROGRAM (the guide's laid-datum.mjs) off the statement by which the dump's own 'gosem.cut.vars' lays the variable. In a bare row this is a premise. The card (YtdjdillppgijmaaDoorCards.lean) ties it to the program's text. -/
def laid_unicode_utf8_acceptRanges {H : Type} : DataW H := .agg [.agg [.lit (.int .u8 128), .lit (.int .u8 191)], .agg [.lit (.int .u8 160), .lit (.int .u8 191)], .agg [.lit (.int .u8 128), .lit (.int .u8 159)], .agg [.lit (.int .u8 144), .lit (.int .u8 191)], .agg [.lit (.int .u8 128), .lit (.int .u8 143)], .agg [.lit (.int .u8 0), .lit (.int .u8 0)], .agg [.lit (.int .u8 0), .lit (.int .u8 0)], .agg [.lit (.int .u8 0), .lit (.int .u8 0)], .agg [.lit (.int .u8 0), .lit (.int .u8 0)], .agg [.lit (.int .u8 0), .lit (.int .u8 0)], .agg [.lit (.int .u8 0), .lit (.int .u8 0)], .agg [.lit (.int .u8 0), .lit (.int .u8 0)], .agg [.lit (.int .u8 0), .lit (.int .u8 0)], .agg [.lit (.int .u8 0), .lit (.int .u8 0)], .agg [.lit (.int .u8 0), .lit (.int .u8 0)], .agg [.lit (.int .u8 0), .lit (.int .u8 0)]]
/-- One of Go's own tables, pinned by name: the form's constant. -/
def laid_unicode_utf8_first : DataW Unit := Go.Pinned.utf8First
def laid_math_bits_deBruijn32tab {H : Type} : DataW H := .agg [.lit (.int .u8 0), .lit (.int .u8 1), .lit (.int .u8 28), .lit (.int .u8 2), .lit (.int .u8 29), .lit (.int .u8 14), .lit (.int .u8 24), .lit (.int .u8 3), .lit (.int .u8 30), .lit (.int .u8 22), .lit (.int .u8 20), .lit (.int .u8 15), .lit (.int .u8 25), .lit (.int .u8 17), .lit (.int .u8 4), .lit (.int .u8 8), .lit (.int .u8 31), .lit (.int .u8 27), .lit (.int .u8 13), .lit (.int .u8 23), .lit (.int .u8 21), .lit (.int .u8 19), .lit (.int .u8 16), .lit (.int .u8 7), .lit (.int .u8 26), .lit (.int .u8 12), .lit (.int .u8 18), .lit (.int .u8 6), .lit (.int .u8 11), .lit (.int .u8 5), .lit (.int .u8 10), .lit (.int .u8 9)]
def laid_math_bits_deBruijn64tab {H : Type} : DataW H := .agg [.lit (.int .u8 0), .lit (.int .u8 1), .lit (.int .u8 56), .lit (.int .u8 2), .lit (.int .u8 57), .lit (.int .u8 49), .lit (.int .u8 28), .lit (.int .u8 3), .lit (.int .u8 61), .lit (.int .u8 58), .lit (.int .u8 42), .lit (.int .u8 50), .lit (.int .u8 38), .lit (.int .u8 29), .lit (.int .u8 17), .lit (.int .u8 4), .lit (.int .u8 62), .lit (.int .u8 47), .lit (.int .u8 59), .lit (.int .u8 36), .lit (.int .u8 45), .lit (.int .u8 43), .lit (.int .u8 51), .lit (.int .u8 22), .lit (.int .u8 53), .lit (.int .u8 39), .lit (.int .u8 33), .lit (.int .u8 30), .lit (.int .u8 24), .lit (.int .u8 18), .lit (.int .u8 12), .lit (.int .u8 5), .lit (.int .u8 63), .lit (.int .u8 55), .lit (.int .u8 48), .lit (.int .u8 27), .lit (.int .u8 60), .lit (.int .u8 41), .lit (.int .u8 37), .lit (.int .u8 16), .lit (.int .u8 46), .lit (.int .u8 35), .lit (.int .u8 44), .lit (.int .u8 21), .lit (.int .u8 52), .lit (.int .u8 32), .lit (.int .u8 23), .lit (.int .u8 11), .lit (.int .u8 54), .lit (.int .u8 26), .lit (.int .u8 40), .lit (.int .u8 15), .lit (.int .u8 34), .lit (.int .u8 20), .lit (.int .u8 31), .lit (.int .u8 10), .lit (.int .u8 25), .lit (.int .u8 14), .lit (.int .u8 19), .lit (.int .u8 9), .lit (.int .u8 13), .lit (.int .u8 8), .lit (.int .u8 7), .lit (.int .u8 6)]
def laid_internal_strconv_uint64pow10 {H : Type} : DataW H := .agg [.lit (.int .u64 1), .lit (.int .u64 10), .lit (.int .u64 100), .lit (.int .u64 1000), .lit (.int .u64 10000), .lit (.int .u64 100000), .lit (.int .u64 1000000), .lit (.int .u64 10000000), .lit (.int .u64 100000000), .lit (.int .u64 1000000000), .lit (.int .u64 10000000000), .lit (.int .u64 100000000000), .lit (.int .u64 1000000000000), .lit (.int .u64 10000000000000), .lit (.int .u64 100000000000000), .lit (.int .u64 1000000000000000), .lit (.int .u64 10000000000000000), .lit (.int .u64 100000000000000000), .lit (.int .u64 1000000000000000000), .lit (.int .u64 10000000000000000000)]

/-- 'laws.FnRefills': WHATEVER THE INPUT: true; the input reads as it did. -/
def fnRefillsSpec : ChangeSpec := { name := "fnRefills", fn := fun _ => fun
  | [d1, d2] => { results := [.lit (.bool true)], args := [d1, d2] }
  | _ => none }
def fnRefillsRow : OpenClaim := { program := "ytdjdillppgijmaadoor", sum := "a20f86b7e1e11e7c936d922d6f1057b6cb46ea7f00b91727df181879f8406534", func := "loop.example/g01055/laws.FnRefills", spec := "fnRefills", inPlace := ["internal/bytealg.IndexByteString", "internal/bytealg.IndexString"], named := ["unicode/utf8.first", "unicode/utf8.acceptRanges", "internal/bytealg.MaxLen"], apart := false, laid := [("unicode/utf8.acceptRanges", laid_unicode_utf8_acceptRanges), ("unicode/utf8.first", laid_unicode_utf8_first)] }
def FnRefillsSaid : Prop := fnRefillsRow.holds Tryd.pinned (OpenSpec.ofChange fnRefillsSpec)

/-- ITS FALSE NEIGHBOUR: 'it returns false'. Refute it at one input. -/
def fnRefillsWrong : ChangeSpec := { name := "fnRefills", fn := fun _ => fun
  | [d1, d2] => { results := [.lit (.bool false)], args := [d1, d2] }
  | _ => none }
def FnRefillsWrongFalsely : Prop := fnRefillsRow.holds Tryd.pinned (OpenSpec.ofChange fnRefillsWrong)

/-- 'laws.FnExactPractise': WHATEVER THE INPUT: true; the input reads as it did. -/
def fnExactPractiseSpec : ChangeSpec := { name := "fnExactPractise", fn := fun _ => fun
  | [d1, d2, d3, d4, d5] => { results := [.lit (.bool true)], args := [d1, d2, d3, d4, d5] }
  | _ => none }
def fnExactPractiseRow : OpenClaim := { program := "ytdjdillppgijmaadoor", sum := "a20f86b7e1e11e7c936d922d6f1057b6cb46ea7f00b91727df181879f8406534", func := "loop.example/g01055/laws.FnExactPractise", spec := "fnExactPractise", inPlace := ["internal/bytealg.IndexByteString", "internal/bytealg.IndexString"], unfollowed := true, recurses := true, named := ["unicode/utf8.first", "unicode/utf8.acceptRanges", "internal/bytealg.MaxLen"], apart := false, laid := [("unicode/utf8.acceptRanges", laid_unicode_utf8_acceptRanges), ("unicode/utf8.first", laid_unicode_utf8_first)] }
def FnExactPractiseSaid : Prop := fnExactPractiseRow.holds Tryd.pinned (OpenSpec.ofChange fnExactPractiseSpec)

/-- ITS FALSE NEIGHBOUR: 'it returns false'. Refute it at one input. -/
def fnExactPractiseWrong : ChangeSpec := { name := "fnExactPractise", fn := fun _ => fun
  | [d1, d2, d3, d4, d5] => { results := [.lit (.bool false)], args := [d1, d2, d3, d4, d5] }
  | _ => none }
def FnExactPractiseWrongFalsely : Prop := fnExactPractiseRow.holds Tryd.pinned (OpenSpec.ofChange fnExactPractiseWrong)

/-- 'laws.FnExactRefillWithin': WHATEVER THE INPUT: true; the input reads as it did. -/
def fnExactRefillWithinSpec : ChangeSpec := { name := "fnExactRefillWithin", fn := fun _ => fun
  | [d1, d2] => { results := [.lit (.bool true)], args := [d1, d2] }
  | _ => none }
def fnExactRefillWithinRow : OpenClaim := { program := "ytdjdillppgijmaadoor", sum := "a20f86b7e1e11e7c936d922d6f1057b6cb46ea7f00b91727df181879f8406534", func := "loop.example/g01055/laws.FnExactRefillWithin", spec := "fnExactRefillWithin", inPlace := ["internal/bytealg.IndexByteString", "internal/bytealg.IndexString"], recurses := true, named := ["unicode/utf8.first", "unicode/utf8.acceptRanges", "internal/bytealg.MaxLen"], apart := false, laid := [("unicode/utf8.acceptRanges", laid_unicode_utf8_acceptRanges), ("unicode/utf8.first", laid_unicode_utf8_first)] }
def FnExactRefillWithinSaid : Prop := fnExactRefillWithinRow.holds Tryd.pinned (OpenSpec.ofChange fnExactRefillWithinSpec)

/-- ITS FALSE NEIGHBOUR: 'it returns false'. Refute it at one input. -/
def fnExactRefillWithinWrong : ChangeSpec := { name := "fnExactRefillWithin", fn := fun _ => fun
  | [d1, d2] => { results := [.lit (.bool false)], args := [d1, d2] }
  | _ => none }
def FnExactRefillWithinWrongFalsely : Prop := fnExactRefillWithinRow.holds Tryd.pinned (OpenSpec.ofChange fnExactRefillWithinWrong)

/-- 'laws.FnExactAssignPupils': WHATEVER THE INPUT: true; the input reads as it did. -/
def fnExactAssignPupilsSpec : ChangeSpec := { name := "fnExactAssignPupils", fn := fun _ => fun
  | [d1, d2, d3] => { results := [.lit (.bool true)], args := [d1, d2, d3] }
  | _ => none }
def fnExactAssignPupilsRow : OpenClaim := { program := "ytdjdillppgijmaadoor", sum := "a20f86b7e1e11e7c936d922d6f1057b6cb46ea7f00b91727df181879f8406534", func := "loop.example/g01055/laws.FnExactAssignPupils", spec := "fnExactAssignPupils", inPlace := ["internal/bytealg.IndexByteString", "internal/bytealg.IndexString"], unfollowed := true, recurses := true, named := ["unicode/utf8.first", "unicode/utf8.acceptRanges", "internal/bytealg.MaxLen"], apart := false, laid := [("unicode/utf8.acceptRanges", laid_unicode_utf8_acceptRanges), ("unicode/utf8.first", laid_unicode_utf8_first)] }
def FnExactAssignPupilsSaid : Prop := fnExactAssignPupilsRow.holds Tryd.pinned (OpenSpec.ofChange fnExactAssignPupilsSpec)

/-- ITS FALSE NEIGHBOUR: 'it returns false'. Refute it at one input. -/
def fnExactAssignPupilsWrong : ChangeSpec := { name := "fnExactAssignPupils", fn := fun _ => fun
  | [d1, d2, d3] => { results := [.lit (.bool false)], args := [d1, d2, d3] }
  | _ => none }
def FnExactAssignPupilsWrongFalsely : Prop := fnExactAssignPupilsRow.holds Tryd.pinned (OpenSpec.ofChange fnExactAssignPupilsWrong)

/-- 'laws.FnExactJoinStock': WHATEVER THE INPUT: true; the input reads as it did. -/
def fnExactJoinStockSpec : ChangeSpec := { name := "fnExactJoinStock", fn := fun _ => fun
  | [d1, d2] => { results := [.lit (.bool true)], args := [d1, d2] }
  | _ => none }
def fnExactJoinStockRow : OpenClaim := { program := "ytdjdillppgijmaadoor", sum := "a20f86b7e1e11e7c936d922d6f1057b6cb46ea7f00b91727df181879f8406534", func := "loop.example/g01055/laws.FnExactJoinStock", spec := "fnExactJoinStock", inPlace := ["internal/bytealg.IndexByteString", "internal/bytealg.IndexString", "slices.overlaps[loop.example/g01055/impl.Item]"], named := ["unicode/utf8.first", "unicode/utf8.acceptRanges", "internal/bytealg.MaxLen"], apart := false, laid := [("unicode/utf8.acceptRanges", laid_unicode_utf8_acceptRanges), ("unicode/utf8.first", laid_unicode_utf8_first)] }
def FnExactJoinStockSaid : Prop := fnExactJoinStockRow.holds Tryd.pinned (OpenSpec.ofChange fnExactJoinStockSpec)

/-- ITS FALSE NEIGHBOUR: 'it returns false'. Refute it at one input. -/
def fnExactJoinStockWrong : ChangeSpec := { name := "fnExactJoinStock", fn := fun _ => fun
  | [d1, d2] => { results := [.lit (.bool false)], args := [d1, d2] }
  | _ => none }
def FnExactJoinStockWrongFalsely : Prop := fnExactJoinStockRow.holds Tryd.pinned (OpenSpec.ofChange fnExactJoinStockWrong)

/-- 'laws.FnExactWorstDelay': WHATEVER THE INPUT: true; the input reads as it did. -/
def fnExactWorstDelaySpec : ChangeSpec := { name := "fnExactWorstDelay", fn := fun _ => fun
  | [d1, d2] => { results := [.lit (.bool true)], args := [d1, d2] }
  | _ => none }
def fnExactWorstDelayRow : OpenClaim := { program := "ytdjdillppgijmaadoor", sum := "a20f86b7e1e11e7c936d922d6f1057b6cb46ea7f00b91727df181879f8406534", func := "loop.example/g01055/laws.FnExactWorstDelay", spec := "fnExactWorstDelay", inPlace := ["internal/bytealg.IndexByteString", "internal/bytealg.IndexString"], unfollowed := true, recurses := true, named := ["unicode/utf8.first", "unicode/utf8.acceptRanges", "internal/bytealg.MaxLen"], apart := false, laid := [("unicode/utf8.acceptRanges", laid_unicode_utf8_acceptRanges), ("unicode/utf8.first", laid_unicode_utf8_first)] }
def FnExactWorstDelaySaid : Prop := fnExactWorstDelayRow.holds Tryd.pinned (OpenSpec.ofChange fnExactWorstDelaySpec)

/-- ITS FALSE NEIGHBOUR: 'it returns false'. Refute it at one input. -/
def fnExactWorstDelayWrong : ChangeSpec := { name := "fnExactWorstDelay", fn := fun _ => fun
  | [d1, d2] => { results := [.lit (.bool false)], args := [d1, d2] }
  | _ => none }
def FnExactWorstDelayWrongFalsely : Prop := fnExactWorstDelayRow.holds Tryd.pinned (OpenSpec.ofChange fnExactWorstDelayWrong)

/-- 'laws.FnExactPutStock': WHATEVER THE INPUT: true; the input reads as it did. -/
def fnExactPutStockSpec : ChangeSpec := { name := "fnExactPutStock", fn := fun _ => fun
  | [d1, d2, d3, d4] => { results := [.lit (.bool true)], args := [d1, d2, d3, d4] }
  | _ => none }
def fnExactPutStockRow : OpenClaim := { program := "ytdjdillppgijmaadoor", sum := "a20f86b7e1e11e7c936d922d6f1057b6cb46ea7f00b91727df181879f8406534", func := "loop.example/g01055/laws.FnExactPutStock", spec := "fnExactPutStock", inPlace := ["internal/bytealg.IndexByteString", "internal/bytealg.IndexString", "slices.overlaps[loop.example/g01055/impl.Item]"], named := ["unicode/utf8.first", "unicode/utf8.acceptRanges", "internal/bytealg.MaxLen"], apart := false, laid := [("unicode/utf8.acceptRanges", laid_unicode_utf8_acceptRanges), ("unicode/utf8.first", laid_unicode_utf8_first)] }
def FnExactPutStockSaid : Prop := fnExactPutStockRow.holds Tryd.pinned (OpenSpec.ofChange fnExactPutStockSpec)

/-- ITS FALSE NEIGHBOUR: 'it returns false'. Refute it at one input. -/
def fnExactPutStockWrong : ChangeSpec := { name := "fnExactPutStock", fn := fun _ => fun
  | [d1, d2, d3, d4] => { results := [.lit (.bool false)], args := [d1, d2, d3, d4] }
  | _ => none }
def FnExactPutStockWrongFalsely : Prop := fnExactPutStockRow.holds Tryd.pinned (OpenSpec.ofChange fnExactPutStockWrong)

/-- 'laws.FnExactEarliestDue': WHATEVER THE INPUT: true; the input reads as it did. -/
def fnExactEarliestDueSpec : ChangeSpec := { name := "fnExactEarliestDue", fn := fun _ => fun
  | [d] => { results := [.lit (.bool true)], args := [d] }
  | _ => none }
def fnExactEarliestDueRow : OpenClaim := { program := "ytdjdillppgijmaadoor", sum := "a20f86b7e1e11e7c936d922d6f1057b6cb46ea7f00b91727df181879f8406534", func := "loop.example/g01055/laws.FnExactEarliestDue", spec := "fnExactEarliestDue", inPlace := ["internal/bytealg.IndexByteString", "internal/bytealg.IndexString"], unfollowed := true, recurses := true, named := ["unicode/utf8.first", "unicode/utf8.acceptRanges", "internal/bytealg.MaxLen"], apart := false, laid := [("unicode/utf8.acceptRanges", laid_unicode_utf8_acceptRanges), ("unicode/utf8.first", laid_unicode_utf8_first)] }
def FnExactEarliestDueSaid : Prop := fnExactEarliestDueRow.holds Tryd.pinned (OpenSpec.ofChange fnExactEarliestDueSpec)

/-- ITS FALSE NEIGHBOUR: 'it returns false'. Refute it at one input. -/
def fnExactEarliestDueWrong : ChangeSpec := { name := "fnExactEarliestDue", fn := fun _ => fun
  | [d] => { results := [.lit (.bool false)], args := [d] }
  | _ => none }
def FnExactEarliestDueWrongFalsely : Prop := fnExactEarliestDueRow.holds Tryd.pinned (OpenSpec.ofChange fnExactEarliestDueWrong)

/-- 'laws.FnExactOnTimeMost': WHATEVER THE INPUT: true; the input reads as it did. -/
def fnExactOnTimeMostSpec : ChangeSpec := { name := "fnExactOnTimeMost", fn := fun _ => fun
  | [d1, d2] => { results := [.lit (.bool true)], args := [d1, d2] }
  | _ => none }
def fnExactOnTimeMostRow : OpenClaim := { program := "ytdjdillppgijmaadoor", sum := "a20f86b7e1e11e7c936d922d6f1057b6cb46ea7f00b91727df181879f8406534", func := "loop.example/g01055/laws.FnExactOnTimeMost", spec := "fnExactOnTimeMost", inPlace := ["internal/bytealg.IndexByteString", "internal/bytealg.IndexString"], unfollowed := true, recurses := true, named := ["unicode/utf8.first", "unicode/utf8.acceptRanges", "internal/bytealg.MaxLen"], apart := false, laid := [("unicode/utf8.acceptRanges", laid_unicode_utf8_acceptRanges), ("unicode/utf8.first", laid_unicode_utf8_first)] }
def FnExactOnTimeMostSaid : Prop := fnExactOnTimeMostRow.holds Tryd.pinned (OpenSpec.ofChange fnExactOnTimeMostSpec)

/-- ITS FALSE NEIGHBOUR: 'it returns false'. Refute it at one input. -/
def fnExactOnTimeMostWrong : ChangeSpec := { name := "fnExactOnTimeMost", fn := fun _ => fun
  | [d1, d2] => { results := [.lit (.bool false)], args := [d1, d2] }
  | _ => none }
def FnExactOnTimeMostWrongFalsely : Prop := fnExactOnTimeMostRow.holds Tryd.pinned (OpenSpec.ofChange fnExactOnTimeMostWrong)

/-- 'laws.FnStock': WHATEVER THE INPUT: true; the input reads as it did. -/
def fnStockSpec : ChangeSpec := { name := "fnStock", fn := fun _ => fun
  | [d1, d2] => { results := [.lit (.bool true)], args := [d1, d2] }
  | _ => none }
def fnStockRow : OpenClaim := { program := "ytdjdillppgijmaadoor", sum := "a20f86b7e1e11e7c936d922d6f1057b6cb46ea7f00b91727df181879f8406534", func := "loop.example/g01055/laws.FnStock", spec := "fnStock", inPlace := ["internal/bytealg.IndexByteString", "internal/bytealg.IndexString", "slices.overlaps[loop.example/g01055/impl.Item]"], named := ["unicode/utf8.first", "unicode/utf8.acceptRanges", "internal/bytealg.MaxLen"], apart := false, laid := [("unicode/utf8.acceptRanges", laid_unicode_utf8_acceptRanges), ("unicode/utf8.first", laid_unicode_utf8_first)] }
def FnStockSaid : Prop := fnStockRow.holds Tryd.pinned (OpenSpec.ofChange fnStockSpec)

/-- ITS FALSE NEIGHBOUR: 'it returns false'. Refute it at one input. -/
def fnStockWrong : ChangeSpec := { name := "fnStock", fn := fun _ => fun
  | [d1, d2] => { results := [.lit (.bool false)], args := [d1, d2] }
  | _ => none }
def FnStockWrongFalsely : Prop := fnStockRow.holds Tryd.pinned (OpenSpec.ofChange fnStockWrong)

/-- 'laws.FnTasks': WHATEVER THE INPUT: true; the input reads as it did. -/
def fnTasksSpec : ChangeSpec := { name := "fnTasks", fn := fun _ => fun
  | [d] => { results := [.lit (.bool true)], args := [d] }
  | _ => none }
def fnTasksRow : OpenClaim := { program := "ytdjdillppgijmaadoor", sum := "a20f86b7e1e11e7c936d922d6f1057b6cb46ea7f00b91727df181879f8406534", func := "loop.example/g01055/laws.FnTasks", spec := "fnTasks", inPlace := ["internal/bytealg.IndexByteString", "internal/bytealg.IndexString"], unfollowed := true, recurses := true, named := ["unicode/utf8.first", "unicode/utf8.acceptRanges", "internal/bytealg.MaxLen"], apart := false, laid := [("unicode/utf8.acceptRanges", laid_unicode_utf8_acceptRanges), ("unicode/utf8.first", laid_unicode_utf8_first)] }
def FnTasksSaid : Prop := fnTasksRow.holds Tryd.pinned (OpenSpec.ofChange fnTasksSpec)

/-- ITS FALSE NEIGHBOUR: 'it returns false'. Refute it at one input. -/
def fnTasksWrong : ChangeSpec := { name := "fnTasks", fn := fun _ => fun
  | [d] => { results := [.lit (.bool false)], args := [d] }
  | _ => none }
def FnTasksWrongFalsely : Prop := fnTasksRow.holds Tryd.pinned (OpenSpec.ofChange fnTasksWrong)

/-- 'laws.FnListed': WHATEVER THE INPUT: true; the input reads as it did. -/
def fnListedSpec : ChangeSpec := { name := "fnListed", fn := fun _ => fun
  | [d] => { results := [.lit (.bool true)], args := [d] }
  | _ => none }
def fnListedRow : OpenClaim := { program := "ytdjdillppgijmaadoor", sum := "a20f86b7e1e11e7c936d922d6f1057b6cb46ea7f00b91727df181879f8406534", func := "loop.example/g01055/laws.FnListed", spec := "fnListed", inPlace := ["internal/abi.NoEscape", "internal/bytealg.MakeNoZero"], unfollowed := true, recurses := true, named := ["internal/strconv.uint64pow10", "math/bits.deBruijn32tab", "math/bits.deBruijn64tab"], apart := false, laid := [("math/bits.deBruijn32tab", laid_math_bits_deBruijn32tab), ("math/bits.deBruijn64tab", laid_math_bits_deBruijn64tab), ("internal/strconv.uint64pow10", laid_internal_strconv_uint64pow10)] }
def FnListedSaid : Prop := fnListedRow.holds Tryd.pinned (OpenSpec.ofChange fnListedSpec)

/-- ITS FALSE NEIGHBOUR: 'it returns false'. Refute it at one input. -/
def fnListedWrong : ChangeSpec := { name := "fnListed", fn := fun _ => fun
  | [d] => { results := [.lit (.bool false)], args := [d] }
  | _ => none }
def FnListedWrongFalsely : Prop := fnListedRow.holds Tryd.pinned (OpenSpec.ofChange fnListedWrong)

/- THE SECOND FORM. 'bulk': how many values and letters a reading holds, each counted each time it is reached (what is shared counts as often as it is met; a slice's spare places count too). A statement '..UptoSaid' is the law's where the arguments, and the package variables that the reading takes, are together of bulk at most 1048576: NARROWER than '..Said'. Prove '..Said' where nothing that the law and all that it calls make is longer than what came in: it says more and counts as full. Else prove '..UptoSaid'. A law counts once. -/
mutual
def uptoBulk {H : Type} : DataW H → Nat
  | .lit (.string bytes) => bytes.length + 1
  | .lit _ => 1
  | .nil => 1
  | .ptr d => uptoBulk d + 1
  | .slice elems spare => uptoBulkAll elems + uptoBulkAll spare + 1
  | .agg parts => uptoBulkAll parts + 1
  | .iface _ d => uptoBulk d + 1
  | .map entries => uptoBulkEntries entries + 1
  | .held _ => 1
def uptoBulkAll {H : Type} : List (DataW H) → Nat
  | [] => 0
  | d :: r => uptoBulk d + uptoBulkAll r
def uptoBulkEntries {H : Type} : List (Lit × DataW H) → Nat
  | [] => 0
  | x :: r => uptoBulkEntry x + uptoBulkEntries r
def uptoBulkEntry {H : Type} : Lit × DataW H → Nat
  | (.string bytes, d) => bytes.length + uptoBulk d + 1
  | (_, d) => uptoBulk d + 1
 end
def uptoSmall : (H : Type) → List (DataW H) → Bool := fun _ ds => decide (uptoBulkAll ds ≤ 1048576)
def OpenSpec.upto (s : _root_.Go.ChangeSpec) : _root_.Go.OpenSpec := { _root_.Go.OpenSpec.ofChange s with cond := some uptoSmall }

/-- 'laws.FnRefills', WHERE WHAT IT READS IS OF BULK AT MOST 1048576: true; the input reads as it did. -/
def fnRefillsUptoRow : OpenClaim := { program := "ytdjdillppgijmaadoor", sum := "a20f86b7e1e11e7c936d922d6f1057b6cb46ea7f00b91727df181879f8406534", func := "loop.example/g01055/laws.FnRefills", spec := "fnRefills", inPlace := ["internal/bytealg.IndexByteString", "internal/bytealg.IndexString"], named := ["unicode/utf8.first", "unicode/utf8.acceptRanges", "internal/bytealg.MaxLen"], apart := false, laid := [("unicode/utf8.acceptRanges", laid_unicode_utf8_acceptRanges), ("unicode/utf8.first", laid_unicode_utf8_first)], narrowed := true }
def FnRefillsUptoSaid : Prop := fnRefillsUptoRow.holds Tryd.pinned (OpenSpec.upto fnRefillsSpec)

/-- 'laws.FnExactPractise', WHERE WHAT IT READS IS OF BULK AT MOST 1048576: true; the input reads as it did. -/
def fnExactPractiseUptoRow : OpenClaim := { program := "ytdjdillppgijmaadoor", sum := "a20f86b7e1e11e7c936d922d6f1057b6cb46ea7f00b91727df181879f8406534", func := "loop.example/g01055/laws.FnExactPractise", spec := "fnExactPractise", inPlace := ["internal/bytealg.IndexByteString", "internal/bytealg.IndexString"], unfollowed := true, recurses := true, named := ["unicode/utf8.first", "unicode/utf8.acceptRanges", "internal/bytealg.MaxLen"], apart := false, laid := [("unicode/utf8.acceptRanges", laid_unicode_utf8_acceptRanges), ("unicode/utf8.first", laid_unicode_utf8_first)], narrowed := true }
def FnExactPractiseUptoSaid : Prop := fnExactPractiseUptoRow.holds Tryd.pinned (OpenSpec.upto fnExactPractiseSpec)

/-- 'laws.FnExactRefillWithin', WHERE WHAT IT READS IS OF BULK AT MOST 1048576: true; the input reads as it did. -/
def fnExactRefillWithinUptoRow : OpenClaim := { program := "ytdjdillppgijmaadoor", sum := "a20f86b7e1e11e7c936d922d6f1057b6cb46ea7f00b91727df181879f8406534", func := "loop.example/g01055/laws.FnExactRefillWithin", spec := "fnExactRefillWithin", inPlace := ["internal/bytealg.IndexByteString", "internal/bytealg.IndexString"], recurses := true, named := ["unicode/utf8.first", "unicode/utf8.acceptRanges", "internal/bytealg.MaxLen"], apart := false, laid := [("unicode/utf8.acceptRanges", laid_unicode_utf8_acceptRanges), ("unicode/utf8.first", laid_unicode_utf8_first)], narrowed := true }
def FnExactRefillWithinUptoSaid : Prop := fnExactRefillWithinUptoRow.holds Tryd.pinned (OpenSpec.upto fnExactRefillWithinSpec)

/-- 'laws.FnExactAssignPupils', WHERE WHAT IT READS IS OF BULK AT MOST 1048576: true; the input reads as it did. -/
def fnExactAssignPupilsUptoRow : OpenClaim := { program := "ytdjdillppgijmaadoor", sum := "a20f86b7e1e11e7c936d922d6f1057b6cb46ea7f00b91727df181879f8406534", func := "loop.example/g01055/laws.FnExactAssignPupils", spec := "fnExactAssignPupils", inPlace := ["internal/bytealg.IndexByteString", "internal/bytealg.IndexString"], unfollowed := true, recurses := true, named := ["unicode/utf8.first", "unicode/utf8.acceptRanges", "internal/bytealg.MaxLen"], apart := false, laid := [("unicode/utf8.acceptRanges", laid_unicode_utf8_acceptRanges), ("unicode/utf8.first", laid_unicode_utf8_first)], narrowed := true }
def FnExactAssignPupilsUptoSaid : Prop := fnExactAssignPupilsUptoRow.holds Tryd.pinned (OpenSpec.upto fnExactAssignPupilsSpec)

/-- 'laws.FnExactJoinStock', WHERE WHAT IT READS IS OF BULK AT MOST 1048576: true; the input reads as it did. -/
def fnExactJoinStockUptoRow : OpenClaim := { program := "ytdjdillppgijmaadoor", sum := "a20f86b7e1e11e7c936d922d6f1057b6cb46ea7f00b91727df181879f8406534", func := "loop.example/g01055/laws.FnExactJoinStock", spec := "fnExactJoinStock", inPlace := ["internal/bytealg.IndexByteString", "internal/bytealg.IndexString", "slices.overlaps[loop.example/g01055/impl.Item]"], named := ["unicode/utf8.first", "unicode/utf8.acceptRanges", "internal/bytealg.MaxLen"], apart := false, laid := [("unicode/utf8.acceptRanges", laid_unicode_utf8_acceptRanges), ("unicode/utf8.first", laid_unicode_utf8_first)], narrowed := true }
def FnExactJoinStockUptoSaid : Prop := fnExactJoinStockUptoRow.holds Tryd.pinned (OpenSpec.upto fnExactJoinStockSpec)

/-- 'laws.FnExactWorstDelay', WHERE WHAT IT READS IS OF BULK AT MOST 1048576: true; the input reads as it did. -/
def fnExactWorstDelayUptoRow : OpenClaim := { program := "ytdjdillppgijmaadoor", sum := "a20f86b7e1e11e7c936d922d6f1057b6cb46ea7f00b91727df181879f8406534", func := "loop.example/g01055/laws.FnExactWorstDelay", spec := "fnExactWorstDelay", inPlace := ["internal/bytealg.IndexByteString", "internal/bytealg.IndexString"], unfollowed := true, recurses := true, named := ["unicode/utf8.first", "unicode/utf8.acceptRanges", "internal/bytealg.MaxLen"], apart := false, laid := [("unicode/utf8.acceptRanges", laid_unicode_utf8_acceptRanges), ("unicode/utf8.first", laid_unicode_utf8_first)], narrowed := true }
def FnExactWorstDelayUptoSaid : Prop := fnExactWorstDelayUptoRow.holds Tryd.pinned (OpenSpec.upto fnExactWorstDelaySpec)

/-- 'laws.FnExactPutStock', WHERE WHAT IT READS IS OF BULK AT MOST 1048576: true; the input reads as it did. -/
def fnExactPutStockUptoRow : OpenClaim := { program := "ytdjdillppgijmaadoor", sum := "a20f86b7e1e11e7c936d922d6f1057b6cb46ea7f00b91727df181879f8406534", func := "loop.example/g01055/laws.FnExactPutStock", spec := "fnExactPutStock", inPlace := ["internal/bytealg.IndexByteString", "internal/bytealg.IndexString", "slices.overlaps[loop.example/g01055/impl.Item]"], named := ["unicode/utf8.first", "unicode/utf8.acceptRanges", "internal/bytealg.MaxLen"], apart := false, laid := [("unicode/utf8.acceptRanges", laid_unicode_utf8_acceptRanges), ("unicode/utf8.first", laid_unicode_utf8_first)], narrowed := true }
def FnExactPutStockUptoSaid : Prop := fnExactPutStockUptoRow.holds Tryd.pinned (OpenSpec.upto fnExactPutStockSpec)

/-- 'laws.FnExactEarliestDue', WHERE WHAT IT READS IS OF BULK AT MOST 1048576: true; the input reads as it did. -/
def fnExactEarliestDueUptoRow : OpenClaim := { program := "ytdjdillppgijmaadoor", sum := "a20f86b7e1e11e7c936d922d6f1057b6cb46ea7f00b91727df181879f8406534", func := "loop.example/g01055/laws.FnExactEarliestDue", spec := "fnExactEarliestDue", inPlace := ["internal/bytealg.IndexByteString", "internal/bytealg.IndexString"], unfollowed := true, recurses := true, named := ["unicode/utf8.first", "unicode/utf8.acceptRanges", "internal/bytealg.MaxLen"], apart := false, laid := [("unicode/utf8.acceptRanges", laid_unicode_utf8_acceptRanges), ("unicode/utf8.first", laid_unicode_utf8_first)], narrowed := true }
def FnExactEarliestDueUptoSaid : Prop := fnExactEarliestDueUptoRow.holds Tryd.pinned (OpenSpec.upto fnExactEarliestDueSpec)

/-- 'laws.FnExactOnTimeMost', WHERE WHAT IT READS IS OF BULK AT MOST 1048576: true; the input reads as it did. -/
def fnExactOnTimeMostUptoRow : OpenClaim := { program := "ytdjdillppgijmaadoor", sum := "a20f86b7e1e11e7c936d922d6f1057b6cb46ea7f00b91727df181879f8406534", func := "loop.example/g01055/laws.FnExactOnTimeMost", spec := "fnExactOnTimeMost", inPlace := ["internal/bytealg.IndexByteString", "internal/bytealg.IndexString"], unfollowed := true, recurses := true, named := ["unicode/utf8.first", "unicode/utf8.acceptRanges", "internal/bytealg.MaxLen"], apart := false, laid := [("unicode/utf8.acceptRanges", laid_unicode_utf8_acceptRanges), ("unicode/utf8.first", laid_unicode_utf8_first)], narrowed := true }
def FnExactOnTimeMostUptoSaid : Prop := fnExactOnTimeMostUptoRow.holds Tryd.pinned (OpenSpec.upto fnExactOnTimeMostSpec)

/-- 'laws.FnStock', WHERE WHAT IT READS IS OF BULK AT MOST 1048576: true; the input reads as it did. -/
def fnStockUptoRow : OpenClaim := { program := "ytdjdillppgijmaadoor", sum := "a20f86b7e1e11e7c936d922d6f1057b6cb46ea7f00b91727df181879f8406534", func := "loop.example/g01055/laws.FnStock", spec := "fnStock", inPlace := ["internal/bytealg.IndexByteString", "internal/bytealg.IndexString", "slices.overlaps[loop.example/g01055/impl.Item]"], named := ["unicode/utf8.first", "unicode/utf8.acceptRanges", "internal/bytealg.MaxLen"], apart := false, laid := [("unicode/utf8.acceptRanges", laid_unicode_utf8_acceptRanges), ("unicode/utf8.first", laid_unicode_utf8_first)], narrowed := true }
def FnStockUptoSaid : Prop := fnStockUptoRow.holds Tryd.pinned (OpenSpec.upto fnStockSpec)

/-- 'laws.FnTasks', WHERE WHAT IT READS IS OF BULK AT MOST 1048576: true; the input reads as it did. -/
def fnTasksUptoRow : OpenClaim := { program := "ytdjdillppgijmaadoor", sum := "a20f86b7e1e11e7c936d922d6f1057b6cb46ea7f00b91727df181879f8406534", func := "loop.example/g01055/laws.FnTasks", spec := "fnTasks", inPlace := ["internal/bytealg.IndexByteString", "internal/bytealg.IndexString"], unfollowed := true, recurses := true, named := ["unicode/utf8.first", "unicode/utf8.acceptRanges", "internal/bytealg.MaxLen"], apart := false, laid := [("unicode/utf8.acceptRanges", laid_unicode_utf8_acceptRanges), ("unicode/utf8.first", laid_unicode_utf8_first)], narrowed := true }
def FnTasksUptoSaid : Prop := fnTasksUptoRow.holds Tryd.pinned (OpenSpec.upto fnTasksSpec)

/-- 'laws.FnListed', WHERE WHAT IT READS IS OF BULK AT MOST 1048576: true; the input reads as it did. -/
def fnListedUptoRow : OpenClaim := { program := "ytdjdillppgijmaadoor", sum := "a20f86b7e1e11e7c936d922d6f1057b6cb46ea7f00b91727df181879f8406534", func := "loop.example/g01055/laws.FnListed", spec := "fnListed", inPlace := ["internal/abi.NoEscape", "internal/bytealg.MakeNoZero"], unfollowed := true, recurses := true, named := ["internal/strconv.uint64pow10", "math/bits.deBruijn32tab", "math/bits.deBruijn64tab"], apart := false, laid := [("math/bits.deBruijn32tab", laid_math_bits_deBruijn32tab), ("math/bits.deBruijn64tab", laid_math_bits_deBruijn64tab), ("internal/strconv.uint64pow10", laid_internal_strconv_uint64pow10)], narrowed := true }
def FnListedUptoSaid : Prop := fnListedUptoRow.holds Tryd.pinned (OpenSpec.upto fnListedSpec)

end Rows
end Go.Proofs.YtdjdillppgijmaaDoor
