/-
  NARROWER THAN 'FOR EVERY INPUT', by the rows' own cells (each row's printed sentence says how): ShiftBridges: laid · OutageLimits: laid · DoubleTurns: laid · FlowProves: laid · FlowSwitches: laid · FlowRefuses: laid · FlowAdds: laid · ShiftBack: laid · DoubleBounds: laid · ShiftAdds: laid · OutageAdds: laid.
  DERIVED. THE GIVEN ROWS OF THIS SEAT. 11 by the template 'for every input the law returns true; each argument reads behind the call as it read before'; 0 by the template 'total and deterministic' (their statements: YtenbglfkdldheaaGreatDoorTotals.lean).
  GIVEN WITH THE SEED: the statements are not yours to turn. If you find one false, say at which input.
  Laid BY PROGRAM, IN A SANDBOX (cutbox-rows.mjs): the forced cells as the released guide's own fill.sh prints them over the translation 561cfbb1d960110f… (all of the seat's roots in one cut). By AI agents, Wed Nov 11 2026. No macro, syntax, notation, axiom, sorry.
-/
import Derived.Test.YtenbglfkdldheaaGreatDoorChecked
import GoSem.Claim
import GoSem.ClaimJoined
import GoSem.ClaimMapViews
import Derived.JoinedTies
import Derived.KernelRfl
namespace Go.Proofs.YtenbglfkdldheaaGreatDoor
/- THE CELL 'sum', in the pinned program and in every row, IS THE sha256 OF THE DUMP (.gsa) THAT YtenbglfkdldheaaGreatDoorProg.lean LOADS. Nothing in Lean hashes anything: it is a label: what it is worth is what the hold of that sum in a sandbox is worth. -/
noncomputable def Tryz.pinned : Pinned := { name := "ytenbglfkdldheaagreatdoor", sum := "561cfbb1d960110f348f3d1efc997b5da6304a606ea8d0951b51f1da22dfae54", checked := Tryz.checked }
namespace Rows
def none {H : Type} : Left H := { results := [], args := [] }

/- WHAT THE LISTED PACKAGE-LEVEL VARIABLES READ AS WHEN THE CALL BEGINS. Each datum BY PROGRAM (the guide's laid-datum.mjs) off the statement by which the dump's own 'gosem.cut.vars' lays the variable. In a bare row this is a premise. The card (YtenbglfkdldheaaGreatDoorCards.lean) ties it to the program's text. -/
def laid_math_bits_deBruijn32tab {H : Type} : DataW H := .agg [.lit (.int .u8 0), .lit (.int .u8 1), .lit (.int .u8 28), .lit (.int .u8 2), .lit (.int .u8 29), .lit (.int .u8 14), .lit (.int .u8 24), .lit (.int .u8 3), .lit (.int .u8 30), .lit (.int .u8 22), .lit (.int .u8 20), .lit (.int .u8 15), .lit (.int .u8 25), .lit (.int .u8 17), .lit (.int .u8 4), .lit (.int .u8 8), .lit (.int .u8 31), .lit (.int .u8 27), .lit (.int .u8 13), .lit (.int .u8 23), .lit (.int .u8 21), .lit (.int .u8 19), .lit (.int .u8 16), .lit (.int .u8 7), .lit (.int .u8 26), .lit (.int .u8 12), .lit (.int .u8 18), .lit (.int .u8 6), .lit (.int .u8 11), .lit (.int .u8 5), .lit (.int .u8 10), .lit (.int .u8 9)]
def laid_math_bits_deBruijn64tab {H : Type} : DataW H := .agg [.lit (.int .u8 0), .lit (.int .u8 1), .lit (.int .u8 56), .lit (.int .u8 2), .lit (.int .u8 57), .lit (.int .u8 49), .lit (.int .u8 28), .lit (.int .u8 3), .lit (.int .u8 61), .lit (.int .u8 58), .lit (.int .u8 42), .lit (.int .u8 50), .lit (.int .u8 38), .lit (.int .u8 29), .lit (.int .u8 17), .lit (.int .u8 4), .lit (.int .u8 62), .lit (.int .u8 47), .lit (.int .u8 59), .lit (.int .u8 36), .lit (.int .u8 45), .lit (.int .u8 43), .lit (.int .u8 51), .lit (.int .u8 22), .lit (.int .u8 53), .lit (.int .u8 39), .lit (.int .u8 33), .lit (.int .u8 30), .lit (.int .u8 24), .lit (.int .u8 18), .lit (.int .u8 12), .lit (.int .u8 5), .lit (.int .u8 63), .lit (.int .u8 55), .lit (.int .u8 48), .lit (.int .u8 27), .lit (.int .u8 60), .lit (.int .u8 41), .lit (.int .u8 37), .lit (.int .u8 16), .lit (.int .u8 46), .lit (.int .u8 35), .lit (.int .u8 44), .lit (.int .u8 21), .lit (.int .u8 52), .lit (.int .u8 32), .lit (.int .u8 23), .lit (.int .u8 11), .lit (.int .u8 54), .lit (.int .u8 26), .lit (.int .u8 40), .lit (.int .u8 15), .lit (.int .u8 34), .lit (.int .u8 20), .lit (.int .u8 31), .lit (.int .u8 10), .lit (.int .u8 25), .lit (.int .u8 14), .lit (.int .u8 19), .lit (.int .u8 9), .lit (.int .u8 13), .lit (.int .u8 8), .lit (.int .u8 7), .lit (.int .u8 6)]
def laid_internal_strconv_uint64pow10 {H : Type} : DataW H := .agg [.lit (.int .u64 1), .lit (.int .u64 10), .lit (.int .u64 100), .lit (.int .u64 1000), .lit (.int .u64 10000), .lit (.int .u64 100000), .lit (.int .u64 1000000), .lit (.int .u64 10000000), .lit (.int .u64 100000000), .lit (.int .u64 1000000000), .lit (.int .u64 10000000000), .lit (.int .u64 100000000000), .lit (.int .u64 1000000000000), .lit (.int .u64 10000000000000), .lit (.int .u64 100000000000000), .lit (.int .u64 1000000000000000), .lit (.int .u64 10000000000000000), .lit (.int .u64 100000000000000000), .lit (.int .u64 1000000000000000000), .lit (.int .u64 10000000000000000000)]
def laid_strconv_ErrRange {H : Type} : DataW H := .iface "*errors.errorString" (.ptr (.agg [.lit (.string [118, 97, 108, 117, 101, 32, 111, 117, 116, 32, 111, 102, 32, 114, 97, 110, 103, 101])]))
def laid_strconv_ErrSyntax {H : Type} : DataW H := .iface "*errors.errorString" (.ptr (.agg [.lit (.string [105, 110, 118, 97, 108, 105, 100, 32, 115, 121, 110, 116, 97, 120])]))

/-- 'gridhallkeep1.ShiftBridges': WHATEVER THE INPUT: true; the input reads as it did. -/
def shiftBridgesSpec : ChangeSpec := { name := "shiftBridges", fn := fun _ => fun
  | [d1, d2] => { results := [.lit (.bool true)], args := [d1, d2] }
  | _ => none }
def shiftBridgesRow : OpenClaim := { program := "ytenbglfkdldheaagreatdoor", sum := "561cfbb1d960110f348f3d1efc997b5da6304a606ea8d0951b51f1da22dfae54", func := "gridhall/gridhallkeep1.ShiftBridges", spec := "shiftBridges", inPlace := ["internal/abi.NoEscape", "slices.overlaps[gridhall/large.Rat]"], unfollowed := true, recurses := true, named := ["internal/strconv.uint64pow10", "math/bits.deBruijn32tab", "math/bits.deBruijn64tab"], apart := false, laid := [("math/bits.deBruijn32tab", laid_math_bits_deBruijn32tab), ("math/bits.deBruijn64tab", laid_math_bits_deBruijn64tab), ("internal/strconv.uint64pow10", laid_internal_strconv_uint64pow10)] }
def ShiftBridgesSaid : Prop := shiftBridgesRow.holds Tryz.pinned (OpenSpec.ofChange shiftBridgesSpec)

/-- ITS FALSE NEIGHBOUR: 'it returns false'. Refute it at one input. -/
def shiftBridgesWrong : ChangeSpec := { name := "shiftBridges", fn := fun _ => fun
  | [d1, d2] => { results := [.lit (.bool false)], args := [d1, d2] }
  | _ => none }
def ShiftBridgesWrongFalsely : Prop := shiftBridgesRow.holds Tryz.pinned (OpenSpec.ofChange shiftBridgesWrong)

/-- 'gridhallkeep1.OutageLimits': WHATEVER THE INPUT: true; the input reads as it did. -/
def outageLimitsSpec : ChangeSpec := { name := "outageLimits", fn := fun _ => fun
  | [d1, d2, d3] => { results := [.lit (.bool true)], args := [d1, d2, d3] }
  | _ => none }
def outageLimitsRow : OpenClaim := { program := "ytenbglfkdldheaagreatdoor", sum := "561cfbb1d960110f348f3d1efc997b5da6304a606ea8d0951b51f1da22dfae54", func := "gridhall/gridhallkeep1.OutageLimits", spec := "outageLimits", inPlace := ["slices.overlaps[gridhall/large.Rat]", "internal/abi.NoEscape"], unfollowed := true, recurses := true, named := ["internal/strconv.uint64pow10", "math/bits.deBruijn32tab", "math/bits.deBruijn64tab"], apart := false, laid := [("math/bits.deBruijn32tab", laid_math_bits_deBruijn32tab), ("math/bits.deBruijn64tab", laid_math_bits_deBruijn64tab), ("internal/strconv.uint64pow10", laid_internal_strconv_uint64pow10)] }
def OutageLimitsSaid : Prop := outageLimitsRow.holds Tryz.pinned (OpenSpec.ofChange outageLimitsSpec)

/-- ITS FALSE NEIGHBOUR: 'it returns false'. Refute it at one input. -/
def outageLimitsWrong : ChangeSpec := { name := "outageLimits", fn := fun _ => fun
  | [d1, d2, d3] => { results := [.lit (.bool false)], args := [d1, d2, d3] }
  | _ => none }
def OutageLimitsWrongFalsely : Prop := outageLimitsRow.holds Tryz.pinned (OpenSpec.ofChange outageLimitsWrong)

/-- 'gridhallkeep1.DoubleTurns': WHATEVER THE INPUT: true; the input reads as it did. -/
def doubleTurnsSpec : ChangeSpec := { name := "doubleTurns", fn := fun _ => fun
  | [d1, d2, d3, d4] => { results := [.lit (.bool true)], args := [d1, d2, d3, d4] }
  | _ => none }
def doubleTurnsRow : OpenClaim := { program := "ytenbglfkdldheaagreatdoor", sum := "561cfbb1d960110f348f3d1efc997b5da6304a606ea8d0951b51f1da22dfae54", func := "gridhall/gridhallkeep1.DoubleTurns", spec := "doubleTurns", inPlace := ["slices.overlaps[gridhall/large.Rat]", "internal/abi.NoEscape"], unfollowed := true, recurses := true, named := ["internal/strconv.uint64pow10", "math/bits.deBruijn32tab", "math/bits.deBruijn64tab"], apart := false, laid := [("math/bits.deBruijn32tab", laid_math_bits_deBruijn32tab), ("math/bits.deBruijn64tab", laid_math_bits_deBruijn64tab), ("internal/strconv.uint64pow10", laid_internal_strconv_uint64pow10)] }
def DoubleTurnsSaid : Prop := doubleTurnsRow.holds Tryz.pinned (OpenSpec.ofChange doubleTurnsSpec)

/-- ITS FALSE NEIGHBOUR: 'it returns false'. Refute it at one input. -/
def doubleTurnsWrong : ChangeSpec := { name := "doubleTurns", fn := fun _ => fun
  | [d1, d2, d3, d4] => { results := [.lit (.bool false)], args := [d1, d2, d3, d4] }
  | _ => none }
def DoubleTurnsWrongFalsely : Prop := doubleTurnsRow.holds Tryz.pinned (OpenSpec.ofChange doubleTurnsWrong)

/-- 'gridhallkeep1.FlowProves': WHATEVER THE INPUT: true; the input reads as it did. -/
def flowProvesSpec : ChangeSpec := { name := "flowProves", fn := fun _ => fun
  | [d1, d2] => { results := [.lit (.bool true)], args := [d1, d2] }
  | _ => none }
def flowProvesRow : OpenClaim := { program := "ytenbglfkdldheaagreatdoor", sum := "561cfbb1d960110f348f3d1efc997b5da6304a606ea8d0951b51f1da22dfae54", func := "gridhall/gridhallkeep1.FlowProves", spec := "flowProves", inPlace := ["internal/abi.NoEscape", "internal/bytealg.IndexByteString", "internal/bytealg.IndexString"], unfollowed := true, recurses := true, named := ["internal/strconv.uint64pow10", "math/bits.deBruijn32tab", "math/bits.deBruijn64tab", "internal/bytealg.MaxLen", "strconv.ErrSyntax", "strconv.ErrRange"], apart := false, laid := [("math/bits.deBruijn32tab", laid_math_bits_deBruijn32tab), ("math/bits.deBruijn64tab", laid_math_bits_deBruijn64tab), ("internal/strconv.uint64pow10", laid_internal_strconv_uint64pow10), ("strconv.ErrRange", laid_strconv_ErrRange), ("strconv.ErrSyntax", laid_strconv_ErrSyntax)] }
def FlowProvesSaid : Prop := flowProvesRow.holds Tryz.pinned (OpenSpec.ofChange flowProvesSpec)

/-- ITS FALSE NEIGHBOUR: 'it returns false'. Refute it at one input. -/
def flowProvesWrong : ChangeSpec := { name := "flowProves", fn := fun _ => fun
  | [d1, d2] => { results := [.lit (.bool false)], args := [d1, d2] }
  | _ => none }
def FlowProvesWrongFalsely : Prop := flowProvesRow.holds Tryz.pinned (OpenSpec.ofChange flowProvesWrong)

/-- 'gridhallkeep1.FlowSwitches': WHATEVER THE INPUT: true; the input reads as it did. -/
def flowSwitchesSpec : ChangeSpec := { name := "flowSwitches", fn := fun _ => fun
  | [d1, d2, d3, d4, d5] => { results := [.lit (.bool true)], args := [d1, d2, d3, d4, d5] }
  | _ => none }
def flowSwitchesRow : OpenClaim := { program := "ytenbglfkdldheaagreatdoor", sum := "561cfbb1d960110f348f3d1efc997b5da6304a606ea8d0951b51f1da22dfae54", func := "gridhall/gridhallkeep1.FlowSwitches", spec := "flowSwitches", inPlace := ["internal/abi.NoEscape", "internal/bytealg.IndexByteString", "internal/bytealg.IndexString"], unfollowed := true, recurses := true, named := ["internal/strconv.uint64pow10", "math/bits.deBruijn32tab", "math/bits.deBruijn64tab", "internal/bytealg.MaxLen", "strconv.ErrSyntax", "strconv.ErrRange"], apart := false, laid := [("math/bits.deBruijn32tab", laid_math_bits_deBruijn32tab), ("math/bits.deBruijn64tab", laid_math_bits_deBruijn64tab), ("internal/strconv.uint64pow10", laid_internal_strconv_uint64pow10), ("strconv.ErrRange", laid_strconv_ErrRange), ("strconv.ErrSyntax", laid_strconv_ErrSyntax)] }
def FlowSwitchesSaid : Prop := flowSwitchesRow.holds Tryz.pinned (OpenSpec.ofChange flowSwitchesSpec)

/-- ITS FALSE NEIGHBOUR: 'it returns false'. Refute it at one input. -/
def flowSwitchesWrong : ChangeSpec := { name := "flowSwitches", fn := fun _ => fun
  | [d1, d2, d3, d4, d5] => { results := [.lit (.bool false)], args := [d1, d2, d3, d4, d5] }
  | _ => none }
def FlowSwitchesWrongFalsely : Prop := flowSwitchesRow.holds Tryz.pinned (OpenSpec.ofChange flowSwitchesWrong)

/-- 'gridhallkeep1.FlowRefuses': WHATEVER THE INPUT: true; the input reads as it did. -/
def flowRefusesSpec : ChangeSpec := { name := "flowRefuses", fn := fun _ => fun
  | [d1, d2, d3, d4] => { results := [.lit (.bool true)], args := [d1, d2, d3, d4] }
  | _ => none }
def flowRefusesRow : OpenClaim := { program := "ytenbglfkdldheaagreatdoor", sum := "561cfbb1d960110f348f3d1efc997b5da6304a606ea8d0951b51f1da22dfae54", func := "gridhall/gridhallkeep1.FlowRefuses", spec := "flowRefuses", inPlace := ["internal/abi.NoEscape", "internal/bytealg.IndexByteString", "internal/bytealg.IndexString"], unfollowed := true, recurses := true, named := ["internal/strconv.uint64pow10", "math/bits.deBruijn32tab", "math/bits.deBruijn64tab", "internal/bytealg.MaxLen", "strconv.ErrSyntax", "strconv.ErrRange"], apart := false, laid := [("math/bits.deBruijn32tab", laid_math_bits_deBruijn32tab), ("math/bits.deBruijn64tab", laid_math_bits_deBruijn64tab), ("internal/strconv.uint64pow10", laid_internal_strconv_uint64pow10), ("strconv.ErrRange", laid_strconv_ErrRange), ("strconv.ErrSyntax", laid_strconv_ErrSyntax)] }
def FlowRefusesSaid : Prop := flowRefusesRow.holds Tryz.pinned (OpenSpec.ofChange flowRefusesSpec)

/-- ITS FALSE NEIGHBOUR: 'it returns false'. Refute it at one input. -/
def flowRefusesWrong : ChangeSpec := { name := "flowRefuses", fn := fun _ => fun
  | [d1, d2, d3, d4] => { results := [.lit (.bool false)], args := [d1, d2, d3, d4] }
  | _ => none }
def FlowRefusesWrongFalsely : Prop := flowRefusesRow.holds Tryz.pinned (OpenSpec.ofChange flowRefusesWrong)

/-- 'gridhallkeep1.FlowAdds': WHATEVER THE INPUT: true; the input reads as it did. -/
def flowAddsSpec : ChangeSpec := { name := "flowAdds", fn := fun _ => fun
  | [d1, d2, d3] => { results := [.lit (.bool true)], args := [d1, d2, d3] }
  | _ => none }
def flowAddsRow : OpenClaim := { program := "ytenbglfkdldheaagreatdoor", sum := "561cfbb1d960110f348f3d1efc997b5da6304a606ea8d0951b51f1da22dfae54", func := "gridhall/gridhallkeep1.FlowAdds", spec := "flowAdds", inPlace := ["internal/abi.NoEscape", "internal/bytealg.IndexByteString", "internal/bytealg.IndexString"], unfollowed := true, recurses := true, named := ["internal/strconv.uint64pow10", "math/bits.deBruijn32tab", "math/bits.deBruijn64tab", "internal/bytealg.MaxLen", "strconv.ErrSyntax", "strconv.ErrRange"], apart := false, laid := [("math/bits.deBruijn32tab", laid_math_bits_deBruijn32tab), ("math/bits.deBruijn64tab", laid_math_bits_deBruijn64tab), ("internal/strconv.uint64pow10", laid_internal_strconv_uint64pow10), ("strconv.ErrRange", laid_strconv_ErrRange), ("strconv.ErrSyntax", laid_strconv_ErrSyntax)] }
def FlowAddsSaid : Prop := flowAddsRow.holds Tryz.pinned (OpenSpec.ofChange flowAddsSpec)

/-- ITS FALSE NEIGHBOUR: 'it returns false'. Refute it at one input. -/
def flowAddsWrong : ChangeSpec := { name := "flowAdds", fn := fun _ => fun
  | [d1, d2, d3] => { results := [.lit (.bool false)], args := [d1, d2, d3] }
  | _ => none }
def FlowAddsWrongFalsely : Prop := flowAddsRow.holds Tryz.pinned (OpenSpec.ofChange flowAddsWrong)

/-- 'gridhallkeep1.ShiftBack': WHATEVER THE INPUT: true; the input reads as it did. -/
def shiftBackSpec : ChangeSpec := { name := "shiftBack", fn := fun _ => fun
  | [d1, d2, d3, d4] => { results := [.lit (.bool true)], args := [d1, d2, d3, d4] }
  | _ => none }
def shiftBackRow : OpenClaim := { program := "ytenbglfkdldheaagreatdoor", sum := "561cfbb1d960110f348f3d1efc997b5da6304a606ea8d0951b51f1da22dfae54", func := "gridhall/gridhallkeep1.ShiftBack", spec := "shiftBack", inPlace := ["internal/abi.NoEscape", "slices.overlaps[gridhall/large.Rat]", "internal/bytealg.IndexByteString", "internal/bytealg.IndexString"], unfollowed := true, recurses := true, named := ["internal/strconv.uint64pow10", "math/bits.deBruijn32tab", "math/bits.deBruijn64tab", "internal/bytealg.MaxLen", "strconv.ErrSyntax", "strconv.ErrRange"], apart := false, laid := [("math/bits.deBruijn32tab", laid_math_bits_deBruijn32tab), ("math/bits.deBruijn64tab", laid_math_bits_deBruijn64tab), ("internal/strconv.uint64pow10", laid_internal_strconv_uint64pow10), ("strconv.ErrRange", laid_strconv_ErrRange), ("strconv.ErrSyntax", laid_strconv_ErrSyntax)] }
def ShiftBackSaid : Prop := shiftBackRow.holds Tryz.pinned (OpenSpec.ofChange shiftBackSpec)

/-- ITS FALSE NEIGHBOUR: 'it returns false'. Refute it at one input. -/
def shiftBackWrong : ChangeSpec := { name := "shiftBack", fn := fun _ => fun
  | [d1, d2, d3, d4] => { results := [.lit (.bool false)], args := [d1, d2, d3, d4] }
  | _ => none }
def ShiftBackWrongFalsely : Prop := shiftBackRow.holds Tryz.pinned (OpenSpec.ofChange shiftBackWrong)

/-- 'gridhallkeep1.DoubleBounds': WHATEVER THE INPUT: true; the input reads as it did. -/
def doubleBoundsSpec : ChangeSpec := { name := "doubleBounds", fn := fun _ => fun
  | [d1, d2, d3, d4] => { results := [.lit (.bool true)], args := [d1, d2, d3, d4] }
  | _ => none }
def doubleBoundsRow : OpenClaim := { program := "ytenbglfkdldheaagreatdoor", sum := "561cfbb1d960110f348f3d1efc997b5da6304a606ea8d0951b51f1da22dfae54", func := "gridhall/gridhallkeep1.DoubleBounds", spec := "doubleBounds", inPlace := ["slices.overlaps[gridhall/large.Rat]", "internal/abi.NoEscape", "internal/bytealg.IndexByteString", "internal/bytealg.IndexString"], unfollowed := true, recurses := true, named := ["internal/strconv.uint64pow10", "math/bits.deBruijn32tab", "math/bits.deBruijn64tab", "internal/bytealg.MaxLen", "strconv.ErrSyntax", "strconv.ErrRange"], apart := false, laid := [("math/bits.deBruijn32tab", laid_math_bits_deBruijn32tab), ("math/bits.deBruijn64tab", laid_math_bits_deBruijn64tab), ("internal/strconv.uint64pow10", laid_internal_strconv_uint64pow10), ("strconv.ErrRange", laid_strconv_ErrRange), ("strconv.ErrSyntax", laid_strconv_ErrSyntax)] }
def DoubleBoundsSaid : Prop := doubleBoundsRow.holds Tryz.pinned (OpenSpec.ofChange doubleBoundsSpec)

/-- ITS FALSE NEIGHBOUR: 'it returns false'. Refute it at one input. -/
def doubleBoundsWrong : ChangeSpec := { name := "doubleBounds", fn := fun _ => fun
  | [d1, d2, d3, d4] => { results := [.lit (.bool false)], args := [d1, d2, d3, d4] }
  | _ => none }
def DoubleBoundsWrongFalsely : Prop := doubleBoundsRow.holds Tryz.pinned (OpenSpec.ofChange doubleBoundsWrong)

/-- 'gridhallkeep1.ShiftAdds': WHATEVER THE INPUT: true; the input reads as it did. -/
def shiftAddsSpec : ChangeSpec := { name := "shiftAdds", fn := fun _ => fun
  | [d1, d2] => { results := [.lit (.bool true)], args := [d1, d2] }
  | _ => none }
def shiftAddsRow : OpenClaim := { program := "ytenbglfkdldheaagreatdoor", sum := "561cfbb1d960110f348f3d1efc997b5da6304a606ea8d0951b51f1da22dfae54", func := "gridhall/gridhallkeep1.ShiftAdds", spec := "shiftAdds", inPlace := ["internal/abi.NoEscape", "slices.overlaps[gridhall/large.Rat]", "internal/bytealg.IndexByteString", "internal/bytealg.IndexString"], unfollowed := true, recurses := true, named := ["internal/strconv.uint64pow10", "math/bits.deBruijn32tab", "math/bits.deBruijn64tab", "internal/bytealg.MaxLen", "strconv.ErrSyntax", "strconv.ErrRange"], apart := false, laid := [("math/bits.deBruijn32tab", laid_math_bits_deBruijn32tab), ("math/bits.deBruijn64tab", laid_math_bits_deBruijn64tab), ("internal/strconv.uint64pow10", laid_internal_strconv_uint64pow10), ("strconv.ErrRange", laid_strconv_ErrRange), ("strconv.ErrSyntax", laid_strconv_ErrSyntax)] }
def ShiftAddsSaid : Prop := shiftAddsRow.holds Tryz.pinned (OpenSpec.ofChange shiftAddsSpec)

/-- ITS FALSE NEIGHBOUR: 'it returns false'. Refute it at one input. -/
def shiftAddsWrong : ChangeSpec := { name := "shiftAdds", fn := fun _ => fun
  | [d1, d2] => { results := [.lit (.bool false)], args := [d1, d2] }
  | _ => none }
def ShiftAddsWrongFalsely : Prop := shiftAddsRow.holds Tryz.pinned (OpenSpec.ofChange shiftAddsWrong)

/-- 'gridhallkeep1.OutageAdds': WHATEVER THE INPUT: true; the input reads as it did. -/
def outageAddsSpec : ChangeSpec := { name := "outageAdds", fn := fun _ => fun
  | [d1, d2, d3] => { results := [.lit (.bool true)], args := [d1, d2, d3] }
  | _ => none }
def outageAddsRow : OpenClaim := { program := "ytenbglfkdldheaagreatdoor", sum := "561cfbb1d960110f348f3d1efc997b5da6304a606ea8d0951b51f1da22dfae54", func := "gridhall/gridhallkeep1.OutageAdds", spec := "outageAdds", inPlace := ["slices.overlaps[gridhall/large.Rat]", "internal/abi.NoEscape", "internal/bytealg.IndexByteString", "internal/bytealg.IndexString"], unfollowed := true, recurses := true, named := ["internal/strconv.uint64pow10", "math/bits.deBruijn32tab", "math/bits.deBruijn64tab", "internal/bytealg.MaxLen", "strconv.ErrSyntax", "strconv.ErrRange"], apart := false, laid := [("math/bits.deBruijn32tab", laid_math_bits_deBruijn32tab), ("math/bits.deBruijn64tab", laid_math_bits_deBruijn64tab), ("internal/strconv.uint64pow10", laid_internal_strconv_uint64pow10), ("strconv.ErrRange", laid_strconv_ErrRange), ("strconv.ErrSyntax", laid_strconv_ErrSyntax)] }
def OutageAddsSaid : Prop := outageAddsRow.holds Tryz.pinned (OpenSpec.ofChange outageAddsSpec)

/-- ITS FALSE NEIGHBOUR: 'it returns false'. Refute it at one input. -/
def outageAddsWrong : ChangeSpec := { name := "outageAdds", fn := fun _ => fun
  | [d1, d2, d3] => { results := [.lit (.bool false)], args := [d1, d2, d3] }
  | _ => none }
def OutageAddsWrongFalsely : Prop := outageAddsRow.holds Tryz.pinned (OpenSpec.ofChange outageAddsWrong)

/- THE SECOND FORM. 'bulk': how many values and letters a reading holds, each counted each time it is reached (what is shared counts as often as it is met; a slice's spare places count too). A statement '..UptoSaid' is the law's where the arguments, and the package variables that the reading takes, are together of bulk at most 1048576: NARROWER than '..Said'. Prove '..Said' where nothing that the law and all that it calls make is longer than what came in: it says more and counts as full. Else prove '..UptoSaid'. A law counts once. -/
mutual
def uptoBulk {H : Type} : DataW H → Nat
  | .lit (.string bytes) => bytes.length + 1
  | .lit _ => 1
  | .nil => 1
  | .ptr d => uptoBulk d + 1
  | .slice elems spare => uptoBulkAll elems + uptoBulkAll spare + 1
  | .agg parts => uptoBulkAll parts + 1
  | .iface _ d => uptoBulk d + 1
  | .map entries => uptoBulkEntries entries + 1
  | .held _ => 1
def uptoBulkAll {H : Type} : List (DataW H) → Nat
  | [] => 0
  | d :: r => uptoBulk d + uptoBulkAll r
def uptoBulkEntries {H : Type} : List (Lit × DataW H) → Nat
  | [] => 0
  | x :: r => uptoBulkEntry x + uptoBulkEntries r
def uptoBulkEntry {H : Type} : Lit × DataW H → Nat
  | (.string bytes, d) => bytes.length + uptoBulk d + 1
  | (_, d) => uptoBulk d + 1
 end
def uptoSmall : (H : Type) → List (DataW H) → Bool := fun _ ds => decide (uptoBulkAll ds ≤ 1048576)
def OpenSpec.upto (s : _root_.Go.ChangeSpec) : _root_.Go.OpenSpec := { _root_.Go.OpenSpec.ofChange s with cond := some uptoSmall }

/-- 'gridhallkeep1.ShiftBridges', WHERE WHAT IT READS IS OF BULK AT MOST 1048576: true; the input reads as it did. -/
def shiftBridgesUptoRow : OpenClaim := { program := "ytenbglfkdldheaagreatdoor", sum := "561cfbb1d960110f348f3d1efc997b5da6304a606ea8d0951b51f1da22dfae54", func := "gridhall/gridhallkeep1.ShiftBridges", spec := "shiftBridges", inPlace := ["internal/abi.NoEscape", "slices.overlaps[gridhall/large.Rat]"], unfollowed := true, recurses := true, named := ["internal/strconv.uint64pow10", "math/bits.deBruijn32tab", "math/bits.deBruijn64tab"], apart := false, laid := [("math/bits.deBruijn32tab", laid_math_bits_deBruijn32tab), ("math/bits.deBruijn64tab", laid_math_bits_deBruijn64tab), ("internal/strconv.uint64pow10", laid_internal_strconv_uint64pow10)], narrowed := true }
def ShiftBridgesUptoSaid : Prop := shiftBridgesUptoRow.holds Tryz.pinned (OpenSpec.upto shiftBridgesSpec)

/-- 'gridhallkeep1.OutageLimits', WHERE WHAT IT READS IS OF BULK AT MOST 1048576: true; the input reads as it did. -/
def outageLimitsUptoRow : OpenClaim := { program := "ytenbglfkdldheaagreatdoor", sum := "561cfbb1d960110f348f3d1efc997b5da6304a606ea8d0951b51f1da22dfae54", func := "gridhall/gridhallkeep1.OutageLimits", spec := "outageLimits", inPlace := ["slices.overlaps[gridhall/large.Rat]", "internal/abi.NoEscape"], unfollowed := true, recurses := true, named := ["internal/strconv.uint64pow10", "math/bits.deBruijn32tab", "math/bits.deBruijn64tab"], apart := false, laid := [("math/bits.deBruijn32tab", laid_math_bits_deBruijn32tab), ("math/bits.deBruijn64tab", laid_math_bits_deBruijn64tab), ("internal/strconv.uint64pow10", laid_internal_strconv_uint64pow10)], narrowed := true }
def OutageLimitsUptoSaid : Prop := outageLimitsUptoRow.holds Tryz.pinned (OpenSpec.upto outageLimitsSpec)

/-- 'gridhallkeep1.DoubleTurns', WHERE WHAT IT READS IS OF BULK AT MOST 1048576: true; the input reads as it did. -/
def doubleTurnsUptoRow : OpenClaim := { program := "ytenbglfkdldheaagreatdoor", sum := "561cfbb1d960110f348f3d1efc997b5da6304a606ea8d0951b51f1da22dfae54", func := "gridhall/gridhallkeep1.DoubleTurns", spec := "doubleTurns", inPlace := ["slices.overlaps[gridhall/large.Rat]", "internal/abi.NoEscape"], unfollowed := true, recurses := true, named := ["internal/strconv.uint64pow10", "math/bits.deBruijn32tab", "math/bits.deBruijn64tab"], apart := false, laid := [("math/bits.deBruijn32tab", laid_math_bits_deBruijn32tab), ("math/bits.deBruijn64tab", laid_math_bits_deBruijn64tab), ("internal/strconv.uint64pow10", laid_internal_strconv_uint64pow10)], narrowed := true }
def DoubleTurnsUptoSaid : Prop := doubleTurnsUptoRow.holds Tryz.pinned (OpenSpec.upto doubleTurnsSpec)

/-- 'gridhallkeep1.FlowProves', WHERE WHAT IT READS IS OF BULK AT MOST 1048576: true; the input reads as it did. -/
def flowProvesUptoRow : OpenClaim := { program := "ytenbglfkdldheaagreatdoor", sum := "561cfbb1d960110f348f3d1efc997b5da6304a606ea8d0951b51f1da22dfae54", func := "gridhall/gridhallkeep1.FlowProves", spec := "flowProves", inPlace := ["internal/abi.NoEscape", "internal/bytealg.IndexByteString", "internal/bytealg.IndexString"], unfollowed := true, recurses := true, named := ["internal/strconv.uint64pow10", "math/bits.deBruijn32tab", "math/bits.deBruijn64tab", "internal/bytealg.MaxLen", "strconv.ErrSyntax", "strconv.ErrRange"], apart := false, laid := [("math/bits.deBruijn32tab", laid_math_bits_deBruijn32tab), ("math/bits.deBruijn64tab", laid_math_bits_deBruijn64tab), ("internal/strconv.uint64pow10", laid_internal_strconv_uint64pow10), ("strconv.ErrRange", laid_strconv_ErrRange), ("strconv.ErrSyntax", laid_strconv_ErrSyntax)], narrowed := true }
def FlowProvesUptoSaid : Prop := flowProvesUptoRow.holds Tryz.pinned (OpenSpec.upto flowProvesSpec)

/-- 'gridhallkeep1.FlowSwitches', WHERE WHAT IT READS IS OF BULK AT MOST 1048576: true; the input reads as it did. -/
def flowSwitchesUptoRow : OpenClaim := { program := "ytenbglfkdldheaagreatdoor", sum := "561cfbb1d960110f348f3d1efc997b5da6304a606ea8d0951b51f1da22dfae54", func := "gridhall/gridhallkeep1.FlowSwitches", spec := "flowSwitches", inPlace := ["internal/abi.NoEscape", "internal/bytealg.IndexByteString", "internal/bytealg.IndexString"], unfollowed := true, recurses := true, named := ["internal/strconv.uint64pow10", "math/bits.deBruijn32tab", "math/bits.deBruijn64tab", "internal/bytealg.MaxLen", "strconv.ErrSyntax", "strconv.ErrRange"], apart := false, laid := [("math/bits.deBruijn32tab", laid_math_bits_deBruijn32tab), ("math/bits.deBruijn64tab", laid_math_bits_deBruijn64tab), ("internal/strconv.uint64pow10", laid_internal_strconv_uint64pow10), ("strconv.ErrRange", laid_strconv_ErrRange), ("strconv.ErrSyntax", laid_strconv_ErrSyntax)], narrowed := true }
def FlowSwitchesUptoSaid : Prop := flowSwitchesUptoRow.holds Tryz.pinned (OpenSpec.upto flowSwitchesSpec)

/-- 'gridhallkeep1.FlowRefuses', WHERE WHAT IT READS IS OF BULK AT MOST 1048576: true; the input reads as it did. -/
def flowRefusesUptoRow : OpenClaim := { program := "ytenbglfkdldheaagreatdoor", sum := "561cfbb1d960110f348f3d1efc997b5da6304a606ea8d0951b51f1da22dfae54", func := "gridhall/gridhallkeep1.FlowRefuses", spec := "flowRefuses", inPlace := ["internal/abi.NoEscape", "internal/bytealg.IndexByteString", "internal/bytealg.IndexString"], unfollowed := true, recurses := true, named := ["internal/strconv.uint64pow10", "math/bits.deBruijn32tab", "math/bits.deBruijn64tab", "internal/bytealg.MaxLen", "strconv.ErrSyntax", "strconv.ErrRange"], apart := false, laid := [("math/bits.deBruijn32tab", laid_math_bits_deBruijn32tab), ("math/bits.deBruijn64tab", laid_math_bits_deBruijn64tab), ("internal/strconv.uint64pow10", laid_internal_strconv_uint64pow10), ("strconv.ErrRange", laid_strconv_ErrRange), ("strconv.ErrSyntax", laid_strconv_ErrSyntax)], narrowed := true }
def FlowRefusesUptoSaid : Prop := flowRefusesUptoRow.holds Tryz.pinned (OpenSpec.upto flowRefusesSpec)

/-- 'gridhallkeep1.FlowAdds', WHERE WHAT IT READS IS OF BULK AT MOST 1048576: true; the input reads as it did. -/
def flowAddsUptoRow : OpenClaim := { program := "ytenbglfkdldheaagreatdoor", sum := "561cfbb1d960110f348f3d1efc997b5da6304a606ea8d0951b51f1da22dfae54", func := "gridhall/gridhallkeep1.FlowAdds", spec := "flowAdds", inPlace := ["internal/abi.NoEscape", "internal/bytealg.IndexByteString", "internal/bytealg.IndexString"], unfollowed := true, recurses := true, named := ["internal/strconv.uint64pow10", "math/bits.deBruijn32tab", "math/bits.deBruijn64tab", "internal/bytealg.MaxLen", "strconv.ErrSyntax", "strconv.ErrRange"], apart := false, laid := [("math/bits.deBruijn32tab", laid_math_bits_deBruijn32tab), ("math/bits.deBruijn64tab", laid_math_bits_deBruijn64tab), ("internal/strconv.uint64pow10", laid_internal_strconv_uint64pow10), ("strconv.ErrRange", laid_strconv_ErrRange), ("strconv.ErrSyntax", laid_strconv_ErrSyntax)], narrowed := true }
def FlowAddsUptoSaid : Prop := flowAddsUptoRow.holds Tryz.pinned (OpenSpec.upto flowAddsSpec)

/-- 'gridhallkeep1.ShiftBack', WHERE WHAT IT READS IS OF BULK AT MOST 1048576: true; the input reads as it did. -/
def shiftBackUptoRow : OpenClaim := { program := "ytenbglfkdldheaagreatdoor", sum := "561cfbb1d960110f348f3d1efc997b5da6304a606ea8d0951b51f1da22dfae54", func := "gridhall/gridhallkeep1.ShiftBack", spec := "shiftBack", inPlace := ["internal/abi.NoEscape", "slices.overlaps[gridhall/large.Rat]", "internal/bytealg.IndexByteString", "internal/bytealg.IndexString"], unfollowed := true, recurses := true, named := ["internal/strconv.uint64pow10", "math/bits.deBruijn32tab", "math/bits.deBruijn64tab", "internal/bytealg.MaxLen", "strconv.ErrSyntax", "strconv.ErrRange"], apart := false, laid := [("math/bits.deBruijn32tab", laid_math_bits_deBruijn32tab), ("math/bits.deBruijn64tab", laid_math_bits_deBruijn64tab), ("internal/strconv.uint64pow10", laid_internal_strconv_uint64pow10), ("strconv.ErrRange", laid_strconv_ErrRange), ("strconv.ErrSyntax", laid_strconv_ErrSyntax)], narrowed := true }
def ShiftBackUptoSaid : Prop := shiftBackUptoRow.holds Tryz.pinned (OpenSpec.upto shiftBackSpec)

/-- 'gridhallkeep1.DoubleBounds', WHERE WHAT IT READS IS OF BULK AT MOST 1048576: true; the input reads as it did. -/
def doubleBoundsUptoRow : OpenClaim := { program := "ytenbglfkdldheaagreatdoor", sum := "561cfbb1d960110f348f3d1efc997b5da6304a606ea8d0951b51f1da22dfae54", func := "gridhall/gridhallkeep1.DoubleBounds", spec := "doubleBounds", inPlace := ["slices.overlaps[gridhall/large.Rat]", "internal/abi.NoEscape", "internal/bytealg.IndexByteString", "internal/bytealg.IndexString"], unfollowed := true, recurses := true, named := ["internal/strconv.uint64pow10", "math/bits.deBruijn32tab", "math/bits.deBruijn64tab", "internal/bytealg.MaxLen", "strconv.ErrSyntax", "strconv.ErrRange"], apart := false, laid := [("math/bits.deBruijn32tab", laid_math_bits_deBruijn32tab), ("math/bits.deBruijn64tab", laid_math_bits_deBruijn64tab), ("internal/strconv.uint64pow10", laid_internal_strconv_uint64pow10), ("strconv.ErrRange", laid_strconv_ErrRange), ("strconv.ErrSyntax", laid_strconv_ErrSyntax)], narrowed := true }
def DoubleBoundsUptoSaid : Prop := doubleBoundsUptoRow.holds Tryz.pinned (OpenSpec.upto doubleBoundsSpec)

/-- 'gridhallkeep1.ShiftAdds', WHERE WHAT IT READS IS OF BULK AT MOST 1048576: true; the input reads as it did. -/
def shiftAddsUptoRow : OpenClaim := { program := "ytenbglfkdldheaagreatdoor", sum := "561cfbb1d960110f348f3d1efc997b5da6304a606ea8d0951b51f1da22dfae54", func := "gridhall/gridhallkeep1.ShiftAdds", spec := "shiftAdds", inPlace := ["internal/abi.NoEscape", "slices.overlaps[gridhall/large.Rat]", "internal/bytealg.IndexByteString", "internal/bytealg.IndexString"], unfollowed := true, recurses := true, named := ["internal/strconv.uint64pow10", "math/bits.deBruijn32tab", "math/bits.deBruijn64tab", "internal/bytealg.MaxLen", "strconv.ErrSyntax", "strconv.ErrRange"], apart := false, laid := [("math/bits.deBruijn32tab", laid_math_bits_deBruijn32tab), ("math/bits.deBruijn64tab", laid_math_bits_deBruijn64tab), ("internal/strconv.uint64pow10", laid_internal_strconv_uint64pow10), ("strconv.ErrRange", laid_strconv_ErrRange), ("strconv.ErrSyntax", laid_strconv_ErrSyntax)], narrowed := true }
def ShiftAddsUptoSaid : Prop := shiftAddsUptoRow.holds Tryz.pinned (OpenSpec.upto shiftAddsSpec)

/-- 'gridhallkeep1.OutageAdds', WHERE WHAT IT READS IS OF BULK AT MOST 1048576: true; the input reads as it did. -/
def outageAddsUptoRow : OpenClaim := { program := "ytenbglfkdldheaagreatdoor", sum := "561cfbb1d960110f348f3d1efc997b5da6304a606ea8d0951b51f1da22dfae54", func := "gridhall/gridhallkeep1.OutageAdds", spec := "outageAdds", inPlace := ["slices.overlaps[gridhall/large.Rat]", "internal/abi.NoEscape", "internal/bytealg.IndexByteString", "internal/bytealg.IndexString"], unfollowed := true, recurses := true, named := ["internal/strconv.uint64pow10", "math/bits.deBruijn32tab", "math/bits.deBruijn64tab", "internal/bytealg.MaxLen", "strconv.ErrSyntax", "strconv.ErrRange"], apart := false, laid := [("math/bits.deBruijn32tab", laid_math_bits_deBruijn32tab), ("math/bits.deBruijn64tab", laid_math_bits_deBruijn64tab), ("internal/strconv.uint64pow10", laid_internal_strconv_uint64pow10), ("strconv.ErrRange", laid_strconv_ErrRange), ("strconv.ErrSyntax", laid_strconv_ErrSyntax)], narrowed := true }
def OutageAddsUptoSaid : Prop := outageAddsUptoRow.holds Tryz.pinned (OpenSpec.upto outageAddsSpec)

end Rows
end Go.Proofs.YtenbglfkdldheaaGreatDoor
