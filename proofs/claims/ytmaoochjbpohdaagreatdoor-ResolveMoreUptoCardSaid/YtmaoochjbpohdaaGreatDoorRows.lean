/-
  NARROWER THAN 'FOR EVERY INPUT', by the rows' own cells (each row's printed sentence says how): ResolveSelf: laid · ResolveMore: laid · ResolveCan: laid · ResolvePairs: laid · ResolveTypes: laid · PolicyNone: laid · PolicyHolds: laid · PolicySteps: laid · PolicyImplies: laid · PolicyTexts: laid · PolicyAdmits: laid · PolicySound: laid · PolicyBegins: laid.
  DERIVED. THE GIVEN ROWS OF THIS SEAT. 13 by the template 'for every input the law returns true; each argument reads behind the call as it read before'; 0 by the template 'total and deterministic' (their statements: YtmaoochjbpohdaaGreatDoorTotals.lean).
  GIVEN WITH THE SEED: the statements are not yours to turn. If you find one false, say at which input.
  Laid BY PROGRAM, IN A SANDBOX (cutbox-rows.mjs): the forced cells as the released guide's own fill.sh prints them over the translation 9b32e1d11d3291a9… (all of the seat's roots in one cut). By AI agents, Wed Nov 11 2026. No macro, syntax, notation, axiom, sorry.
-/
import Derived.Test.YtmaoochjbpohdaaGreatDoorChecked
import GoSem.Claim
import GoSem.ClaimJoined
import GoSem.ClaimMapViews
import Derived.JoinedTies
import Derived.KernelRfl
namespace Go.Proofs.YtmaoochjbpohdaaGreatDoor
/- THE CELL 'sum', in the pinned program and in every row, IS THE sha256 OF THE DUMP (.gsa) THAT YtmaoochjbpohdaaGreatDoorProg.lean LOADS. Nothing in Lean hashes anything: it is a label: what it is worth is what the hold of that sum in a sandbox is worth. -/
noncomputable def Tryz.pinned : Pinned := { name := "ytmaoochjbpohdaagreatdoor", sum := "9b32e1d11d3291a9eb20706712d51e3a3fb2a7d783aea78d49428e72c8e2650a", checked := Tryz.checked }
namespace Rows
def none {H : Type} : Left H := { results := [], args := [] }

/- WHAT THE LISTED PACKAGE-LEVEL VARIABLES READ AS WHEN THE CALL BEGINS. Each datum BY PROGRAM (the guide's laid-datum.mjs) off the statement by which the dump's own 'gosem.cut.vars' lays the variable. In a bare row this is a premise. The card (YtmaoochjbpohdaaGreatDoorCards.lean) ties it to the program's text. -/
def laid_math_bits_deBruijn32tab {H : Type} : DataW H := .agg [.lit (.int .u8 0), .lit (.int .u8 1), .lit (.int .u8 28), .lit (.int .u8 2), .lit (.int .u8 29), .lit (.int .u8 14), .lit (.int .u8 24), .lit (.int .u8 3), .lit (.int .u8 30), .lit (.int .u8 22), .lit (.int .u8 20), .lit (.int .u8 15), .lit (.int .u8 25), .lit (.int .u8 17), .lit (.int .u8 4), .lit (.int .u8 8), .lit (.int .u8 31), .lit (.int .u8 27), .lit (.int .u8 13), .lit (.int .u8 23), .lit (.int .u8 21), .lit (.int .u8 19), .lit (.int .u8 16), .lit (.int .u8 7), .lit (.int .u8 26), .lit (.int .u8 12), .lit (.int .u8 18), .lit (.int .u8 6), .lit (.int .u8 11), .lit (.int .u8 5), .lit (.int .u8 10), .lit (.int .u8 9)]
def laid_math_bits_deBruijn64tab {H : Type} : DataW H := .agg [.lit (.int .u8 0), .lit (.int .u8 1), .lit (.int .u8 56), .lit (.int .u8 2), .lit (.int .u8 57), .lit (.int .u8 49), .lit (.int .u8 28), .lit (.int .u8 3), .lit (.int .u8 61), .lit (.int .u8 58), .lit (.int .u8 42), .lit (.int .u8 50), .lit (.int .u8 38), .lit (.int .u8 29), .lit (.int .u8 17), .lit (.int .u8 4), .lit (.int .u8 62), .lit (.int .u8 47), .lit (.int .u8 59), .lit (.int .u8 36), .lit (.int .u8 45), .lit (.int .u8 43), .lit (.int .u8 51), .lit (.int .u8 22), .lit (.int .u8 53), .lit (.int .u8 39), .lit (.int .u8 33), .lit (.int .u8 30), .lit (.int .u8 24), .lit (.int .u8 18), .lit (.int .u8 12), .lit (.int .u8 5), .lit (.int .u8 63), .lit (.int .u8 55), .lit (.int .u8 48), .lit (.int .u8 27), .lit (.int .u8 60), .lit (.int .u8 41), .lit (.int .u8 37), .lit (.int .u8 16), .lit (.int .u8 46), .lit (.int .u8 35), .lit (.int .u8 44), .lit (.int .u8 21), .lit (.int .u8 52), .lit (.int .u8 32), .lit (.int .u8 23), .lit (.int .u8 11), .lit (.int .u8 54), .lit (.int .u8 26), .lit (.int .u8 40), .lit (.int .u8 15), .lit (.int .u8 34), .lit (.int .u8 20), .lit (.int .u8 31), .lit (.int .u8 10), .lit (.int .u8 25), .lit (.int .u8 14), .lit (.int .u8 19), .lit (.int .u8 9), .lit (.int .u8 13), .lit (.int .u8 8), .lit (.int .u8 7), .lit (.int .u8 6)]
def laid_internal_strconv_uint64pow10 {H : Type} : DataW H := .agg [.lit (.int .u64 1), .lit (.int .u64 10), .lit (.int .u64 100), .lit (.int .u64 1000), .lit (.int .u64 10000), .lit (.int .u64 100000), .lit (.int .u64 1000000), .lit (.int .u64 10000000), .lit (.int .u64 100000000), .lit (.int .u64 1000000000), .lit (.int .u64 10000000000), .lit (.int .u64 100000000000), .lit (.int .u64 1000000000000), .lit (.int .u64 10000000000000), .lit (.int .u64 100000000000000), .lit (.int .u64 1000000000000000), .lit (.int .u64 10000000000000000), .lit (.int .u64 100000000000000000), .lit (.int .u64 1000000000000000000), .lit (.int .u64 10000000000000000000)]
def laid_suffragan_parse_words {H : Type} : DataW H := .agg [.lit (.string [110, 117, 108, 108]), .lit (.string [98, 111, 111, 108]), .lit (.string [105, 110, 116]), .lit (.string [108, 111, 110, 103]), .lit (.string [98, 121, 116, 101, 115]), .lit (.string [116, 101, 120, 116]), .lit (.string []), .lit (.string []), .lit (.string []), .lit (.string [101, 110, 117, 109]), .lit (.string [102, 105, 120, 101, 100]), .lit (.string [114, 101, 99, 111, 114, 100])]
def laid_suffragan_policy_names {H : Type} : DataW H := .agg [.lit (.string [110, 111, 110, 101]), .lit (.string [98, 97, 99, 107, 119, 97, 114, 100]), .lit (.string [102, 111, 114, 119, 97, 114, 100]), .lit (.string [102, 117, 108, 108]), .lit (.string [98, 97, 99, 107, 119, 97, 114, 100, 45, 97, 108, 108]), .lit (.string [102, 111, 114, 119, 97, 114, 100, 45, 97, 108, 108]), .lit (.string [102, 117, 108, 108, 45, 97, 108, 108])]

/-- 'suffraganlaw10.ResolveSelf': WHATEVER THE INPUT: true; the input reads as it did. -/
def resolveSelfSpec : ChangeSpec := { name := "resolveSelf", fn := fun _ => fun
  | [d] => { results := [.lit (.bool true)], args := [d] }
  | _ => none }
def resolveSelfRow : OpenClaim := { program := "ytmaoochjbpohdaagreatdoor", sum := "9b32e1d11d3291a9eb20706712d51e3a3fb2a7d783aea78d49428e72c8e2650a", func := "suffragan/suffraganlaw10.ResolveSelf", spec := "resolveSelf", inPlace := ["internal/abi.NoEscape", "internal/bytealg.MakeNoZero", "internal/bytealg.IndexByteString"], unfollowed := true, recurses := true, named := ["suffragan/parse.words", "internal/strconv.uint64pow10", "math/bits.deBruijn32tab", "math/bits.deBruijn64tab"], plainKeys := false, apart := false, laid := [("math/bits.deBruijn32tab", laid_math_bits_deBruijn32tab), ("math/bits.deBruijn64tab", laid_math_bits_deBruijn64tab), ("internal/strconv.uint64pow10", laid_internal_strconv_uint64pow10), ("suffragan/parse.words", laid_suffragan_parse_words)] }
def ResolveSelfSaid : Prop := resolveSelfRow.holds Tryz.pinned (OpenSpec.ofChange resolveSelfSpec)

/-- ITS FALSE NEIGHBOUR: 'it returns false'. Refute it at one input. -/
def resolveSelfWrong : ChangeSpec := { name := "resolveSelf", fn := fun _ => fun
  | [d] => { results := [.lit (.bool false)], args := [d] }
  | _ => none }
def ResolveSelfWrongFalsely : Prop := resolveSelfRow.holds Tryz.pinned (OpenSpec.ofChange resolveSelfWrong)

/-- 'suffraganlaw10.ResolveMore': WHATEVER THE INPUT: true; the input reads as it did. -/
def resolveMoreSpec : ChangeSpec := { name := "resolveMore", fn := fun _ => fun
  | [d1, d2] => { results := [.lit (.bool true)], args := [d1, d2] }
  | _ => none }
def resolveMoreRow : OpenClaim := { program := "ytmaoochjbpohdaagreatdoor", sum := "9b32e1d11d3291a9eb20706712d51e3a3fb2a7d783aea78d49428e72c8e2650a", func := "suffragan/suffraganlaw10.ResolveMore", spec := "resolveMore", inPlace := ["internal/abi.NoEscape", "internal/bytealg.MakeNoZero", "internal/bytealg.IndexByteString"], unfollowed := true, recurses := true, named := ["suffragan/parse.words", "internal/strconv.uint64pow10", "math/bits.deBruijn32tab", "math/bits.deBruijn64tab"], plainKeys := false, apart := false, laid := [("math/bits.deBruijn32tab", laid_math_bits_deBruijn32tab), ("math/bits.deBruijn64tab", laid_math_bits_deBruijn64tab), ("internal/strconv.uint64pow10", laid_internal_strconv_uint64pow10), ("suffragan/parse.words", laid_suffragan_parse_words)] }
def ResolveMoreSaid : Prop := resolveMoreRow.holds Tryz.pinned (OpenSpec.ofChange resolveMoreSpec)

/-- ITS FALSE NEIGHBOUR: 'it returns false'. Refute it at one input. -/
def resolveMoreWrong : ChangeSpec := { name := "resolveMore", fn := fun _ => fun
  | [d1, d2] => { results := [.lit (.bool false)], args := [d1, d2] }
  | _ => none }
def ResolveMoreWrongFalsely : Prop := resolveMoreRow.holds Tryz.pinned (OpenSpec.ofChange resolveMoreWrong)

/-- 'suffraganlaw10.ResolveCan': WHATEVER THE INPUT: true; the input reads as it did. -/
def resolveCanSpec : ChangeSpec := { name := "resolveCan", fn := fun _ => fun
  | [d1, d2] => { results := [.lit (.bool true)], args := [d1, d2] }
  | _ => none }
def resolveCanRow : OpenClaim := { program := "ytmaoochjbpohdaagreatdoor", sum := "9b32e1d11d3291a9eb20706712d51e3a3fb2a7d783aea78d49428e72c8e2650a", func := "suffragan/suffraganlaw10.ResolveCan", spec := "resolveCan", inPlace := ["internal/abi.NoEscape", "internal/bytealg.MakeNoZero", "internal/bytealg.IndexByteString"], unfollowed := true, recurses := true, named := ["suffragan/parse.words", "internal/strconv.uint64pow10", "math/bits.deBruijn32tab", "math/bits.deBruijn64tab"], plainKeys := false, apart := false, laid := [("math/bits.deBruijn32tab", laid_math_bits_deBruijn32tab), ("math/bits.deBruijn64tab", laid_math_bits_deBruijn64tab), ("internal/strconv.uint64pow10", laid_internal_strconv_uint64pow10), ("suffragan/parse.words", laid_suffragan_parse_words)] }
def ResolveCanSaid : Prop := resolveCanRow.holds Tryz.pinned (OpenSpec.ofChange resolveCanSpec)

/-- ITS FALSE NEIGHBOUR: 'it returns false'. Refute it at one input. -/
def resolveCanWrong : ChangeSpec := { name := "resolveCan", fn := fun _ => fun
  | [d1, d2] => { results := [.lit (.bool false)], args := [d1, d2] }
  | _ => none }
def ResolveCanWrongFalsely : Prop := resolveCanRow.holds Tryz.pinned (OpenSpec.ofChange resolveCanWrong)

/-- 'suffraganlaw10.ResolvePairs': WHATEVER THE INPUT: true; the input reads as it did. -/
def resolvePairsSpec : ChangeSpec := { name := "resolvePairs", fn := fun _ => fun
  | [d1, d2] => { results := [.lit (.bool true)], args := [d1, d2] }
  | _ => none }
def resolvePairsRow : OpenClaim := { program := "ytmaoochjbpohdaagreatdoor", sum := "9b32e1d11d3291a9eb20706712d51e3a3fb2a7d783aea78d49428e72c8e2650a", func := "suffragan/suffraganlaw10.ResolvePairs", spec := "resolvePairs", inPlace := ["internal/abi.NoEscape", "internal/bytealg.MakeNoZero", "internal/bytealg.IndexByteString"], unfollowed := true, recurses := true, named := ["suffragan/parse.words", "internal/strconv.uint64pow10", "math/bits.deBruijn32tab", "math/bits.deBruijn64tab"], plainKeys := false, apart := false, laid := [("math/bits.deBruijn32tab", laid_math_bits_deBruijn32tab), ("math/bits.deBruijn64tab", laid_math_bits_deBruijn64tab), ("internal/strconv.uint64pow10", laid_internal_strconv_uint64pow10), ("suffragan/parse.words", laid_suffragan_parse_words)] }
def ResolvePairsSaid : Prop := resolvePairsRow.holds Tryz.pinned (OpenSpec.ofChange resolvePairsSpec)

/-- ITS FALSE NEIGHBOUR: 'it returns false'. Refute it at one input. -/
def resolvePairsWrong : ChangeSpec := { name := "resolvePairs", fn := fun _ => fun
  | [d1, d2] => { results := [.lit (.bool false)], args := [d1, d2] }
  | _ => none }
def ResolvePairsWrongFalsely : Prop := resolvePairsRow.holds Tryz.pinned (OpenSpec.ofChange resolvePairsWrong)

/-- 'suffraganlaw10.ResolveTypes': WHATEVER THE INPUT: true; the input reads as it did. -/
def resolveTypesSpec : ChangeSpec := { name := "resolveTypes", fn := fun _ => fun
  | [d1, d2, d3] => { results := [.lit (.bool true)], args := [d1, d2, d3] }
  | _ => none }
def resolveTypesRow : OpenClaim := { program := "ytmaoochjbpohdaagreatdoor", sum := "9b32e1d11d3291a9eb20706712d51e3a3fb2a7d783aea78d49428e72c8e2650a", func := "suffragan/suffraganlaw10.ResolveTypes", spec := "resolveTypes", inPlace := ["internal/abi.NoEscape", "internal/bytealg.MakeNoZero", "internal/bytealg.IndexByteString"], unfollowed := true, recurses := true, named := ["suffragan/parse.words", "internal/strconv.uint64pow10", "math/bits.deBruijn32tab", "math/bits.deBruijn64tab"], plainKeys := false, apart := false, laid := [("math/bits.deBruijn32tab", laid_math_bits_deBruijn32tab), ("math/bits.deBruijn64tab", laid_math_bits_deBruijn64tab), ("internal/strconv.uint64pow10", laid_internal_strconv_uint64pow10), ("suffragan/parse.words", laid_suffragan_parse_words)] }
def ResolveTypesSaid : Prop := resolveTypesRow.holds Tryz.pinned (OpenSpec.ofChange resolveTypesSpec)

/-- ITS FALSE NEIGHBOUR: 'it returns false'. Refute it at one input. -/
def resolveTypesWrong : ChangeSpec := { name := "resolveTypes", fn := fun _ => fun
  | [d1, d2, d3] => { results := [.lit (.bool false)], args := [d1, d2, d3] }
  | _ => none }
def ResolveTypesWrongFalsely : Prop := resolveTypesRow.holds Tryz.pinned (OpenSpec.ofChange resolveTypesWrong)

/-- 'suffraganlaw12.PolicyNone': WHATEVER THE INPUT: true; the input reads as it did. -/
def policyNoneSpec : ChangeSpec := { name := "policyNone", fn := fun _ => fun
  | [d1, d2] => { results := [.lit (.bool true)], args := [d1, d2] }
  | _ => none }
def policyNoneRow : OpenClaim := { program := "ytmaoochjbpohdaagreatdoor", sum := "9b32e1d11d3291a9eb20706712d51e3a3fb2a7d783aea78d49428e72c8e2650a", func := "suffragan/suffraganlaw12.PolicyNone", spec := "policyNone", inPlace := ["internal/bytealg.IndexByteString", "internal/abi.NoEscape", "internal/bytealg.MakeNoZero"], unfollowed := true, recurses := true, named := ["suffragan/parse.words", "internal/strconv.uint64pow10", "math/bits.deBruijn32tab", "math/bits.deBruijn64tab", "suffragan/policy.names"], plainKeys := false, apart := false, laid := [("math/bits.deBruijn32tab", laid_math_bits_deBruijn32tab), ("math/bits.deBruijn64tab", laid_math_bits_deBruijn64tab), ("internal/strconv.uint64pow10", laid_internal_strconv_uint64pow10), ("suffragan/parse.words", laid_suffragan_parse_words), ("suffragan/policy.names", laid_suffragan_policy_names)] }
def PolicyNoneSaid : Prop := policyNoneRow.holds Tryz.pinned (OpenSpec.ofChange policyNoneSpec)

/-- ITS FALSE NEIGHBOUR: 'it returns false'. Refute it at one input. -/
def policyNoneWrong : ChangeSpec := { name := "policyNone", fn := fun _ => fun
  | [d1, d2] => { results := [.lit (.bool false)], args := [d1, d2] }
  | _ => none }
def PolicyNoneWrongFalsely : Prop := policyNoneRow.holds Tryz.pinned (OpenSpec.ofChange policyNoneWrong)

/-- 'suffraganlaw12.PolicyHolds': WHATEVER THE INPUT: true; the input reads as it did. -/
def policyHoldsSpec : ChangeSpec := { name := "policyHolds", fn := fun _ => fun
  | [d1, d2, d3] => { results := [.lit (.bool true)], args := [d1, d2, d3] }
  | _ => none }
def policyHoldsRow : OpenClaim := { program := "ytmaoochjbpohdaagreatdoor", sum := "9b32e1d11d3291a9eb20706712d51e3a3fb2a7d783aea78d49428e72c8e2650a", func := "suffragan/suffraganlaw12.PolicyHolds", spec := "policyHolds", inPlace := ["internal/bytealg.IndexByteString", "internal/abi.NoEscape", "internal/bytealg.MakeNoZero"], unfollowed := true, recurses := true, named := ["suffragan/parse.words", "internal/strconv.uint64pow10", "math/bits.deBruijn32tab", "math/bits.deBruijn64tab", "suffragan/policy.names"], plainKeys := false, apart := false, laid := [("math/bits.deBruijn32tab", laid_math_bits_deBruijn32tab), ("math/bits.deBruijn64tab", laid_math_bits_deBruijn64tab), ("internal/strconv.uint64pow10", laid_internal_strconv_uint64pow10), ("suffragan/parse.words", laid_suffragan_parse_words), ("suffragan/policy.names", laid_suffragan_policy_names)] }
def PolicyHoldsSaid : Prop := policyHoldsRow.holds Tryz.pinned (OpenSpec.ofChange policyHoldsSpec)

/-- ITS FALSE NEIGHBOUR: 'it returns false'. Refute it at one input. -/
def policyHoldsWrong : ChangeSpec := { name := "policyHolds", fn := fun _ => fun
  | [d1, d2, d3] => { results := [.lit (.bool false)], args := [d1, d2, d3] }
  | _ => none }
def PolicyHoldsWrongFalsely : Prop := policyHoldsRow.holds Tryz.pinned (OpenSpec.ofChange policyHoldsWrong)

/-- 'suffraganlaw12.PolicySteps': WHATEVER THE INPUT: true; the input reads as it did. -/
def policyStepsSpec : ChangeSpec := { name := "policySteps", fn := fun _ => fun
  | [d1, d2] => { results := [.lit (.bool true)], args := [d1, d2] }
  | _ => none }
def policyStepsRow : OpenClaim := { program := "ytmaoochjbpohdaagreatdoor", sum := "9b32e1d11d3291a9eb20706712d51e3a3fb2a7d783aea78d49428e72c8e2650a", func := "suffragan/suffraganlaw12.PolicySteps", spec := "policySteps", inPlace := ["internal/bytealg.IndexByteString", "internal/abi.NoEscape", "internal/bytealg.MakeNoZero"], unfollowed := true, recurses := true, named := ["suffragan/parse.words", "internal/strconv.uint64pow10", "math/bits.deBruijn32tab", "math/bits.deBruijn64tab", "suffragan/policy.names"], plainKeys := false, apart := false, laid := [("math/bits.deBruijn32tab", laid_math_bits_deBruijn32tab), ("math/bits.deBruijn64tab", laid_math_bits_deBruijn64tab), ("internal/strconv.uint64pow10", laid_internal_strconv_uint64pow10), ("suffragan/parse.words", laid_suffragan_parse_words), ("suffragan/policy.names", laid_suffragan_policy_names)] }
def PolicyStepsSaid : Prop := policyStepsRow.holds Tryz.pinned (OpenSpec.ofChange policyStepsSpec)

/-- ITS FALSE NEIGHBOUR: 'it returns false'. Refute it at one input. -/
def policyStepsWrong : ChangeSpec := { name := "policySteps", fn := fun _ => fun
  | [d1, d2] => { results := [.lit (.bool false)], args := [d1, d2] }
  | _ => none }
def PolicyStepsWrongFalsely : Prop := policyStepsRow.holds Tryz.pinned (OpenSpec.ofChange policyStepsWrong)

/-- 'suffraganlaw12.PolicyImplies': WHATEVER THE INPUT: true; the input reads as it did. -/
def policyImpliesSpec : ChangeSpec := { name := "policyImplies", fn := fun _ => fun
  | [d1, d2, d3] => { results := [.lit (.bool true)], args := [d1, d2, d3] }
  | _ => none }
def policyImpliesRow : OpenClaim := { program := "ytmaoochjbpohdaagreatdoor", sum := "9b32e1d11d3291a9eb20706712d51e3a3fb2a7d783aea78d49428e72c8e2650a", func := "suffragan/suffraganlaw12.PolicyImplies", spec := "policyImplies", inPlace := ["internal/bytealg.IndexByteString", "internal/abi.NoEscape", "internal/bytealg.MakeNoZero"], unfollowed := true, recurses := true, named := ["suffragan/policy.names", "suffragan/parse.words", "internal/strconv.uint64pow10", "math/bits.deBruijn32tab", "math/bits.deBruijn64tab"], plainKeys := false, apart := false, laid := [("math/bits.deBruijn32tab", laid_math_bits_deBruijn32tab), ("math/bits.deBruijn64tab", laid_math_bits_deBruijn64tab), ("internal/strconv.uint64pow10", laid_internal_strconv_uint64pow10), ("suffragan/parse.words", laid_suffragan_parse_words), ("suffragan/policy.names", laid_suffragan_policy_names)] }
def PolicyImpliesSaid : Prop := policyImpliesRow.holds Tryz.pinned (OpenSpec.ofChange policyImpliesSpec)

/-- ITS FALSE NEIGHBOUR: 'it returns false'. Refute it at one input. -/
def policyImpliesWrong : ChangeSpec := { name := "policyImplies", fn := fun _ => fun
  | [d1, d2, d3] => { results := [.lit (.bool false)], args := [d1, d2, d3] }
  | _ => none }
def PolicyImpliesWrongFalsely : Prop := policyImpliesRow.holds Tryz.pinned (OpenSpec.ofChange policyImpliesWrong)

/-- 'suffraganlaw12.PolicyTexts': WHATEVER THE INPUT: true; the input reads as it did. -/
def policyTextsSpec : ChangeSpec := { name := "policyTexts", fn := fun _ => fun
  | [d1, d2] => { results := [.lit (.bool true)], args := [d1, d2] }
  | _ => none }
def policyTextsRow : OpenClaim := { program := "ytmaoochjbpohdaagreatdoor", sum := "9b32e1d11d3291a9eb20706712d51e3a3fb2a7d783aea78d49428e72c8e2650a", func := "suffragan/suffraganlaw12.PolicyTexts", spec := "policyTexts", inPlace := ["internal/bytealg.IndexByteString", "internal/abi.NoEscape", "internal/bytealg.MakeNoZero"], unfollowed := true, recurses := true, named := ["suffragan/parse.words", "internal/strconv.uint64pow10", "math/bits.deBruijn32tab", "math/bits.deBruijn64tab", "suffragan/policy.names"], plainKeys := false, apart := false, laid := [("math/bits.deBruijn32tab", laid_math_bits_deBruijn32tab), ("math/bits.deBruijn64tab", laid_math_bits_deBruijn64tab), ("internal/strconv.uint64pow10", laid_internal_strconv_uint64pow10), ("suffragan/parse.words", laid_suffragan_parse_words), ("suffragan/policy.names", laid_suffragan_policy_names)] }
def PolicyTextsSaid : Prop := policyTextsRow.holds Tryz.pinned (OpenSpec.ofChange policyTextsSpec)

/-- ITS FALSE NEIGHBOUR: 'it returns false'. Refute it at one input. -/
def policyTextsWrong : ChangeSpec := { name := "policyTexts", fn := fun _ => fun
  | [d1, d2] => { results := [.lit (.bool false)], args := [d1, d2] }
  | _ => none }
def PolicyTextsWrongFalsely : Prop := policyTextsRow.holds Tryz.pinned (OpenSpec.ofChange policyTextsWrong)

/-- 'suffraganlaw12.PolicyAdmits': WHATEVER THE INPUT: true; the input reads as it did. -/
def policyAdmitsSpec : ChangeSpec := { name := "policyAdmits", fn := fun _ => fun
  | [d] => { results := [.lit (.bool true)], args := [d] }
  | _ => none }
def policyAdmitsRow : OpenClaim := { program := "ytmaoochjbpohdaagreatdoor", sum := "9b32e1d11d3291a9eb20706712d51e3a3fb2a7d783aea78d49428e72c8e2650a", func := "suffragan/suffraganlaw12.PolicyAdmits", spec := "policyAdmits", inPlace := ["internal/abi.NoEscape", "internal/bytealg.MakeNoZero", "internal/bytealg.IndexByteString"], unfollowed := true, recurses := true, named := ["suffragan/parse.words", "internal/strconv.uint64pow10", "math/bits.deBruijn32tab", "math/bits.deBruijn64tab", "suffragan/policy.names"], plainKeys := false, apart := false, laid := [("math/bits.deBruijn32tab", laid_math_bits_deBruijn32tab), ("math/bits.deBruijn64tab", laid_math_bits_deBruijn64tab), ("internal/strconv.uint64pow10", laid_internal_strconv_uint64pow10), ("suffragan/parse.words", laid_suffragan_parse_words), ("suffragan/policy.names", laid_suffragan_policy_names)] }
def PolicyAdmitsSaid : Prop := policyAdmitsRow.holds Tryz.pinned (OpenSpec.ofChange policyAdmitsSpec)

/-- ITS FALSE NEIGHBOUR: 'it returns false'. Refute it at one input. -/
def policyAdmitsWrong : ChangeSpec := { name := "policyAdmits", fn := fun _ => fun
  | [d] => { results := [.lit (.bool false)], args := [d] }
  | _ => none }
def PolicyAdmitsWrongFalsely : Prop := policyAdmitsRow.holds Tryz.pinned (OpenSpec.ofChange policyAdmitsWrong)

/-- 'suffraganlaw12.PolicySound': WHATEVER THE INPUT: true; the input reads as it did. -/
def policySoundSpec : ChangeSpec := { name := "policySound", fn := fun _ => fun
  | [d] => { results := [.lit (.bool true)], args := [d] }
  | _ => none }
def policySoundRow : OpenClaim := { program := "ytmaoochjbpohdaagreatdoor", sum := "9b32e1d11d3291a9eb20706712d51e3a3fb2a7d783aea78d49428e72c8e2650a", func := "suffragan/suffraganlaw12.PolicySound", spec := "policySound", inPlace := ["internal/abi.NoEscape", "internal/bytealg.MakeNoZero", "internal/bytealg.IndexByteString"], unfollowed := true, recurses := true, named := ["suffragan/parse.words", "internal/strconv.uint64pow10", "math/bits.deBruijn32tab", "math/bits.deBruijn64tab", "suffragan/policy.names"], plainKeys := false, apart := false, laid := [("math/bits.deBruijn32tab", laid_math_bits_deBruijn32tab), ("math/bits.deBruijn64tab", laid_math_bits_deBruijn64tab), ("internal/strconv.uint64pow10", laid_internal_strconv_uint64pow10), ("suffragan/parse.words", laid_suffragan_parse_words), ("suffragan/policy.names", laid_suffragan_policy_names)] }
def PolicySoundSaid : Prop := policySoundRow.holds Tryz.pinned (OpenSpec.ofChange policySoundSpec)

/-- ITS FALSE NEIGHBOUR: 'it returns false'. Refute it at one input. -/
def policySoundWrong : ChangeSpec := { name := "policySound", fn := fun _ => fun
  | [d] => { results := [.lit (.bool false)], args := [d] }
  | _ => none }
def PolicySoundWrongFalsely : Prop := policySoundRow.holds Tryz.pinned (OpenSpec.ofChange policySoundWrong)

/-- 'suffraganlaw12.PolicyBegins': WHATEVER THE INPUT: true; the input reads as it did. -/
def policyBeginsSpec : ChangeSpec := { name := "policyBegins", fn := fun _ => fun
  | [d1, d2] => { results := [.lit (.bool true)], args := [d1, d2] }
  | _ => none }
def policyBeginsRow : OpenClaim := { program := "ytmaoochjbpohdaagreatdoor", sum := "9b32e1d11d3291a9eb20706712d51e3a3fb2a7d783aea78d49428e72c8e2650a", func := "suffragan/suffraganlaw12.PolicyBegins", spec := "policyBegins", inPlace := ["internal/abi.NoEscape", "internal/bytealg.MakeNoZero", "internal/bytealg.IndexByteString"], unfollowed := true, recurses := true, named := ["suffragan/parse.words", "internal/strconv.uint64pow10", "math/bits.deBruijn32tab", "math/bits.deBruijn64tab", "suffragan/policy.names"], plainKeys := false, apart := false, laid := [("math/bits.deBruijn32tab", laid_math_bits_deBruijn32tab), ("math/bits.deBruijn64tab", laid_math_bits_deBruijn64tab), ("internal/strconv.uint64pow10", laid_internal_strconv_uint64pow10), ("suffragan/parse.words", laid_suffragan_parse_words), ("suffragan/policy.names", laid_suffragan_policy_names)] }
def PolicyBeginsSaid : Prop := policyBeginsRow.holds Tryz.pinned (OpenSpec.ofChange policyBeginsSpec)

/-- ITS FALSE NEIGHBOUR: 'it returns false'. Refute it at one input. -/
def policyBeginsWrong : ChangeSpec := { name := "policyBegins", fn := fun _ => fun
  | [d1, d2] => { results := [.lit (.bool false)], args := [d1, d2] }
  | _ => none }
def PolicyBeginsWrongFalsely : Prop := policyBeginsRow.holds Tryz.pinned (OpenSpec.ofChange policyBeginsWrong)

/- THE SECOND FORM. 'bulk': how many values and letters a reading holds, each counted each time it is reached (what is shared counts as often as it is met; a slice's spare places count too). A statement '..UptoSaid' is the law's where the arguments, and the package variables that the reading takes, are together of bulk at most 1048576: NARROWER than '..Said'. Prove '..Said' where nothing that the law and all that it calls make is longer than what came in: it says more and counts as full. Else prove '..UptoSaid'. A law counts once. -/
mutual
def uptoBulk {H : Type} : DataW H → Nat
  | .lit (.string bytes) => bytes.length + 1
  | .lit _ => 1
  | .nil => 1
  | .ptr d => uptoBulk d + 1
  | .slice elems spare => uptoBulkAll elems + uptoBulkAll spare + 1
  | .agg parts => uptoBulkAll parts + 1
  | .iface _ d => uptoBulk d + 1
  | .map entries => uptoBulkEntries entries + 1
  | .held _ => 1
def uptoBulkAll {H : Type} : List (DataW H) → Nat
  | [] => 0
  | d :: r => uptoBulk d + uptoBulkAll r
def uptoBulkEntries {H : Type} : List (Lit × DataW H) → Nat
  | [] => 0
  | x :: r => uptoBulkEntry x + uptoBulkEntries r
def uptoBulkEntry {H : Type} : Lit × DataW H → Nat
  | (.string bytes, d) => bytes.length + uptoBulk d + 1
  | (_, d) => uptoBulk d + 1
 end
def uptoSmall : (H : Type) → List (DataW H) → Bool := fun _ ds => decide (uptoBulkAll ds ≤ 1048576)
def OpenSpec.upto (s : _root_.Go.ChangeSpec) : _root_.Go.OpenSpec := { _root_.Go.OpenSpec.ofChange s with cond := some uptoSmall }

/-- 'suffraganlaw10.ResolveSelf', WHERE WHAT IT READS IS OF BULK AT MOST 1048576: true; the input reads as it did. -/
def resolveSelfUptoRow : OpenClaim := { program := "ytmaoochjbpohdaagreatdoor", sum := "9b32e1d11d3291a9eb20706712d51e3a3fb2a7d783aea78d49428e72c8e2650a", func := "suffragan/suffraganlaw10.ResolveSelf", spec := "resolveSelf", inPlace := ["internal/abi.NoEscape", "internal/bytealg.MakeNoZero", "internal/bytealg.IndexByteString"], unfollowed := true, recurses := true, named := ["suffragan/parse.words", "internal/strconv.uint64pow10", "math/bits.deBruijn32tab", "math/bits.deBruijn64tab"], plainKeys := false, apart := false, laid := [("math/bits.deBruijn32tab", laid_math_bits_deBruijn32tab), ("math/bits.deBruijn64tab", laid_math_bits_deBruijn64tab), ("internal/strconv.uint64pow10", laid_internal_strconv_uint64pow10), ("suffragan/parse.words", laid_suffragan_parse_words)], narrowed := true }
def ResolveSelfUptoSaid : Prop := resolveSelfUptoRow.holds Tryz.pinned (OpenSpec.upto resolveSelfSpec)

/-- 'suffraganlaw10.ResolveMore', WHERE WHAT IT READS IS OF BULK AT MOST 1048576: true; the input reads as it did. -/
def resolveMoreUptoRow : OpenClaim := { program := "ytmaoochjbpohdaagreatdoor", sum := "9b32e1d11d3291a9eb20706712d51e3a3fb2a7d783aea78d49428e72c8e2650a", func := "suffragan/suffraganlaw10.ResolveMore", spec := "resolveMore", inPlace := ["internal/abi.NoEscape", "internal/bytealg.MakeNoZero", "internal/bytealg.IndexByteString"], unfollowed := true, recurses := true, named := ["suffragan/parse.words", "internal/strconv.uint64pow10", "math/bits.deBruijn32tab", "math/bits.deBruijn64tab"], plainKeys := false, apart := false, laid := [("math/bits.deBruijn32tab", laid_math_bits_deBruijn32tab), ("math/bits.deBruijn64tab", laid_math_bits_deBruijn64tab), ("internal/strconv.uint64pow10", laid_internal_strconv_uint64pow10), ("suffragan/parse.words", laid_suffragan_parse_words)], narrowed := true }
def ResolveMoreUptoSaid : Prop := resolveMoreUptoRow.holds Tryz.pinned (OpenSpec.upto resolveMoreSpec)

/-- 'suffraganlaw10.ResolveCan', WHERE WHAT IT READS IS OF BULK AT MOST 1048576: true; the input reads as it did. -/
def resolveCanUptoRow : OpenClaim := { program := "ytmaoochjbpohdaagreatdoor", sum := "9b32e1d11d3291a9eb20706712d51e3a3fb2a7d783aea78d49428e72c8e2650a", func := "suffragan/suffraganlaw10.ResolveCan", spec := "resolveCan", inPlace := ["internal/abi.NoEscape", "internal/bytealg.MakeNoZero", "internal/bytealg.IndexByteString"], unfollowed := true, recurses := true, named := ["suffragan/parse.words", "internal/strconv.uint64pow10", "math/bits.deBruijn32tab", "math/bits.deBruijn64tab"], plainKeys := false, apart := false, laid := [("math/bits.deBruijn32tab", laid_math_bits_deBruijn32tab), ("math/bits.deBruijn64tab", laid_math_bits_deBruijn64tab), ("internal/strconv.uint64pow10", laid_internal_strconv_uint64pow10), ("suffragan/parse.words", laid_suffragan_parse_words)], narrowed := true }
def ResolveCanUptoSaid : Prop := resolveCanUptoRow.holds Tryz.pinned (OpenSpec.upto resolveCanSpec)

/-- 'suffraganlaw10.ResolvePairs', WHERE WHAT IT READS IS OF BULK AT MOST 1048576: true; the input reads as it did. -/
def resolvePairsUptoRow : OpenClaim := { program := "ytmaoochjbpohdaagreatdoor", sum := "9b32e1d11d3291a9eb20706712d51e3a3fb2a7d783aea78d49428e72c8e2650a", func := "suffragan/suffraganlaw10.ResolvePairs", spec := "resolvePairs", inPlace := ["internal/abi.NoEscape", "internal/bytealg.MakeNoZero", "internal/bytealg.IndexByteString"], unfollowed := true, recurses := true, named := ["suffragan/parse.words", "internal/strconv.uint64pow10", "math/bits.deBruijn32tab", "math/bits.deBruijn64tab"], plainKeys := false, apart := false, laid := [("math/bits.deBruijn32tab", laid_math_bits_deBruijn32tab), ("math/bits.deBruijn64tab", laid_math_bits_deBruijn64tab), ("internal/strconv.uint64pow10", laid_internal_strconv_uint64pow10), ("suffragan/parse.words", laid_suffragan_parse_words)], narrowed := true }
def ResolvePairsUptoSaid : Prop := resolvePairsUptoRow.holds Tryz.pinned (OpenSpec.upto resolvePairsSpec)

/-- 'suffraganlaw10.ResolveTypes', WHERE WHAT IT READS IS OF BULK AT MOST 1048576: true; the input reads as it did. -/
def resolveTypesUptoRow : OpenClaim := { program := "ytmaoochjbpohdaagreatdoor", sum := "9b32e1d11d3291a9eb20706712d51e3a3fb2a7d783aea78d49428e72c8e2650a", func := "suffragan/suffraganlaw10.ResolveTypes", spec := "resolveTypes", inPlace := ["internal/abi.NoEscape", "internal/bytealg.MakeNoZero", "internal/bytealg.IndexByteString"], unfollowed := true, recurses := true, named := ["suffragan/parse.words", "internal/strconv.uint64pow10", "math/bits.deBruijn32tab", "math/bits.deBruijn64tab"], plainKeys := false, apart := false, laid := [("math/bits.deBruijn32tab", laid_math_bits_deBruijn32tab), ("math/bits.deBruijn64tab", laid_math_bits_deBruijn64tab), ("internal/strconv.uint64pow10", laid_internal_strconv_uint64pow10), ("suffragan/parse.words", laid_suffragan_parse_words)], narrowed := true }
def ResolveTypesUptoSaid : Prop := resolveTypesUptoRow.holds Tryz.pinned (OpenSpec.upto resolveTypesSpec)

/-- 'suffraganlaw12.PolicyNone', WHERE WHAT IT READS IS OF BULK AT MOST 1048576: true; the input reads as it did. -/
def policyNoneUptoRow : OpenClaim := { program := "ytmaoochjbpohdaagreatdoor", sum := "9b32e1d11d3291a9eb20706712d51e3a3fb2a7d783aea78d49428e72c8e2650a", func := "suffragan/suffraganlaw12.PolicyNone", spec := "policyNone", inPlace := ["internal/bytealg.IndexByteString", "internal/abi.NoEscape", "internal/bytealg.MakeNoZero"], unfollowed := true, recurses := true, named := ["suffragan/parse.words", "internal/strconv.uint64pow10", "math/bits.deBruijn32tab", "math/bits.deBruijn64tab", "suffragan/policy.names"], plainKeys := false, apart := false, laid := [("math/bits.deBruijn32tab", laid_math_bits_deBruijn32tab), ("math/bits.deBruijn64tab", laid_math_bits_deBruijn64tab), ("internal/strconv.uint64pow10", laid_internal_strconv_uint64pow10), ("suffragan/parse.words", laid_suffragan_parse_words), ("suffragan/policy.names", laid_suffragan_policy_names)], narrowed := true }
def PolicyNoneUptoSaid : Prop := policyNoneUptoRow.holds Tryz.pinned (OpenSpec.upto policyNoneSpec)

/-- 'suffraganlaw12.PolicyHolds', WHERE WHAT IT READS IS OF BULK AT MOST 1048576: true; the input reads as it did. -/
def policyHoldsUptoRow : OpenClaim := { program := "ytmaoochjbpohdaagreatdoor", sum := "9b32e1d11d3291a9eb20706712d51e3a3fb2a7d783aea78d49428e72c8e2650a", func := "suffragan/suffraganlaw12.PolicyHolds", spec := "policyHolds", inPlace := ["internal/bytealg.IndexByteString", "internal/abi.NoEscape", "internal/bytealg.MakeNoZero"], unfollowed := true, recurses := true, named := ["suffragan/parse.words", "internal/strconv.uint64pow10", "math/bits.deBruijn32tab", "math/bits.deBruijn64tab", "suffragan/policy.names"], plainKeys := false, apart := false, laid := [("math/bits.deBruijn32tab", laid_math_bits_deBruijn32tab), ("math/bits.deBruijn64tab", laid_math_bits_deBruijn64tab), ("internal/strconv.uint64pow10", laid_internal_strconv_uint64pow10), ("suffragan/parse.words", laid_suffragan_parse_words), ("suffragan/policy.names", laid_suffragan_policy_names)], narrowed := true }
def PolicyHoldsUptoSaid : Prop := policyHoldsUptoRow.holds Tryz.pinned (OpenSpec.upto policyHoldsSpec)

/-- 'suffraganlaw12.PolicySteps', WHERE WHAT IT READS IS OF BULK AT MOST 1048576: true; the input reads as it did. -/
def policyStepsUptoRow : OpenClaim := { program := "ytmaoochjbpohdaagreatdoor", sum := "9b32e1d11d3291a9eb20706712d51e3a3fb2a7d783aea78d49428e72c8e2650a", func := "suffragan/suffraganlaw12.PolicySteps", spec := "policySteps", inPlace := ["internal/bytealg.IndexByteString", "internal/abi.NoEscape", "internal/bytealg.MakeNoZero"], unfollowed := true, recurses := true, named := ["suffragan/parse.words", "internal/strconv.uint64pow10", "math/bits.deBruijn32tab", "math/bits.deBruijn64tab", "suffragan/policy.names"], plainKeys := false, apart := false, laid := [("math/bits.deBruijn32tab", laid_math_bits_deBruijn32tab), ("math/bits.deBruijn64tab", laid_math_bits_deBruijn64tab), ("internal/strconv.uint64pow10", laid_internal_strconv_uint64pow10), ("suffragan/parse.words", laid_suffragan_parse_words), ("suffragan/policy.names", laid_suffragan_policy_names)], narrowed := true }
def PolicyStepsUptoSaid : Prop := policyStepsUptoRow.holds Tryz.pinned (OpenSpec.upto policyStepsSpec)

/-- 'suffraganlaw12.PolicyImplies', WHERE WHAT IT READS IS OF BULK AT MOST 1048576: true; the input reads as it did. -/
def policyImpliesUptoRow : OpenClaim := { program := "ytmaoochjbpohdaagreatdoor", sum := "9b32e1d11d3291a9eb20706712d51e3a3fb2a7d783aea78d49428e72c8e2650a", func := "suffragan/suffraganlaw12.PolicyImplies", spec := "policyImplies", inPlace := ["internal/bytealg.IndexByteString", "internal/abi.NoEscape", "internal/bytealg.MakeNoZero"], unfollowed := true, recurses := true, named := ["suffragan/policy.names", "suffragan/parse.words", "internal/strconv.uint64pow10", "math/bits.deBruijn32tab", "math/bits.deBruijn64tab"], plainKeys := false, apart := false, laid := [("math/bits.deBruijn32tab", laid_math_bits_deBruijn32tab), ("math/bits.deBruijn64tab", laid_math_bits_deBruijn64tab), ("internal/strconv.uint64pow10", laid_internal_strconv_uint64pow10), ("suffragan/parse.words", laid_suffragan_parse_words), ("suffragan/policy.names", laid_suffragan_policy_names)], narrowed := true }
def PolicyImpliesUptoSaid : Prop := policyImpliesUptoRow.holds Tryz.pinned (OpenSpec.upto policyImpliesSpec)

/-- 'suffraganlaw12.PolicyTexts', WHERE WHAT IT READS IS OF BULK AT MOST 1048576: true; the input reads as it did. -/
def policyTextsUptoRow : OpenClaim := { program := "ytmaoochjbpohdaagreatdoor", sum := "9b32e1d11d3291a9eb20706712d51e3a3fb2a7d783aea78d49428e72c8e2650a", func := "suffragan/suffraganlaw12.PolicyTexts", spec := "policyTexts", inPlace := ["internal/bytealg.IndexByteString", "internal/abi.NoEscape", "internal/bytealg.MakeNoZero"], unfollowed := true, recurses := true, named := ["suffragan/parse.words", "internal/strconv.uint64pow10", "math/bits.deBruijn32tab", "math/bits.deBruijn64tab", "suffragan/policy.names"], plainKeys := false, apart := false, laid := [("math/bits.deBruijn32tab", laid_math_bits_deBruijn32tab), ("math/bits.deBruijn64tab", laid_math_bits_deBruijn64tab), ("internal/strconv.uint64pow10", laid_internal_strconv_uint64pow10), ("suffragan/parse.words", laid_suffragan_parse_words), ("suffragan/policy.names", laid_suffragan_policy_names)], narrowed := true }
def PolicyTextsUptoSaid : Prop := policyTextsUptoRow.holds Tryz.pinned (OpenSpec.upto policyTextsSpec)

/-- 'suffraganlaw12.PolicyAdmits', WHERE WHAT IT READS IS OF BULK AT MOST 1048576: true; the input reads as it did. -/
def policyAdmitsUptoRow : OpenClaim := { program := "ytmaoochjbpohdaagreatdoor", sum := "9b32e1d11d3291a9eb20706712d51e3a3fb2a7d783aea78d49428e72c8e2650a", func := "suffragan/suffraganlaw12.PolicyAdmits", spec := "policyAdmits", inPlace := ["internal/abi.NoEscape", "internal/bytealg.MakeNoZero", "internal/bytealg.IndexByteString"], unfollowed := true, recurses := true, named := ["suffragan/parse.words", "internal/strconv.uint64pow10", "math/bits.deBruijn32tab", "math/bits.deBruijn64tab", "suffragan/policy.names"], plainKeys := false, apart := false, laid := [("math/bits.deBruijn32tab", laid_math_bits_deBruijn32tab), ("math/bits.deBruijn64tab", laid_math_bits_deBruijn64tab), ("internal/strconv.uint64pow10", laid_internal_strconv_uint64pow10), ("suffragan/parse.words", laid_suffragan_parse_words), ("suffragan/policy.names", laid_suffragan_policy_names)], narrowed := true }
def PolicyAdmitsUptoSaid : Prop := policyAdmitsUptoRow.holds Tryz.pinned (OpenSpec.upto policyAdmitsSpec)

/-- 'suffraganlaw12.PolicySound', WHERE WHAT IT READS IS OF BULK AT MOST 1048576: true; the input reads as it did. -/
def policySoundUptoRow : OpenClaim := { program := "ytmaoochjbpohdaagreatdoor", sum := "9b32e1d11d3291a9eb20706712d51e3a3fb2a7d783aea78d49428e72c8e2650a", func := "suffragan/suffraganlaw12.PolicySound", spec := "policySound", inPlace := ["internal/abi.NoEscape", "internal/bytealg.MakeNoZero", "internal/bytealg.IndexByteString"], unfollowed := true, recurses := true, named := ["suffragan/parse.words", "internal/strconv.uint64pow10", "math/bits.deBruijn32tab", "math/bits.deBruijn64tab", "suffragan/policy.names"], plainKeys := false, apart := false, laid := [("math/bits.deBruijn32tab", laid_math_bits_deBruijn32tab), ("math/bits.deBruijn64tab", laid_math_bits_deBruijn64tab), ("internal/strconv.uint64pow10", laid_internal_strconv_uint64pow10), ("suffragan/parse.words", laid_suffragan_parse_words), ("suffragan/policy.names", laid_suffragan_policy_names)], narrowed := true }
def PolicySoundUptoSaid : Prop := policySoundUptoRow.holds Tryz.pinned (OpenSpec.upto policySoundSpec)

/-- 'suffraganlaw12.PolicyBegins', WHERE WHAT IT READS IS OF BULK AT MOST 1048576: true; the input reads as it did. -/
def policyBeginsUptoRow : OpenClaim := { program := "ytmaoochjbpohdaagreatdoor", sum := "9b32e1d11d3291a9eb20706712d51e3a3fb2a7d783aea78d49428e72c8e2650a", func := "suffragan/suffraganlaw12.PolicyBegins", spec := "policyBegins", inPlace := ["internal/abi.NoEscape", "internal/bytealg.MakeNoZero", "internal/bytealg.IndexByteString"], unfollowed := true, recurses := true, named := ["suffragan/parse.words", "internal/strconv.uint64pow10", "math/bits.deBruijn32tab", "math/bits.deBruijn64tab", "suffragan/policy.names"], plainKeys := false, apart := false, laid := [("math/bits.deBruijn32tab", laid_math_bits_deBruijn32tab), ("math/bits.deBruijn64tab", laid_math_bits_deBruijn64tab), ("internal/strconv.uint64pow10", laid_internal_strconv_uint64pow10), ("suffragan/parse.words", laid_suffragan_parse_words), ("suffragan/policy.names", laid_suffragan_policy_names)], narrowed := true }
def PolicyBeginsUptoSaid : Prop := policyBeginsUptoRow.holds Tryz.pinned (OpenSpec.upto policyBeginsSpec)

end Rows
end Go.Proofs.YtmaoochjbpohdaaGreatDoor
