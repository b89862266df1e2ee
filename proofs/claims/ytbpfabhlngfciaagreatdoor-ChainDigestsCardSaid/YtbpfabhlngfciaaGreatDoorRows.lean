/-
  NARROWER THAN 'FOR EVERY INPUT', by the rows' own cells (each row's printed sentence says how): CanonPrints: laid · CanonBlanks: laid · CanonApart: laid · CanonTexts: laid · CanonLogs: laid · ChainPuts: laid · ChainTakes: laid · ChainDigests: laid.
  DERIVED. THE GIVEN ROWS OF THIS SEAT. 8 by the template 'for every input the law returns true; each argument reads behind the call as it read before'; 0 by the template 'total and deterministic' (their statements: YtbpfabhlngfciaaGreatDoorTotals.lean).
  GIVEN WITH THE SEED: the statements are not yours to turn. If you find one false, say at which input.
  Laid BY PROGRAM, IN A SANDBOX (cutbox-rows.mjs): the forced cells as the released guide's own fill.sh prints them over the translation 4f445b5be68f2e91… (all of the seat's roots in one cut). By AI agents, Wed Nov 11 2026. No macro, syntax, notation, axiom, sorry.
-/
import Derived.Test.YtbpfabhlngfciaaGreatDoorChecked
import GoSem.Claim
import GoSem.ClaimJoined
import GoSem.ClaimMapViews
import Derived.JoinedTies
import Derived.KernelRfl
namespace Go.Proofs.YtbpfabhlngfciaaGreatDoor
/- THE CELL 'sum', in the pinned program and in every row, IS THE sha256 OF THE DUMP (.gsa) THAT YtbpfabhlngfciaaGreatDoorProg.lean LOADS. Nothing in Lean hashes anything: it is a label: what it is worth is what the hold of that sum in a sandbox is worth. -/
noncomputable def Tryz.pinned : Pinned := { name := "ytbpfabhlngfciaagreatdoor", sum := "4f445b5be68f2e918bd45b43a77f07e14b641b48a20b21af3c862b6e01df568f", checked := Tryz.checked }
namespace Rows
def none {H : Type} : Left H := { results := [], args := [] }

/- WHAT THE LISTED PACKAGE-LEVEL VARIABLES READ AS WHEN THE CALL BEGINS. Each datum BY PROGRAM (the guide's laid-datum.mjs) off the statement by which the dump's own 'gosem.cut.vars' lays the variable. In a bare row this is a premise. The card (YtbpfabhlngfciaaGreatDoorCards.lean) ties it to the program's text. -/
def laid_math_bits_deBruijn32tab {H : Type} : DataW H := .agg [.lit (.int .u8 0), .lit (.int .u8 1), .lit (.int .u8 28), .lit (.int .u8 2), .lit (.int .u8 29), .lit (.int .u8 14), .lit (.int .u8 24), .lit (.int .u8 3), .lit (.int .u8 30), .lit (.int .u8 22), .lit (.int .u8 20), .lit (.int .u8 15), .lit (.int .u8 25), .lit (.int .u8 17), .lit (.int .u8 4), .lit (.int .u8 8), .lit (.int .u8 31), .lit (.int .u8 27), .lit (.int .u8 13), .lit (.int .u8 23), .lit (.int .u8 21), .lit (.int .u8 19), .lit (.int .u8 16), .lit (.int .u8 7), .lit (.int .u8 26), .lit (.int .u8 12), .lit (.int .u8 18), .lit (.int .u8 6), .lit (.int .u8 11), .lit (.int .u8 5), .lit (.int .u8 10), .lit (.int .u8 9)]
def laid_math_bits_deBruijn64tab {H : Type} : DataW H := .agg [.lit (.int .u8 0), .lit (.int .u8 1), .lit (.int .u8 56), .lit (.int .u8 2), .lit (.int .u8 57), .lit (.int .u8 49), .lit (.int .u8 28), .lit (.int .u8 3), .lit (.int .u8 61), .lit (.int .u8 58), .lit (.int .u8 42), .lit (.int .u8 50), .lit (.int .u8 38), .lit (.int .u8 29), .lit (.int .u8 17), .lit (.int .u8 4), .lit (.int .u8 62), .lit (.int .u8 47), .lit (.int .u8 59), .lit (.int .u8 36), .lit (.int .u8 45), .lit (.int .u8 43), .lit (.int .u8 51), .lit (.int .u8 22), .lit (.int .u8 53), .lit (.int .u8 39), .lit (.int .u8 33), .lit (.int .u8 30), .lit (.int .u8 24), .lit (.int .u8 18), .lit (.int .u8 12), .lit (.int .u8 5), .lit (.int .u8 63), .lit (.int .u8 55), .lit (.int .u8 48), .lit (.int .u8 27), .lit (.int .u8 60), .lit (.int .u8 41), .lit (.int .u8 37), .lit (.int .u8 16), .lit (.int .u8 46), .lit (.int .u8 35), .lit (.int .u8 44), .lit (.int .u8 21), .lit (.int .u8 52), .lit (.int .u8 32), .lit (.int .u8 23), .lit (.int .u8 11), .lit (.int .u8 54), .lit (.int .u8 26), .lit (.int .u8 40), .lit (.int .u8 15), .lit (.int .u8 34), .lit (.int .u8 20), .lit (.int .u8 31), .lit (.int .u8 10), .lit (.int .u8 25), .lit (.int .u8 14), .lit (.int .u8 19), .lit (.int .u8 9), .lit (.int .u8 13), .lit (.int .u8 8), .lit (.int .u8 7), .lit (.int .u8 6)]
def laid_internal_strconv_uint64pow10 {H : Type} : DataW H := .agg [.lit (.int .u64 1), .lit (.int .u64 10), .lit (.int .u64 100), .lit (.int .u64 1000), .lit (.int .u64 10000), .lit (.int .u64 100000), .lit (.int .u64 1000000), .lit (.int .u64 10000000), .lit (.int .u64 100000000), .lit (.int .u64 1000000000), .lit (.int .u64 10000000000), .lit (.int .u64 100000000000), .lit (.int .u64 1000000000000), .lit (.int .u64 10000000000000), .lit (.int .u64 100000000000000), .lit (.int .u64 1000000000000000), .lit (.int .u64 10000000000000000), .lit (.int .u64 100000000000000000), .lit (.int .u64 1000000000000000000), .lit (.int .u64 10000000000000000000)]
def laid_suffragan_parse_words {H : Type} : DataW H := .agg [.lit (.string [110, 117, 108, 108]), .lit (.string [98, 111, 111, 108]), .lit (.string [105, 110, 116]), .lit (.string [108, 111, 110, 103]), .lit (.string [98, 121, 116, 101, 115]), .lit (.string [116, 101, 120, 116]), .lit (.string []), .lit (.string []), .lit (.string []), .lit (.string [101, 110, 117, 109]), .lit (.string [102, 105, 120, 101, 100]), .lit (.string [114, 101, 99, 111, 114, 100])]
def laid_suffragan_sha_first {H : Type} : DataW H := .agg [.lit (.int .u32 1779033703), .lit (.int .u32 3144134277), .lit (.int .u32 1013904242), .lit (.int .u32 2773480762), .lit (.int .u32 1359893119), .lit (.int .u32 2600822924), .lit (.int .u32 528734635), .lit (.int .u32 1541459225)]
def laid_suffragan_sha_roots {H : Type} : DataW H := .agg [.lit (.int .u32 1116352408), .lit (.int .u32 1899447441), .lit (.int .u32 3049323471), .lit (.int .u32 3921009573), .lit (.int .u32 961987163), .lit (.int .u32 1508970993), .lit (.int .u32 2453635748), .lit (.int .u32 2870763221), .lit (.int .u32 3624381080), .lit (.int .u32 310598401), .lit (.int .u32 607225278), .lit (.int .u32 1426881987), .lit (.int .u32 1925078388), .lit (.int .u32 2162078206), .lit (.int .u32 2614888103), .lit (.int .u32 3248222580), .lit (.int .u32 3835390401), .lit (.int .u32 4022224774), .lit (.int .u32 264347078), .lit (.int .u32 604807628), .lit (.int .u32 770255983), .lit (.int .u32 1249150122), .lit (.int .u32 1555081692), .lit (.int .u32 1996064986), .lit (.int .u32 2554220882), .lit (.int .u32 2821834349), .lit (.int .u32 2952996808), .lit (.int .u32 3210313671), .lit (.int .u32 3336571891), .lit (.int .u32 3584528711), .lit (.int .u32 113926993), .lit (.int .u32 338241895), .lit (.int .u32 666307205), .lit (.int .u32 773529912), .lit (.int .u32 1294757372), .lit (.int .u32 1396182291), .lit (.int .u32 1695183700), .lit (.int .u32 1986661051), .lit (.int .u32 2177026350), .lit (.int .u32 2456956037), .lit (.int .u32 2730485921), .lit (.int .u32 2820302411), .lit (.int .u32 3259730800), .lit (.int .u32 3345764771), .lit (.int .u32 3516065817), .lit (.int .u32 3600352804), .lit (.int .u32 4094571909), .lit (.int .u32 275423344), .lit (.int .u32 430227734), .lit (.int .u32 506948616), .lit (.int .u32 659060556), .lit (.int .u32 883997877), .lit (.int .u32 958139571), .lit (.int .u32 1322822218), .lit (.int .u32 1537002063), .lit (.int .u32 1747873779), .lit (.int .u32 1955562222), .lit (.int .u32 2024104815), .lit (.int .u32 2227730452), .lit (.int .u32 2361852424), .lit (.int .u32 2428436474), .lit (.int .u32 2756734187), .lit (.int .u32 3204031479), .lit (.int .u32 3329325298)]

/-- 'suffraganlaw08.CanonPrints': WHATEVER THE INPUT: true; the input reads as it did. -/
def canonPrintsSpec : ChangeSpec := { name := "canonPrints", fn := fun _ => fun
  | [d] => { results := [.lit (.bool true)], args := [d] }
  | _ => none }
def canonPrintsRow : OpenClaim := { program := "ytbpfabhlngfciaagreatdoor", sum := "4f445b5be68f2e918bd45b43a77f07e14b641b48a20b21af3c862b6e01df568f", func := "suffragan/suffraganlaw08.CanonPrints", spec := "canonPrints", inPlace := ["internal/bytealg.IndexByteString", "internal/abi.NoEscape", "internal/bytealg.MakeNoZero"], unfollowed := true, recurses := true, named := ["suffragan/parse.words", "internal/strconv.uint64pow10", "math/bits.deBruijn32tab", "math/bits.deBruijn64tab", "suffragan/sha.first", "suffragan/sha.roots"], apart := false, laid := [("math/bits.deBruijn32tab", laid_math_bits_deBruijn32tab), ("math/bits.deBruijn64tab", laid_math_bits_deBruijn64tab), ("internal/strconv.uint64pow10", laid_internal_strconv_uint64pow10), ("suffragan/parse.words", laid_suffragan_parse_words), ("suffragan/sha.first", laid_suffragan_sha_first), ("suffragan/sha.roots", laid_suffragan_sha_roots)] }
def CanonPrintsSaid : Prop := canonPrintsRow.holds Tryz.pinned (OpenSpec.ofChange canonPrintsSpec)

/-- ITS FALSE NEIGHBOUR: 'it returns false'. Refute it at one input. -/
def canonPrintsWrong : ChangeSpec := { name := "canonPrints", fn := fun _ => fun
  | [d] => { results := [.lit (.bool false)], args := [d] }
  | _ => none }
def CanonPrintsWrongFalsely : Prop := canonPrintsRow.holds Tryz.pinned (OpenSpec.ofChange canonPrintsWrong)

/-- 'suffraganlaw08.CanonBlanks': WHATEVER THE INPUT: true; the input reads as it did. -/
def canonBlanksSpec : ChangeSpec := { name := "canonBlanks", fn := fun _ => fun
  | [d1, d2, d3] => { results := [.lit (.bool true)], args := [d1, d2, d3] }
  | _ => none }
def canonBlanksRow : OpenClaim := { program := "ytbpfabhlngfciaagreatdoor", sum := "4f445b5be68f2e918bd45b43a77f07e14b641b48a20b21af3c862b6e01df568f", func := "suffragan/suffraganlaw08.CanonBlanks", spec := "canonBlanks", inPlace := ["internal/bytealg.IndexByteString", "internal/abi.NoEscape", "internal/bytealg.MakeNoZero"], unfollowed := true, recurses := true, named := ["suffragan/parse.words", "internal/strconv.uint64pow10", "math/bits.deBruijn32tab", "math/bits.deBruijn64tab", "suffragan/sha.first", "suffragan/sha.roots"], apart := false, laid := [("math/bits.deBruijn32tab", laid_math_bits_deBruijn32tab), ("math/bits.deBruijn64tab", laid_math_bits_deBruijn64tab), ("internal/strconv.uint64pow10", laid_internal_strconv_uint64pow10), ("suffragan/parse.words", laid_suffragan_parse_words), ("suffragan/sha.first", laid_suffragan_sha_first), ("suffragan/sha.roots", laid_suffragan_sha_roots)] }
def CanonBlanksSaid : Prop := canonBlanksRow.holds Tryz.pinned (OpenSpec.ofChange canonBlanksSpec)

/-- ITS FALSE NEIGHBOUR: 'it returns false'. Refute it at one input. -/
def canonBlanksWrong : ChangeSpec := { name := "canonBlanks", fn := fun _ => fun
  | [d1, d2, d3] => { results := [.lit (.bool false)], args := [d1, d2, d3] }
  | _ => none }
def CanonBlanksWrongFalsely : Prop := canonBlanksRow.holds Tryz.pinned (OpenSpec.ofChange canonBlanksWrong)

/-- 'suffraganlaw08.CanonApart': WHATEVER THE INPUT: true; the input reads as it did. -/
def canonApartSpec : ChangeSpec := { name := "canonApart", fn := fun _ => fun
  | [d1, d2] => { results := [.lit (.bool true)], args := [d1, d2] }
  | _ => none }
def canonApartRow : OpenClaim := { program := "ytbpfabhlngfciaagreatdoor", sum := "4f445b5be68f2e918bd45b43a77f07e14b641b48a20b21af3c862b6e01df568f", func := "suffragan/suffraganlaw08.CanonApart", spec := "canonApart", inPlace := ["internal/bytealg.IndexByteString", "internal/abi.NoEscape", "internal/bytealg.MakeNoZero"], unfollowed := true, recurses := true, named := ["suffragan/parse.words", "internal/strconv.uint64pow10", "math/bits.deBruijn32tab", "math/bits.deBruijn64tab", "suffragan/sha.first", "suffragan/sha.roots"], apart := false, laid := [("math/bits.deBruijn32tab", laid_math_bits_deBruijn32tab), ("math/bits.deBruijn64tab", laid_math_bits_deBruijn64tab), ("internal/strconv.uint64pow10", laid_internal_strconv_uint64pow10), ("suffragan/parse.words", laid_suffragan_parse_words), ("suffragan/sha.first", laid_suffragan_sha_first), ("suffragan/sha.roots", laid_suffragan_sha_roots)] }
def CanonApartSaid : Prop := canonApartRow.holds Tryz.pinned (OpenSpec.ofChange canonApartSpec)

/-- ITS FALSE NEIGHBOUR: 'it returns false'. Refute it at one input. -/
def canonApartWrong : ChangeSpec := { name := "canonApart", fn := fun _ => fun
  | [d1, d2] => { results := [.lit (.bool false)], args := [d1, d2] }
  | _ => none }
def CanonApartWrongFalsely : Prop := canonApartRow.holds Tryz.pinned (OpenSpec.ofChange canonApartWrong)

/-- 'suffraganlaw08.CanonTexts': WHATEVER THE INPUT: true; the input reads as it did. -/
def canonTextsSpec : ChangeSpec := { name := "canonTexts", fn := fun _ => fun
  | [d] => { results := [.lit (.bool true)], args := [d] }
  | _ => none }
def canonTextsRow : OpenClaim := { program := "ytbpfabhlngfciaagreatdoor", sum := "4f445b5be68f2e918bd45b43a77f07e14b641b48a20b21af3c862b6e01df568f", func := "suffragan/suffraganlaw08.CanonTexts", spec := "canonTexts", inPlace := ["internal/bytealg.IndexByteString", "internal/abi.NoEscape", "internal/bytealg.MakeNoZero"], unfollowed := true, recurses := true, named := ["suffragan/parse.words", "internal/strconv.uint64pow10", "math/bits.deBruijn32tab", "math/bits.deBruijn64tab", "suffragan/sha.first", "suffragan/sha.roots"], apart := false, laid := [("math/bits.deBruijn32tab", laid_math_bits_deBruijn32tab), ("math/bits.deBruijn64tab", laid_math_bits_deBruijn64tab), ("internal/strconv.uint64pow10", laid_internal_strconv_uint64pow10), ("suffragan/parse.words", laid_suffragan_parse_words), ("suffragan/sha.first", laid_suffragan_sha_first), ("suffragan/sha.roots", laid_suffragan_sha_roots)] }
def CanonTextsSaid : Prop := canonTextsRow.holds Tryz.pinned (OpenSpec.ofChange canonTextsSpec)

/-- ITS FALSE NEIGHBOUR: 'it returns false'. Refute it at one input. -/
def canonTextsWrong : ChangeSpec := { name := "canonTexts", fn := fun _ => fun
  | [d] => { results := [.lit (.bool false)], args := [d] }
  | _ => none }
def CanonTextsWrongFalsely : Prop := canonTextsRow.holds Tryz.pinned (OpenSpec.ofChange canonTextsWrong)

/-- 'suffraganlaw08.CanonLogs': WHATEVER THE INPUT: true; the input reads as it did. -/
def canonLogsSpec : ChangeSpec := { name := "canonLogs", fn := fun _ => fun
  | [d] => { results := [.lit (.bool true)], args := [d] }
  | _ => none }
def canonLogsRow : OpenClaim := { program := "ytbpfabhlngfciaagreatdoor", sum := "4f445b5be68f2e918bd45b43a77f07e14b641b48a20b21af3c862b6e01df568f", func := "suffragan/suffraganlaw08.CanonLogs", spec := "canonLogs", inPlace := ["internal/bytealg.IndexByteString", "internal/abi.NoEscape", "internal/bytealg.MakeNoZero"], unfollowed := true, recurses := true, named := ["suffragan/sha.first", "suffragan/sha.roots", "suffragan/parse.words", "internal/strconv.uint64pow10", "math/bits.deBruijn32tab", "math/bits.deBruijn64tab"], apart := false, laid := [("math/bits.deBruijn32tab", laid_math_bits_deBruijn32tab), ("math/bits.deBruijn64tab", laid_math_bits_deBruijn64tab), ("internal/strconv.uint64pow10", laid_internal_strconv_uint64pow10), ("suffragan/parse.words", laid_suffragan_parse_words), ("suffragan/sha.first", laid_suffragan_sha_first), ("suffragan/sha.roots", laid_suffragan_sha_roots)] }
def CanonLogsSaid : Prop := canonLogsRow.holds Tryz.pinned (OpenSpec.ofChange canonLogsSpec)

/-- ITS FALSE NEIGHBOUR: 'it returns false'. Refute it at one input. -/
def canonLogsWrong : ChangeSpec := { name := "canonLogs", fn := fun _ => fun
  | [d] => { results := [.lit (.bool false)], args := [d] }
  | _ => none }
def CanonLogsWrongFalsely : Prop := canonLogsRow.holds Tryz.pinned (OpenSpec.ofChange canonLogsWrong)

/-- 'suffraganlaw17.ChainPuts': WHATEVER THE INPUT: true; the input reads as it did. -/
def chainPutsSpec : ChangeSpec := { name := "chainPuts", fn := fun _ => fun
  | [d1, d2] => { results := [.lit (.bool true)], args := [d1, d2] }
  | _ => none }
def chainPutsRow : OpenClaim := { program := "ytbpfabhlngfciaagreatdoor", sum := "4f445b5be68f2e918bd45b43a77f07e14b641b48a20b21af3c862b6e01df568f", func := "suffragan/suffraganlaw17.ChainPuts", spec := "chainPuts", inPlace := ["internal/bytealg.IndexByteString", "internal/abi.NoEscape", "internal/bytealg.MakeNoZero"], unfollowed := true, recurses := true, named := ["suffragan/parse.words", "internal/strconv.uint64pow10", "math/bits.deBruijn32tab", "math/bits.deBruijn64tab"], apart := false, laid := [("math/bits.deBruijn32tab", laid_math_bits_deBruijn32tab), ("math/bits.deBruijn64tab", laid_math_bits_deBruijn64tab), ("internal/strconv.uint64pow10", laid_internal_strconv_uint64pow10), ("suffragan/parse.words", laid_suffragan_parse_words)] }
def ChainPutsSaid : Prop := chainPutsRow.holds Tryz.pinned (OpenSpec.ofChange chainPutsSpec)

/-- ITS FALSE NEIGHBOUR: 'it returns false'. Refute it at one input. -/
def chainPutsWrong : ChangeSpec := { name := "chainPuts", fn := fun _ => fun
  | [d1, d2] => { results := [.lit (.bool false)], args := [d1, d2] }
  | _ => none }
def ChainPutsWrongFalsely : Prop := chainPutsRow.holds Tryz.pinned (OpenSpec.ofChange chainPutsWrong)

/-- 'suffraganlaw17.ChainTakes': WHATEVER THE INPUT: true; the input reads as it did. -/
def chainTakesSpec : ChangeSpec := { name := "chainTakes", fn := fun _ => fun
  | [d] => { results := [.lit (.bool true)], args := [d] }
  | _ => none }
def chainTakesRow : OpenClaim := { program := "ytbpfabhlngfciaagreatdoor", sum := "4f445b5be68f2e918bd45b43a77f07e14b641b48a20b21af3c862b6e01df568f", func := "suffragan/suffraganlaw17.ChainTakes", spec := "chainTakes", inPlace := ["internal/bytealg.IndexByteString", "internal/abi.NoEscape", "internal/bytealg.MakeNoZero"], unfollowed := true, recurses := true, named := ["suffragan/parse.words", "internal/strconv.uint64pow10", "math/bits.deBruijn32tab", "math/bits.deBruijn64tab"], apart := false, laid := [("math/bits.deBruijn32tab", laid_math_bits_deBruijn32tab), ("math/bits.deBruijn64tab", laid_math_bits_deBruijn64tab), ("internal/strconv.uint64pow10", laid_internal_strconv_uint64pow10), ("suffragan/parse.words", laid_suffragan_parse_words)] }
def ChainTakesSaid : Prop := chainTakesRow.holds Tryz.pinned (OpenSpec.ofChange chainTakesSpec)

/-- ITS FALSE NEIGHBOUR: 'it returns false'. Refute it at one input. -/
def chainTakesWrong : ChangeSpec := { name := "chainTakes", fn := fun _ => fun
  | [d] => { results := [.lit (.bool false)], args := [d] }
  | _ => none }
def ChainTakesWrongFalsely : Prop := chainTakesRow.holds Tryz.pinned (OpenSpec.ofChange chainTakesWrong)

/-- 'suffraganlaw17.ChainDigests': WHATEVER THE INPUT: true; the input reads as it did. -/
def chainDigestsSpec : ChangeSpec := { name := "chainDigests", fn := fun _ => fun
  | [d1, d2, d3] => { results := [.lit (.bool true)], args := [d1, d2, d3] }
  | _ => none }
def chainDigestsRow : OpenClaim := { program := "ytbpfabhlngfciaagreatdoor", sum := "4f445b5be68f2e918bd45b43a77f07e14b641b48a20b21af3c862b6e01df568f", func := "suffragan/suffraganlaw17.ChainDigests", spec := "chainDigests", inPlace := ["internal/bytealg.IndexByteString", "internal/abi.NoEscape", "internal/bytealg.MakeNoZero"], unfollowed := true, recurses := true, named := ["suffragan/parse.words", "internal/strconv.uint64pow10", "math/bits.deBruijn32tab", "math/bits.deBruijn64tab", "suffragan/sha.first", "suffragan/sha.roots"], apart := false, laid := [("math/bits.deBruijn32tab", laid_math_bits_deBruijn32tab), ("math/bits.deBruijn64tab", laid_math_bits_deBruijn64tab), ("internal/strconv.uint64pow10", laid_internal_strconv_uint64pow10), ("suffragan/parse.words", laid_suffragan_parse_words), ("suffragan/sha.first", laid_suffragan_sha_first), ("suffragan/sha.roots", laid_suffragan_sha_roots)] }
def ChainDigestsSaid : Prop := chainDigestsRow.holds Tryz.pinned (OpenSpec.ofChange chainDigestsSpec)

/-- ITS FALSE NEIGHBOUR: 'it returns false'. Refute it at one input. -/
def chainDigestsWrong : ChangeSpec := { name := "chainDigests", fn := fun _ => fun
  | [d1, d2, d3] => { results := [.lit (.bool false)], args := [d1, d2, d3] }
  | _ => none }
def ChainDigestsWrongFalsely : Prop := chainDigestsRow.holds Tryz.pinned (OpenSpec.ofChange chainDigestsWrong)

/- THE SECOND FORM. 'bulk': how many values and letters a reading holds, each counted each time it is reached (what is shared counts as often as it is met; a slice's spare places count too). A statement '..UptoSaid' is the law's where the arguments, and the package variables that the reading takes, are together of bulk at most 1048576: NARROWER than '..Said'. Prove '..Said' where nothing that the law and all that it calls make is longer than what came in: it says more and counts as full. Else prove '..UptoSaid'. A law counts once. -/
mutual
def uptoBulk {H : Type} : DataW H → Nat
  | .lit (.string bytes) => bytes.length + 1
  | .lit _ => 1
  | .nil => 1
  | .ptr d => uptoBulk d + 1
  | .slice elems spare => uptoBulkAll elems + uptoBulkAll spare + 1
  | .agg parts => uptoBulkAll parts + 1
  | .iface _ d => uptoBulk d + 1
  | .map entries => uptoBulkEntries entries + 1
  | .held _ => 1
def uptoBulkAll {H : Type} : List (DataW H) → Nat
  | [] => 0
  | d :: r => uptoBulk d + uptoBulkAll r
def uptoBulkEntries {H : Type} : List (Lit × DataW H) → Nat
  | [] => 0
  | x :: r => uptoBulkEntry x + uptoBulkEntries r
def uptoBulkEntry {H : Type} : Lit × DataW H → Nat
  | (.string bytes, d) => bytes.length + uptoBulk d + 1
  | (_, d) => uptoBulk d + 1
 end
def uptoSmall : (H : Type) → List (DataW H) → Bool := fun _ ds => decide (uptoBulkAll ds ≤ 1048576)
def OpenSpec.upto (s : _root_.Go.ChangeSpec) : _root_.Go.OpenSpec := { _root_.Go.OpenSpec.ofChange s with cond := some uptoSmall }

/-- 'suffraganlaw08.CanonPrints', WHERE WHAT IT READS IS OF BULK AT MOST 1048576: true; the input reads as it did. -/
def canonPrintsUptoRow : OpenClaim := { program := "ytbpfabhlngfciaagreatdoor", sum := "4f445b5be68f2e918bd45b43a77f07e14b641b48a20b21af3c862b6e01df568f", func := "suffragan/suffraganlaw08.CanonPrints", spec := "canonPrints", inPlace := ["internal/bytealg.IndexByteString", "internal/abi.NoEscape", "internal/bytealg.MakeNoZero"], unfollowed := true, recurses := true, named := ["suffragan/parse.words", "internal/strconv.uint64pow10", "math/bits.deBruijn32tab", "math/bits.deBruijn64tab", "suffragan/sha.first", "suffragan/sha.roots"], apart := false, laid := [("math/bits.deBruijn32tab", laid_math_bits_deBruijn32tab), ("math/bits.deBruijn64tab", laid_math_bits_deBruijn64tab), ("internal/strconv.uint64pow10", laid_internal_strconv_uint64pow10), ("suffragan/parse.words", laid_suffragan_parse_words), ("suffragan/sha.first", laid_suffragan_sha_first), ("suffragan/sha.roots", laid_suffragan_sha_roots)], narrowed := true }
def CanonPrintsUptoSaid : Prop := canonPrintsUptoRow.holds Tryz.pinned (OpenSpec.upto canonPrintsSpec)

/-- 'suffraganlaw08.CanonBlanks', WHERE WHAT IT READS IS OF BULK AT MOST 1048576: true; the input reads as it did. -/
def canonBlanksUptoRow : OpenClaim := { program := "ytbpfabhlngfciaagreatdoor", sum := "4f445b5be68f2e918bd45b43a77f07e14b641b48a20b21af3c862b6e01df568f", func := "suffragan/suffraganlaw08.CanonBlanks", spec := "canonBlanks", inPlace := ["internal/bytealg.IndexByteString", "internal/abi.NoEscape", "internal/bytealg.MakeNoZero"], unfollowed := true, recurses := true, named := ["suffragan/parse.words", "internal/strconv.uint64pow10", "math/bits.deBruijn32tab", "math/bits.deBruijn64tab", "suffragan/sha.first", "suffragan/sha.roots"], apart := false, laid := [("math/bits.deBruijn32tab", laid_math_bits_deBruijn32tab), ("math/bits.deBruijn64tab", laid_math_bits_deBruijn64tab), ("internal/strconv.uint64pow10", laid_internal_strconv_uint64pow10), ("suffragan/parse.words", laid_suffragan_parse_words), ("suffragan/sha.first", laid_suffragan_sha_first), ("suffragan/sha.roots", laid_suffragan_sha_roots)], narrowed := true }
def CanonBlanksUptoSaid : Prop := canonBlanksUptoRow.holds Tryz.pinned (OpenSpec.upto canonBlanksSpec)

/-- 'suffraganlaw08.CanonApart', WHERE WHAT IT READS IS OF BULK AT MOST 1048576: true; the input reads as it did. -/
def canonApartUptoRow : OpenClaim := { program := "ytbpfabhlngfciaagreatdoor", sum := "4f445b5be68f2e918bd45b43a77f07e14b641b48a20b21af3c862b6e01df568f", func := "suffragan/suffraganlaw08.CanonApart", spec := "canonApart", inPlace := ["internal/bytealg.IndexByteString", "internal/abi.NoEscape", "internal/bytealg.MakeNoZero"], unfollowed := true, recurses := true, named := ["suffragan/parse.words", "internal/strconv.uint64pow10", "math/bits.deBruijn32tab", "math/bits.deBruijn64tab", "suffragan/sha.first", "suffragan/sha.roots"], apart := false, laid := [("math/bits.deBruijn32tab", laid_math_bits_deBruijn32tab), ("math/bits.deBruijn64tab", laid_math_bits_deBruijn64tab), ("internal/strconv.uint64pow10", laid_internal_strconv_uint64pow10), ("suffragan/parse.words", laid_suffragan_parse_words), ("suffragan/sha.first", laid_suffragan_sha_first), ("suffragan/sha.roots", laid_suffragan_sha_roots)], narrowed := true }
def CanonApartUptoSaid : Prop := canonApartUptoRow.holds Tryz.pinned (OpenSpec.upto canonApartSpec)

/-- 'suffraganlaw08.CanonTexts', WHERE WHAT IT READS IS OF BULK AT MOST 1048576: true; the input reads as it did. -/
def canonTextsUptoRow : OpenClaim := { program := "ytbpfabhlngfciaagreatdoor", sum := "4f445b5be68f2e918bd45b43a77f07e14b641b48a20b21af3c862b6e01df568f", func := "suffragan/suffraganlaw08.CanonTexts", spec := "canonTexts", inPlace := ["internal/bytealg.IndexByteString", "internal/abi.NoEscape", "internal/bytealg.MakeNoZero"], unfollowed := true, recurses := true, named := ["suffragan/parse.words", "internal/strconv.uint64pow10", "math/bits.deBruijn32tab", "math/bits.deBruijn64tab", "suffragan/sha.first", "suffragan/sha.roots"], apart := false, laid := [("math/bits.deBruijn32tab", laid_math_bits_deBruijn32tab), ("math/bits.deBruijn64tab", laid_math_bits_deBruijn64tab), ("internal/strconv.uint64pow10", laid_internal_strconv_uint64pow10), ("suffragan/parse.words", laid_suffragan_parse_words), ("suffragan/sha.first", laid_suffragan_sha_first), ("suffragan/sha.roots", laid_suffragan_sha_roots)], narrowed := true }
def CanonTextsUptoSaid : Prop := canonTextsUptoRow.holds Tryz.pinned (OpenSpec.upto canonTextsSpec)

/-- 'suffraganlaw08.CanonLogs', WHERE WHAT IT READS IS OF BULK AT MOST 1048576: true; the input reads as it did. -/
def canonLogsUptoRow : OpenClaim := { program := "ytbpfabhlngfciaagreatdoor", sum := "4f445b5be68f2e918bd45b43a77f07e14b641b48a20b21af3c862b6e01df568f", func := "suffragan/suffraganlaw08.CanonLogs", spec := "canonLogs", inPlace := ["internal/bytealg.IndexByteString", "internal/abi.NoEscape", "internal/bytealg.MakeNoZero"], unfollowed := true, recurses := true, named := ["suffragan/sha.first", "suffragan/sha.roots", "suffragan/parse.words", "internal/strconv.uint64pow10", "math/bits.deBruijn32tab", "math/bits.deBruijn64tab"], apart := false, laid := [("math/bits.deBruijn32tab", laid_math_bits_deBruijn32tab), ("math/bits.deBruijn64tab", laid_math_bits_deBruijn64tab), ("internal/strconv.uint64pow10", laid_internal_strconv_uint64pow10), ("suffragan/parse.words", laid_suffragan_parse_words), ("suffragan/sha.first", laid_suffragan_sha_first), ("suffragan/sha.roots", laid_suffragan_sha_roots)], narrowed := true }
def CanonLogsUptoSaid : Prop := canonLogsUptoRow.holds Tryz.pinned (OpenSpec.upto canonLogsSpec)

/-- 'suffraganlaw17.ChainPuts', WHERE WHAT IT READS IS OF BULK AT MOST 1048576: true; the input reads as it did. -/
def chainPutsUptoRow : OpenClaim := { program := "ytbpfabhlngfciaagreatdoor", sum := "4f445b5be68f2e918bd45b43a77f07e14b641b48a20b21af3c862b6e01df568f", func := "suffragan/suffraganlaw17.ChainPuts", spec := "chainPuts", inPlace := ["internal/bytealg.IndexByteString", "internal/abi.NoEscape", "internal/bytealg.MakeNoZero"], unfollowed := true, recurses := true, named := ["suffragan/parse.words", "internal/strconv.uint64pow10", "math/bits.deBruijn32tab", "math/bits.deBruijn64tab"], apart := false, laid := [("math/bits.deBruijn32tab", laid_math_bits_deBruijn32tab), ("math/bits.deBruijn64tab", laid_math_bits_deBruijn64tab), ("internal/strconv.uint64pow10", laid_internal_strconv_uint64pow10), ("suffragan/parse.words", laid_suffragan_parse_words)], narrowed := true }
def ChainPutsUptoSaid : Prop := chainPutsUptoRow.holds Tryz.pinned (OpenSpec.upto chainPutsSpec)

/-- 'suffraganlaw17.ChainTakes', WHERE WHAT IT READS IS OF BULK AT MOST 1048576: true; the input reads as it did. -/
def chainTakesUptoRow : OpenClaim := { program := "ytbpfabhlngfciaagreatdoor", sum := "4f445b5be68f2e918bd45b43a77f07e14b641b48a20b21af3c862b6e01df568f", func := "suffragan/suffraganlaw17.ChainTakes", spec := "chainTakes", inPlace := ["internal/bytealg.IndexByteString", "internal/abi.NoEscape", "internal/bytealg.MakeNoZero"], unfollowed := true, recurses := true, named := ["suffragan/parse.words", "internal/strconv.uint64pow10", "math/bits.deBruijn32tab", "math/bits.deBruijn64tab"], apart := false, laid := [("math/bits.deBruijn32tab", laid_math_bits_deBruijn32tab), ("math/bits.deBruijn64tab", laid_math_bits_deBruijn64tab), ("internal/strconv.uint64pow10", laid_internal_strconv_uint64pow10), ("suffragan/parse.words", laid_suffragan_parse_words)], narrowed := true }
def ChainTakesUptoSaid : Prop := chainTakesUptoRow.holds Tryz.pinned (OpenSpec.upto chainTakesSpec)

/-- 'suffraganlaw17.ChainDigests', WHERE WHAT IT READS IS OF BULK AT MOST 1048576: true; the input reads as it did. -/
def chainDigestsUptoRow : OpenClaim := { program := "ytbpfabhlngfciaagreatdoor", sum := "4f445b5be68f2e918bd45b43a77f07e14b641b48a20b21af3c862b6e01df568f", func := "suffragan/suffraganlaw17.ChainDigests", spec := "chainDigests", inPlace := ["internal/bytealg.IndexByteString", "internal/abi.NoEscape", "internal/bytealg.MakeNoZero"], unfollowed := true, recurses := true, named := ["suffragan/parse.words", "internal/strconv.uint64pow10", "math/bits.deBruijn32tab", "math/bits.deBruijn64tab", "suffragan/sha.first", "suffragan/sha.roots"], apart := false, laid := [("math/bits.deBruijn32tab", laid_math_bits_deBruijn32tab), ("math/bits.deBruijn64tab", laid_math_bits_deBruijn64tab), ("internal/strconv.uint64pow10", laid_internal_strconv_uint64pow10), ("suffragan/parse.words", laid_suffragan_parse_words), ("suffragan/sha.first", laid_suffragan_sha_first), ("suffragan/sha.roots", laid_suffragan_sha_roots)], narrowed := true }
def ChainDigestsUptoSaid : Prop := chainDigestsUptoRow.holds Tryz.pinned (OpenSpec.upto chainDigestsSpec)

end Rows
end Go.Proofs.YtbpfabhlngfciaaGreatDoor
