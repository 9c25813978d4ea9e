/-
  NARROWER THAN 'FOR EVERY INPUT', by the rows' own cells (each row's printed sentence says how): PrintOne: laid · PrintSyms: laid · GramNums: laid · GramLevels: laid · GramInner: laid · GramLimits: laid · GramPasses: laid · GramStart: laid · GramTags: laid.
  DERIVED. THE GIVEN ROWS OF THIS SEAT. 9 by the template 'for every input the law returns true; each argument reads behind the call as it read before'; 0 by the template 'total and deterministic' (their statements: YthmimcegiihcnaaDoorTotals.lean).
  GIVEN WITH THE SEED: the statements are not yours to turn. If you find one false, say at which input.
  Laid BY PROGRAM, IN A SANDBOX (cutbox-rows.mjs): the forced cells as the released guide's own fill.sh prints them over the translation 9ac2f3fa0da51571… (all of the seat's roots in one cut). By AI agents, Wed Nov 11 2026. No macro, syntax, notation, axiom, sorry.
-/
import Derived.Test.YthmimcegiihcnaaDoorChecked
import GoSem.Claim
import GoSem.ClaimJoined
import GoSem.ClaimMapViews
import Derived.JoinedTies
import Derived.KernelRfl
namespace Go.Proofs.YthmimcegiihcnaaDoor
/- THE CELL 'sum', in the pinned program and in every row, IS THE sha256 OF THE DUMP (.gsa) THAT YthmimcegiihcnaaDoorProg.lean LOADS. Nothing in Lean hashes anything: it is a label: what it is worth is what the hold of that sum in a sandbox is worth. -/
noncomputable def Tryd.pinned : Pinned := { name := "ythmimcegiihcnaadoor", sum := "9ac2f3fa0da515714a63da65e064f5951d3aa901b793df64ca3356711120ba5c", checked := Tryd.checked }
namespace Rows
def none {H : Type} : Left H := { results := [], args := [] }

/- WHAT THE LISTED PACKAGE-LEVEL VARIABLES READ AS WHEN THE CALL BEGINS. Each datum BY PROGRAM (the guide's laid-datum.mjs) off the statement by which the dump's own 'gosem.cut.vars' lays the variable. In a bare row this is a premise. The card (YthmimcegiihcnaaDoorCards.lean) ties it to the program's text. -/
def laid_math_bits_deBruijn32tab {H : Type} : DataW H := .agg [.lit (.int .u8 0), .lit (.int .u8 1), .lit (.int .u8 28), .lit (.int .u8 2), .lit (.int .u8 29), .lit (.int .u8 14), .lit (.int .u8 24), .lit (.int .u8 3), .lit (.int .u8 30), .lit (.int .u8 22), .lit (.int .u8 20), .lit (.int .u8 15), .lit (.int .u8 25), .lit (.int .u8 17), .lit (.int .u8 4), .lit (.int .u8 8), .lit (.int .u8 31), .lit (.int .u8 27), .lit (.int .u8 13), .lit (.int .u8 23), .lit (.int .u8 21), .lit (.int .u8 19), .lit (.int .u8 16), .lit (.int .u8 7), .lit (.int .u8 26), .lit (.int .u8 12), .lit (.int .u8 18), .lit (.int .u8 6), .lit (.int .u8 11), .lit (.int .u8 5), .lit (.int .u8 10), .lit (.int .u8 9)]
def laid_math_bits_deBruijn64tab {H : Type} : DataW H := .agg [.lit (.int .u8 0), .lit (.int .u8 1), .lit (.int .u8 56), .lit (.int .u8 2), .lit (.int .u8 57), .lit (.int .u8 49), .lit (.int .u8 28), .lit (.int .u8 3), .lit (.int .u8 61), .lit (.int .u8 58), .lit (.int .u8 42), .lit (.int .u8 50), .lit (.int .u8 38), .lit (.int .u8 29), .lit (.int .u8 17), .lit (.int .u8 4), .lit (.int .u8 62), .lit (.int .u8 47), .lit (.int .u8 59), .lit (.int .u8 36), .lit (.int .u8 45), .lit (.int .u8 43), .lit (.int .u8 51), .lit (.int .u8 22), .lit (.int .u8 53), .lit (.int .u8 39), .lit (.int .u8 33), .lit (.int .u8 30), .lit (.int .u8 24), .lit (.int .u8 18), .lit (.int .u8 12), .lit (.int .u8 5), .lit (.int .u8 63), .lit (.int .u8 55), .lit (.int .u8 48), .lit (.int .u8 27), .lit (.int .u8 60), .lit (.int .u8 41), .lit (.int .u8 37), .lit (.int .u8 16), .lit (.int .u8 46), .lit (.int .u8 35), .lit (.int .u8 44), .lit (.int .u8 21), .lit (.int .u8 52), .lit (.int .u8 32), .lit (.int .u8 23), .lit (.int .u8 11), .lit (.int .u8 54), .lit (.int .u8 26), .lit (.int .u8 40), .lit (.int .u8 15), .lit (.int .u8 34), .lit (.int .u8 20), .lit (.int .u8 31), .lit (.int .u8 10), .lit (.int .u8 25), .lit (.int .u8 14), .lit (.int .u8 19), .lit (.int .u8 9), .lit (.int .u8 13), .lit (.int .u8 8), .lit (.int .u8 7), .lit (.int .u8 6)]
def laid_internal_strconv_uint64pow10 {H : Type} : DataW H := .agg [.lit (.int .u64 1), .lit (.int .u64 10), .lit (.int .u64 100), .lit (.int .u64 1000), .lit (.int .u64 10000), .lit (.int .u64 100000), .lit (.int .u64 1000000), .lit (.int .u64 10000000), .lit (.int .u64 100000000), .lit (.int .u64 1000000000), .lit (.int .u64 10000000000), .lit (.int .u64 100000000000), .lit (.int .u64 1000000000000), .lit (.int .u64 10000000000000), .lit (.int .u64 100000000000000), .lit (.int .u64 1000000000000000), .lit (.int .u64 10000000000000000), .lit (.int .u64 100000000000000000), .lit (.int .u64 1000000000000000000), .lit (.int .u64 10000000000000000000)]

/-- 'yuccalaw8.PrintOne': WHATEVER THE INPUT: true; the input reads as it did. -/
def printOneSpec : ChangeSpec := { name := "printOne", fn := fun _ => fun
  | [d1, d2, d3] => { results := [.lit (.bool true)], args := [d1, d2, d3] }
  | _ => none }
def printOneRow : OpenClaim := { program := "ythmimcegiihcnaadoor", sum := "9ac2f3fa0da515714a63da65e064f5951d3aa901b793df64ca3356711120ba5c", func := "yucca/yuccalaw8.PrintOne", spec := "printOne", inPlace := ["internal/bytealg.IndexByteString", "internal/bytealg.IndexString", "internal/abi.NoEscape", "internal/bytealg.MakeNoZero"], unfollowed := true, recurses := true, named := ["internal/bytealg.MaxLen", "internal/strconv.uint64pow10", "math/bits.deBruijn32tab", "math/bits.deBruijn64tab"], plainKeys := false, apart := false, laid := [("math/bits.deBruijn32tab", laid_math_bits_deBruijn32tab), ("math/bits.deBruijn64tab", laid_math_bits_deBruijn64tab), ("internal/strconv.uint64pow10", laid_internal_strconv_uint64pow10)] }
def PrintOneSaid : Prop := printOneRow.holds Tryd.pinned (OpenSpec.ofChange printOneSpec)

/-- ITS FALSE NEIGHBOUR: 'it returns false'. Refute it at one input. -/
def printOneWrong : ChangeSpec := { name := "printOne", fn := fun _ => fun
  | [d1, d2, d3] => { results := [.lit (.bool false)], args := [d1, d2, d3] }
  | _ => none }
def PrintOneWrongFalsely : Prop := printOneRow.holds Tryd.pinned (OpenSpec.ofChange printOneWrong)

/-- 'yuccalaw8.PrintSyms': WHATEVER THE INPUT: true; the input reads as it did. -/
def printSymsSpec : ChangeSpec := { name := "printSyms", fn := fun _ => fun
  | [d1, d2, d3] => { results := [.lit (.bool true)], args := [d1, d2, d3] }
  | _ => none }
def printSymsRow : OpenClaim := { program := "ythmimcegiihcnaadoor", sum := "9ac2f3fa0da515714a63da65e064f5951d3aa901b793df64ca3356711120ba5c", func := "yucca/yuccalaw8.PrintSyms", spec := "printSyms", inPlace := ["internal/bytealg.IndexByteString", "internal/bytealg.IndexString", "internal/abi.NoEscape", "internal/bytealg.MakeNoZero"], unfollowed := true, recurses := true, named := ["internal/bytealg.MaxLen", "internal/strconv.uint64pow10", "math/bits.deBruijn32tab", "math/bits.deBruijn64tab"], plainKeys := false, apart := false, laid := [("math/bits.deBruijn32tab", laid_math_bits_deBruijn32tab), ("math/bits.deBruijn64tab", laid_math_bits_deBruijn64tab), ("internal/strconv.uint64pow10", laid_internal_strconv_uint64pow10)] }
def PrintSymsSaid : Prop := printSymsRow.holds Tryd.pinned (OpenSpec.ofChange printSymsSpec)

/-- ITS FALSE NEIGHBOUR: 'it returns false'. Refute it at one input. -/
def printSymsWrong : ChangeSpec := { name := "printSyms", fn := fun _ => fun
  | [d1, d2, d3] => { results := [.lit (.bool false)], args := [d1, d2, d3] }
  | _ => none }
def PrintSymsWrongFalsely : Prop := printSymsRow.holds Tryd.pinned (OpenSpec.ofChange printSymsWrong)

/-- 'yuccalaw9.GramNums': WHATEVER THE INPUT: true; the input reads as it did. -/
def gramNumsSpec : ChangeSpec := { name := "gramNums", fn := fun _ => fun
  | [d] => { results := [.lit (.bool true)], args := [d] }
  | _ => none }
def gramNumsRow : OpenClaim := { program := "ythmimcegiihcnaadoor", sum := "9ac2f3fa0da515714a63da65e064f5951d3aa901b793df64ca3356711120ba5c", func := "yucca/yuccalaw9.GramNums", spec := "gramNums", inPlace := ["internal/bytealg.IndexByteString", "internal/bytealg.IndexString"], unfollowed := true, recurses := true, named := ["internal/bytealg.MaxLen", "internal/strconv.uint64pow10", "math/bits.deBruijn32tab", "math/bits.deBruijn64tab"], plainKeys := false, apart := false, laid := [("math/bits.deBruijn32tab", laid_math_bits_deBruijn32tab), ("math/bits.deBruijn64tab", laid_math_bits_deBruijn64tab), ("internal/strconv.uint64pow10", laid_internal_strconv_uint64pow10)] }
def GramNumsSaid : Prop := gramNumsRow.holds Tryd.pinned (OpenSpec.ofChange gramNumsSpec)

/-- ITS FALSE NEIGHBOUR: 'it returns false'. Refute it at one input. -/
def gramNumsWrong : ChangeSpec := { name := "gramNums", fn := fun _ => fun
  | [d] => { results := [.lit (.bool false)], args := [d] }
  | _ => none }
def GramNumsWrongFalsely : Prop := gramNumsRow.holds Tryd.pinned (OpenSpec.ofChange gramNumsWrong)

/-- 'yuccalaw9.GramLevels': WHATEVER THE INPUT: true; the input reads as it did. -/
def gramLevelsSpec : ChangeSpec := { name := "gramLevels", fn := fun _ => fun
  | [d1, d2] => { results := [.lit (.bool true)], args := [d1, d2] }
  | _ => none }
def gramLevelsRow : OpenClaim := { program := "ythmimcegiihcnaadoor", sum := "9ac2f3fa0da515714a63da65e064f5951d3aa901b793df64ca3356711120ba5c", func := "yucca/yuccalaw9.GramLevels", spec := "gramLevels", inPlace := ["internal/bytealg.IndexByteString", "internal/bytealg.IndexString"], unfollowed := true, recurses := true, named := ["internal/bytealg.MaxLen", "internal/strconv.uint64pow10", "math/bits.deBruijn32tab", "math/bits.deBruijn64tab"], plainKeys := false, apart := false, laid := [("math/bits.deBruijn32tab", laid_math_bits_deBruijn32tab), ("math/bits.deBruijn64tab", laid_math_bits_deBruijn64tab), ("internal/strconv.uint64pow10", laid_internal_strconv_uint64pow10)] }
def GramLevelsSaid : Prop := gramLevelsRow.holds Tryd.pinned (OpenSpec.ofChange gramLevelsSpec)

/-- ITS FALSE NEIGHBOUR: 'it returns false'. Refute it at one input. -/
def gramLevelsWrong : ChangeSpec := { name := "gramLevels", fn := fun _ => fun
  | [d1, d2] => { results := [.lit (.bool false)], args := [d1, d2] }
  | _ => none }
def GramLevelsWrongFalsely : Prop := gramLevelsRow.holds Tryd.pinned (OpenSpec.ofChange gramLevelsWrong)

/-- 'yuccalaw9.GramInner': WHATEVER THE INPUT: true; the input reads as it did. -/
def gramInnerSpec : ChangeSpec := { name := "gramInner", fn := fun _ => fun
  | [d] => { results := [.lit (.bool true)], args := [d] }
  | _ => none }
def gramInnerRow : OpenClaim := { program := "ythmimcegiihcnaadoor", sum := "9ac2f3fa0da515714a63da65e064f5951d3aa901b793df64ca3356711120ba5c", func := "yucca/yuccalaw9.GramInner", spec := "gramInner", inPlace := ["internal/bytealg.IndexByteString", "internal/bytealg.IndexString"], unfollowed := true, recurses := true, named := ["internal/bytealg.MaxLen", "internal/strconv.uint64pow10", "math/bits.deBruijn32tab", "math/bits.deBruijn64tab"], plainKeys := false, apart := false, laid := [("math/bits.deBruijn32tab", laid_math_bits_deBruijn32tab), ("math/bits.deBruijn64tab", laid_math_bits_deBruijn64tab), ("internal/strconv.uint64pow10", laid_internal_strconv_uint64pow10)] }
def GramInnerSaid : Prop := gramInnerRow.holds Tryd.pinned (OpenSpec.ofChange gramInnerSpec)

/-- ITS FALSE NEIGHBOUR: 'it returns false'. Refute it at one input. -/
def gramInnerWrong : ChangeSpec := { name := "gramInner", fn := fun _ => fun
  | [d] => { results := [.lit (.bool false)], args := [d] }
  | _ => none }
def GramInnerWrongFalsely : Prop := gramInnerRow.holds Tryd.pinned (OpenSpec.ofChange gramInnerWrong)

/-- 'yuccalaw9.GramLimits': WHATEVER THE INPUT: true; the input reads as it did. -/
def gramLimitsSpec : ChangeSpec := { name := "gramLimits", fn := fun _ => fun
  | [d1, d2] => { results := [.lit (.bool true)], args := [d1, d2] }
  | _ => none }
def gramLimitsRow : OpenClaim := { program := "ythmimcegiihcnaadoor", sum := "9ac2f3fa0da515714a63da65e064f5951d3aa901b793df64ca3356711120ba5c", func := "yucca/yuccalaw9.GramLimits", spec := "gramLimits", inPlace := ["internal/bytealg.IndexByteString", "internal/bytealg.IndexString"], unfollowed := true, recurses := true, named := ["internal/bytealg.MaxLen", "internal/strconv.uint64pow10", "math/bits.deBruijn32tab", "math/bits.deBruijn64tab"], plainKeys := false, apart := false, laid := [("math/bits.deBruijn32tab", laid_math_bits_deBruijn32tab), ("math/bits.deBruijn64tab", laid_math_bits_deBruijn64tab), ("internal/strconv.uint64pow10", laid_internal_strconv_uint64pow10)] }
def GramLimitsSaid : Prop := gramLimitsRow.holds Tryd.pinned (OpenSpec.ofChange gramLimitsSpec)

/-- ITS FALSE NEIGHBOUR: 'it returns false'. Refute it at one input. -/
def gramLimitsWrong : ChangeSpec := { name := "gramLimits", fn := fun _ => fun
  | [d1, d2] => { results := [.lit (.bool false)], args := [d1, d2] }
  | _ => none }
def GramLimitsWrongFalsely : Prop := gramLimitsRow.holds Tryd.pinned (OpenSpec.ofChange gramLimitsWrong)

/-- 'yuccalaw9.GramPasses': WHATEVER THE INPUT: true; the input reads as it did. -/
def gramPassesSpec : ChangeSpec := { name := "gramPasses", fn := fun _ => fun
  | [d1, d2, d3, d4, d5] => { results := [.lit (.bool true)], args := [d1, d2, d3, d4, d5] }
  | _ => none }
def gramPassesRow : OpenClaim := { program := "ythmimcegiihcnaadoor", sum := "9ac2f3fa0da515714a63da65e064f5951d3aa901b793df64ca3356711120ba5c", func := "yucca/yuccalaw9.GramPasses", spec := "gramPasses", inPlace := ["internal/bytealg.IndexByteString", "internal/bytealg.IndexString"], unfollowed := true, recurses := true, named := ["internal/bytealg.MaxLen", "internal/strconv.uint64pow10", "math/bits.deBruijn32tab", "math/bits.deBruijn64tab"], plainKeys := false, apart := false, laid := [("math/bits.deBruijn32tab", laid_math_bits_deBruijn32tab), ("math/bits.deBruijn64tab", laid_math_bits_deBruijn64tab), ("internal/strconv.uint64pow10", laid_internal_strconv_uint64pow10)] }
def GramPassesSaid : Prop := gramPassesRow.holds Tryd.pinned (OpenSpec.ofChange gramPassesSpec)

/-- ITS FALSE NEIGHBOUR: 'it returns false'. Refute it at one input. -/
def gramPassesWrong : ChangeSpec := { name := "gramPasses", fn := fun _ => fun
  | [d1, d2, d3, d4, d5] => { results := [.lit (.bool false)], args := [d1, d2, d3, d4, d5] }
  | _ => none }
def GramPassesWrongFalsely : Prop := gramPassesRow.holds Tryd.pinned (OpenSpec.ofChange gramPassesWrong)

/-- 'yuccalaw9.GramStart': WHATEVER THE INPUT: true; the input reads as it did. -/
def gramStartSpec : ChangeSpec := { name := "gramStart", fn := fun _ => fun
  | [d1, d2] => { results := [.lit (.bool true)], args := [d1, d2] }
  | _ => none }
def gramStartRow : OpenClaim := { program := "ythmimcegiihcnaadoor", sum := "9ac2f3fa0da515714a63da65e064f5951d3aa901b793df64ca3356711120ba5c", func := "yucca/yuccalaw9.GramStart", spec := "gramStart", inPlace := ["internal/bytealg.IndexByteString", "internal/bytealg.IndexString"], unfollowed := true, recurses := true, named := ["internal/bytealg.MaxLen", "internal/strconv.uint64pow10", "math/bits.deBruijn32tab", "math/bits.deBruijn64tab"], plainKeys := false, apart := false, laid := [("math/bits.deBruijn32tab", laid_math_bits_deBruijn32tab), ("math/bits.deBruijn64tab", laid_math_bits_deBruijn64tab), ("internal/strconv.uint64pow10", laid_internal_strconv_uint64pow10)] }
def GramStartSaid : Prop := gramStartRow.holds Tryd.pinned (OpenSpec.ofChange gramStartSpec)

/-- ITS FALSE NEIGHBOUR: 'it returns false'. Refute it at one input. -/
def gramStartWrong : ChangeSpec := { name := "gramStart", fn := fun _ => fun
  | [d1, d2] => { results := [.lit (.bool false)], args := [d1, d2] }
  | _ => none }
def GramStartWrongFalsely : Prop := gramStartRow.holds Tryd.pinned (OpenSpec.ofChange gramStartWrong)

/-- 'yuccalaw9.GramTags': WHATEVER THE INPUT: true; the input reads as it did. -/
def gramTagsSpec : ChangeSpec := { name := "gramTags", fn := fun _ => fun
  | [d1, d2] => { results := [.lit (.bool true)], args := [d1, d2] }
  | _ => none }
def gramTagsRow : OpenClaim := { program := "ythmimcegiihcnaadoor", sum := "9ac2f3fa0da515714a63da65e064f5951d3aa901b793df64ca3356711120ba5c", func := "yucca/yuccalaw9.GramTags", spec := "gramTags", inPlace := ["internal/bytealg.IndexByteString", "internal/bytealg.IndexString"], unfollowed := true, recurses := true, named := ["internal/bytealg.MaxLen", "internal/strconv.uint64pow10", "math/bits.deBruijn32tab", "math/bits.deBruijn64tab"], plainKeys := false, apart := false, laid := [("math/bits.deBruijn32tab", laid_math_bits_deBruijn32tab), ("math/bits.deBruijn64tab", laid_math_bits_deBruijn64tab), ("internal/strconv.uint64pow10", laid_internal_strconv_uint64pow10)] }
def GramTagsSaid : Prop := gramTagsRow.holds Tryd.pinned (OpenSpec.ofChange gramTagsSpec)

/-- ITS FALSE NEIGHBOUR: 'it returns false'. Refute it at one input. -/
def gramTagsWrong : ChangeSpec := { name := "gramTags", fn := fun _ => fun
  | [d1, d2] => { results := [.lit (.bool false)], args := [d1, d2] }
  | _ => none }
def GramTagsWrongFalsely : Prop := gramTagsRow.holds Tryd.pinned (OpenSpec.ofChange gramTagsWrong)

/- THE SECOND FORM. 'bulk': how many values and letters a reading holds, each counted each time it is reached (what is shared counts as often as it is met; a slice's spare places count too). A statement '..UptoSaid' is the law's where the arguments, and the package variables that the reading takes, are together of bulk at most 1048576: NARROWER than '..Said'. Prove '..Said' where nothing that the law and all that it calls make is longer than what came in: it says more and counts as full. Else prove '..UptoSaid'. A law counts once. -/
mutual
def uptoBulk {H : Type} : DataW H → Nat
  | .lit (.string bytes) => bytes.length + 1
  | .lit _ => 1
  | .nil => 1
  | .ptr d => uptoBulk d + 1
  | .slice elems spare => uptoBulkAll elems + uptoBulkAll spare + 1
  | .agg parts => uptoBulkAll parts + 1
  | .iface _ d => uptoBulk d + 1
  | .map entries => uptoBulkEntries entries + 1
  | .held _ => 1
def uptoBulkAll {H : Type} : List (DataW H) → Nat
  | [] => 0
  | d :: r => uptoBulk d + uptoBulkAll r
def uptoBulkEntries {H : Type} : List (Lit × DataW H) → Nat
  | [] => 0
  | x :: r => uptoBulkEntry x + uptoBulkEntries r
def uptoBulkEntry {H : Type} : Lit × DataW H → Nat
  | (.string bytes, d) => bytes.length + uptoBulk d + 1
  | (_, d) => uptoBulk d + 1
 end
def uptoSmall : (H : Type) → List (DataW H) → Bool := fun _ ds => decide (uptoBulkAll ds ≤ 1048576)
def OpenSpec.upto (s : _root_.Go.ChangeSpec) : _root_.Go.OpenSpec := { _root_.Go.OpenSpec.ofChange s with cond := some uptoSmall }

/-- 'yuccalaw8.PrintOne', WHERE WHAT IT READS IS OF BULK AT MOST 1048576: true; the input reads as it did. -/
def printOneUptoRow : OpenClaim := { program := "ythmimcegiihcnaadoor", sum := "9ac2f3fa0da515714a63da65e064f5951d3aa901b793df64ca3356711120ba5c", func := "yucca/yuccalaw8.PrintOne", spec := "printOne", inPlace := ["internal/bytealg.IndexByteString", "internal/bytealg.IndexString", "internal/abi.NoEscape", "internal/bytealg.MakeNoZero"], unfollowed := true, recurses := true, named := ["internal/bytealg.MaxLen", "internal/strconv.uint64pow10", "math/bits.deBruijn32tab", "math/bits.deBruijn64tab"], plainKeys := false, apart := false, laid := [("math/bits.deBruijn32tab", laid_math_bits_deBruijn32tab), ("math/bits.deBruijn64tab", laid_math_bits_deBruijn64tab), ("internal/strconv.uint64pow10", laid_internal_strconv_uint64pow10)], narrowed := true }
def PrintOneUptoSaid : Prop := printOneUptoRow.holds Tryd.pinned (OpenSpec.upto printOneSpec)

/-- 'yuccalaw8.PrintSyms', WHERE WHAT IT READS IS OF BULK AT MOST 1048576: true; the input reads as it did. -/
def printSymsUptoRow : OpenClaim := { program := "ythmimcegiihcnaadoor", sum := "9ac2f3fa0da515714a63da65e064f5951d3aa901b793df64ca3356711120ba5c", func := "yucca/yuccalaw8.PrintSyms", spec := "printSyms", inPlace := ["internal/bytealg.IndexByteString", "internal/bytealg.IndexString", "internal/abi.NoEscape", "internal/bytealg.MakeNoZero"], unfollowed := true, recurses := true, named := ["internal/bytealg.MaxLen", "internal/strconv.uint64pow10", "math/bits.deBruijn32tab", "math/bits.deBruijn64tab"], plainKeys := false, apart := false, laid := [("math/bits.deBruijn32tab", laid_math_bits_deBruijn32tab), ("math/bits.deBruijn64tab", laid_math_bits_deBruijn64tab), ("internal/strconv.uint64pow10", laid_internal_strconv_uint64pow10)], narrowed := true }
def PrintSymsUptoSaid : Prop := printSymsUptoRow.holds Tryd.pinned (OpenSpec.upto printSymsSpec)

/-- 'yuccalaw9.GramNums', WHERE WHAT IT READS IS OF BULK AT MOST 1048576: true; the input reads as it did. -/
def gramNumsUptoRow : OpenClaim := { program := "ythmimcegiihcnaadoor", sum := "9ac2f3fa0da515714a63da65e064f5951d3aa901b793df64ca3356711120ba5c", func := "yucca/yuccalaw9.GramNums", spec := "gramNums", inPlace := ["internal/bytealg.IndexByteString", "internal/bytealg.IndexString"], unfollowed := true, recurses := true, named := ["internal/bytealg.MaxLen", "internal/strconv.uint64pow10", "math/bits.deBruijn32tab", "math/bits.deBruijn64tab"], plainKeys := false, apart := false, laid := [("math/bits.deBruijn32tab", laid_math_bits_deBruijn32tab), ("math/bits.deBruijn64tab", laid_math_bits_deBruijn64tab), ("internal/strconv.uint64pow10", laid_internal_strconv_uint64pow10)], narrowed := true }
def GramNumsUptoSaid : Prop := gramNumsUptoRow.holds Tryd.pinned (OpenSpec.upto gramNumsSpec)

/-- 'yuccalaw9.GramLevels', WHERE WHAT IT READS IS OF BULK AT MOST 1048576: true; the input reads as it did. -/
def gramLevelsUptoRow : OpenClaim := { program := "ythmimcegiihcnaadoor", sum := "9ac2f3fa0da515714a63da65e064f5951d3aa901b793df64ca3356711120ba5c", func := "yucca/yuccalaw9.GramLevels", spec := "gramLevels", inPlace := ["internal/bytealg.IndexByteString", "internal/bytealg.IndexString"], unfollowed := true, recurses := true, named := ["internal/bytealg.MaxLen", "internal/strconv.uint64pow10", "math/bits.deBruijn32tab", "math/bits.deBruijn64tab"], plainKeys := false, apart := false, laid := [("math/bits.deBruijn32tab", laid_math_bits_deBruijn32tab), ("math/bits.deBruijn64tab", laid_math_bits_deBruijn64tab), ("internal/strconv.uint64pow10", laid_internal_strconv_uint64pow10)], narrowed := true }
def GramLevelsUptoSaid : Prop := gramLevelsUptoRow.holds Tryd.pinned (OpenSpec.upto gramLevelsSpec)

/-- 'yuccalaw9.GramInner', WHERE WHAT IT READS IS OF BULK AT MOST 1048576: true; the input reads as it did. -/
def gramInnerUptoRow : OpenClaim := { program := "ythmimcegiihcnaadoor", sum := "9ac2f3fa0da515714a63da65e064f5951d3aa901b793df64ca3356711120ba5c", func := "yucca/yuccalaw9.GramInner", spec := "gramInner", inPlace := ["internal/bytealg.IndexByteString", "internal/bytealg.IndexString"], unfollowed := true, recurses := true, named := ["internal/bytealg.MaxLen", "internal/strconv.uint64pow10", "math/bits.deBruijn32tab", "math/bits.deBruijn64tab"], plainKeys := false, apart := false, laid := [("math/bits.deBruijn32tab", laid_math_bits_deBruijn32tab), ("math/bits.deBruijn64tab", laid_math_bits_deBruijn64tab), ("internal/strconv.uint64pow10", laid_internal_strconv_uint64pow10)], narrowed := true }
def GramInnerUptoSaid : Prop := gramInnerUptoRow.holds Tryd.pinned (OpenSpec.upto gramInnerSpec)

/-- 'yuccalaw9.GramLimits', WHERE WHAT IT READS IS OF BULK AT MOST 1048576: true; the input reads as it did. -/
def gramLimitsUptoRow : OpenClaim := { program := "ythmimcegiihcnaadoor", sum := "9ac2f3fa0da515714a63da65e064f5951d3aa901b793df64ca3356711120ba5c", func := "yucca/yuccalaw9.GramLimits", spec := "gramLimits", inPlace := ["internal/bytealg.IndexByteString", "internal/bytealg.IndexString"], unfollowed := true, recurses := true, named := ["internal/bytealg.MaxLen", "internal/strconv.uint64pow10", "math/bits.deBruijn32tab", "math/bits.deBruijn64tab"], plainKeys := false, apart := false, laid := [("math/bits.deBruijn32tab", laid_math_bits_deBruijn32tab), ("math/bits.deBruijn64tab", laid_math_bits_deBruijn64tab), ("internal/strconv.uint64pow10", laid_internal_strconv_uint64pow10)], narrowed := true }
def GramLimitsUptoSaid : Prop := gramLimitsUptoRow.holds Tryd.pinned (OpenSpec.upto gramLimitsSpec)

/-- 'yuccalaw9.GramPasses', WHERE WHAT IT READS IS OF BULK AT MOST 1048576: true; the input reads as it did. -/
def gramPassesUptoRow : OpenClaim := { program := "ythmimcegiihcnaadoor", sum := "9ac2f3fa0da515714a63da65e064f5951d3aa901b793df64ca3356711120ba5c", func := "yucca/yuccalaw9.GramPasses", spec := "gramPasses", inPlace := ["internal/bytealg.IndexByteString", "internal/bytealg.IndexString"], unfollowed := true, recurses := true, named := ["internal/bytealg.MaxLen", "internal/strconv.uint64pow10", "math/bits.deBruijn32tab", "math/bits.deBruijn64tab"], plainKeys := false, apart := false, laid := [("math/bits.deBruijn32tab", laid_math_bits_deBruijn32tab), ("math/bits.deBruijn64tab", laid_math_bits_deBruijn64tab), ("internal/strconv.uint64pow10", laid_internal_strconv_uint64pow10)], narrowed := true }
def GramPassesUptoSaid : Prop := gramPassesUptoRow.holds Tryd.pinned (OpenSpec.upto gramPassesSpec)

/-- 'yuccalaw9.GramStart', WHERE WHAT IT READS IS OF BULK AT MOST 1048576: true; the input reads as it did. -/
def gramStartUptoRow : OpenClaim := { program := "ythmimcegiihcnaadoor", sum := "9ac2f3fa0da515714a63da65e064f5951d3aa901b793df64ca3356711120ba5c", func := "yucca/yuccalaw9.GramStart", spec := "gramStart", inPlace := ["internal/bytealg.IndexByteString", "internal/bytealg.IndexString"], unfollowed := true, recurses := true, named := ["internal/bytealg.MaxLen", "internal/strconv.uint64pow10", "math/bits.deBruijn32tab", "math/bits.deBruijn64tab"], plainKeys := false, apart := false, laid := [("math/bits.deBruijn32tab", laid_math_bits_deBruijn32tab), ("math/bits.deBruijn64tab", laid_math_bits_deBruijn64tab), ("internal/strconv.uint64pow10", laid_internal_strconv_uint64pow10)], narrowed := true }
def GramStartUptoSaid : Prop := gramStartUptoRow.holds Tryd.pinned (OpenSpec.upto gramStartSpec)

/-- 'yuccalaw9.GramTags', WHERE WHAT IT READS IS OF BULK AT MOST 1048576: true; the input reads as it did. -/
def gramTagsUptoRow : OpenClaim := { program := "ythmimcegiihcnaadoor", sum := "9ac2f3fa0da515714a63da65e064f5951d3aa901b793df64ca3356711120ba5c", func := "yucca/yuccalaw9.GramTags", spec := "gramTags", inPlace := ["internal/bytealg.IndexByteString", "internal/bytealg.IndexString"], unfollowed := true, recurses := true, named := ["internal/bytealg.MaxLen", "internal/strconv.uint64pow10", "math/bits.deBruijn32tab", "math/bits.deBruijn64tab"], plainKeys := false, apart := false, laid := [("math/bits.deBruijn32tab", laid_math_bits_deBruijn32tab), ("math/bits.deBruijn64tab", laid_math_bits_deBruijn64tab), ("internal/strconv.uint64pow10", laid_internal_strconv_uint64pow10)], narrowed := true }
def GramTagsUptoSaid : Prop := gramTagsUptoRow.holds Tryd.pinned (OpenSpec.upto gramTagsSpec)

end Rows
end Go.Proofs.YthmimcegiihcnaaDoor
