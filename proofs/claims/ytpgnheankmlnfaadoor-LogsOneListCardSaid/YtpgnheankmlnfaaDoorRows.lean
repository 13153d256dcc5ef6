/-
  NARROWER THAN 'FOR EVERY INPUT', by the rows' own cells (each row's printed sentence says how): LogsFloor: laid · LogsDigits: laid · LogsTerms: laid · LogsSums: laid · LogsFiner: laid · LogsOrder: laid · LogsOneList: laid · LogsTurned: laid · LogsNarrower: laid · LogsBest: laid · LogsWhole: laid · LogsBothWays: laid · LogsConvergents: laid.
  DERIVED. THE GIVEN ROWS OF THIS SEAT. 13 by the template 'for every input the law returns true; each argument reads behind the call as it read before'; 0 by the template 'total and deterministic' (their statements: YtpgnheankmlnfaaDoorTotals.lean).
  GIVEN WITH THE SEED: the statements are not yours to turn. If you find one false, say at which input.
  Laid BY PROGRAM, IN A SANDBOX (cutbox-rows.mjs): the forced cells as the released guide's own fill.sh prints them over the translation b7e93e330024f6c1… (all of the seat's roots in one cut). By AI agents, Wed Nov 11 2026. No macro, syntax, notation, axiom, sorry.
-/
import Derived.Test.YtpgnheankmlnfaaDoorChecked
import GoSem.Claim
import GoSem.ClaimJoined
import GoSem.ClaimMapViews
import Derived.JoinedTies
import Derived.KernelRfl
namespace Go.Proofs.YtpgnheankmlnfaaDoor
/- THE CELL 'sum', in the pinned program and in every row, IS THE sha256 OF THE DUMP (.gsa) THAT YtpgnheankmlnfaaDoorProg.lean LOADS. Nothing in Lean hashes anything: it is a label: what it is worth is what the hold of that sum in a sandbox is worth. -/
noncomputable def Tryd.pinned : Pinned := { name := "ytpgnheankmlnfaadoor", sum := "b7e93e330024f6c1ba8054aceac7f7b45db8e1717d4b12f6b4a05377b58d4d85", checked := Tryd.checked }
namespace Rows
def none {H : Type} : Left H := { results := [], args := [] }

/- WHAT THE LISTED PACKAGE-LEVEL VARIABLES READ AS WHEN THE CALL BEGINS. Each datum BY PROGRAM (the guide's laid-datum.mjs) off the statement by which the dump's own 'gosem.cut.vars' lays the variable. In a bare row this is a premise. The card (YtpgnheankmlnfaaDoorCards.lean) ties it to the program's text. -/
def laid_math_bits_deBruijn32tab {H : Type} : DataW H := .agg [.lit (.int .u8 0), .lit (.int .u8 1), .lit (.int .u8 28), .lit (.int .u8 2), .lit (.int .u8 29), .lit (.int .u8 14), .lit (.int .u8 24), .lit (.int .u8 3), .lit (.int .u8 30), .lit (.int .u8 22), .lit (.int .u8 20), .lit (.int .u8 15), .lit (.int .u8 25), .lit (.int .u8 17), .lit (.int .u8 4), .lit (.int .u8 8), .lit (.int .u8 31), .lit (.int .u8 27), .lit (.int .u8 13), .lit (.int .u8 23), .lit (.int .u8 21), .lit (.int .u8 19), .lit (.int .u8 16), .lit (.int .u8 7), .lit (.int .u8 26), .lit (.int .u8 12), .lit (.int .u8 18), .lit (.int .u8 6), .lit (.int .u8 11), .lit (.int .u8 5), .lit (.int .u8 10), .lit (.int .u8 9)]
def laid_math_bits_deBruijn64tab {H : Type} : DataW H := .agg [.lit (.int .u8 0), .lit (.int .u8 1), .lit (.int .u8 56), .lit (.int .u8 2), .lit (.int .u8 57), .lit (.int .u8 49), .lit (.int .u8 28), .lit (.int .u8 3), .lit (.int .u8 61), .lit (.int .u8 58), .lit (.int .u8 42), .lit (.int .u8 50), .lit (.int .u8 38), .lit (.int .u8 29), .lit (.int .u8 17), .lit (.int .u8 4), .lit (.int .u8 62), .lit (.int .u8 47), .lit (.int .u8 59), .lit (.int .u8 36), .lit (.int .u8 45), .lit (.int .u8 43), .lit (.int .u8 51), .lit (.int .u8 22), .lit (.int .u8 53), .lit (.int .u8 39), .lit (.int .u8 33), .lit (.int .u8 30), .lit (.int .u8 24), .lit (.int .u8 18), .lit (.int .u8 12), .lit (.int .u8 5), .lit (.int .u8 63), .lit (.int .u8 55), .lit (.int .u8 48), .lit (.int .u8 27), .lit (.int .u8 60), .lit (.int .u8 41), .lit (.int .u8 37), .lit (.int .u8 16), .lit (.int .u8 46), .lit (.int .u8 35), .lit (.int .u8 44), .lit (.int .u8 21), .lit (.int .u8 52), .lit (.int .u8 32), .lit (.int .u8 23), .lit (.int .u8 11), .lit (.int .u8 54), .lit (.int .u8 26), .lit (.int .u8 40), .lit (.int .u8 15), .lit (.int .u8 34), .lit (.int .u8 20), .lit (.int .u8 31), .lit (.int .u8 10), .lit (.int .u8 25), .lit (.int .u8 14), .lit (.int .u8 19), .lit (.int .u8 9), .lit (.int .u8 13), .lit (.int .u8 8), .lit (.int .u8 7), .lit (.int .u8 6)]
def laid_internal_strconv_uint64pow10 {H : Type} : DataW H := .agg [.lit (.int .u64 1), .lit (.int .u64 10), .lit (.int .u64 100), .lit (.int .u64 1000), .lit (.int .u64 10000), .lit (.int .u64 100000), .lit (.int .u64 1000000), .lit (.int .u64 10000000), .lit (.int .u64 100000000), .lit (.int .u64 1000000000), .lit (.int .u64 10000000000), .lit (.int .u64 100000000000), .lit (.int .u64 1000000000000), .lit (.int .u64 10000000000000), .lit (.int .u64 100000000000000), .lit (.int .u64 1000000000000000), .lit (.int .u64 10000000000000000), .lit (.int .u64 100000000000000000), .lit (.int .u64 1000000000000000000), .lit (.int .u64 10000000000000000000)]

/-- 'quicksilverlaw02.LogsFloor': WHATEVER THE INPUT: true; the input reads as it did. -/
def logsFloorSpec : ChangeSpec := { name := "logsFloor", fn := fun _ => fun
  | [d1, d2, d3, d4] => { results := [.lit (.bool true)], args := [d1, d2, d3, d4] }
  | _ => none }
def logsFloorRow : OpenClaim := { program := "ytpgnheankmlnfaadoor", sum := "b7e93e330024f6c1ba8054aceac7f7b45db8e1717d4b12f6b4a05377b58d4d85", func := "quicksilver/quicksilverlaw02.LogsFloor", spec := "logsFloor", unfollowed := true, recurses := true, named := ["internal/strconv.uint64pow10", "math/bits.deBruijn32tab", "math/bits.deBruijn64tab"], apart := false, laid := [("math/bits.deBruijn32tab", laid_math_bits_deBruijn32tab), ("math/bits.deBruijn64tab", laid_math_bits_deBruijn64tab), ("internal/strconv.uint64pow10", laid_internal_strconv_uint64pow10)] }
def LogsFloorSaid : Prop := logsFloorRow.holds Tryd.pinned (OpenSpec.ofChange logsFloorSpec)

/-- ITS FALSE NEIGHBOUR: 'it returns false'. Refute it at one input. -/
def logsFloorWrong : ChangeSpec := { name := "logsFloor", fn := fun _ => fun
  | [d1, d2, d3, d4] => { results := [.lit (.bool false)], args := [d1, d2, d3, d4] }
  | _ => none }
def LogsFloorWrongFalsely : Prop := logsFloorRow.holds Tryd.pinned (OpenSpec.ofChange logsFloorWrong)

/-- 'quicksilverlaw02.LogsDigits': WHATEVER THE INPUT: true; the input reads as it did. -/
def logsDigitsSpec : ChangeSpec := { name := "logsDigits", fn := fun _ => fun
  | [d1, d2, d3, d4, d5, d6, d7] => { results := [.lit (.bool true)], args := [d1, d2, d3, d4, d5, d6, d7] }
  | _ => none }
def logsDigitsRow : OpenClaim := { program := "ytpgnheankmlnfaadoor", sum := "b7e93e330024f6c1ba8054aceac7f7b45db8e1717d4b12f6b4a05377b58d4d85", func := "quicksilver/quicksilverlaw02.LogsDigits", spec := "logsDigits", unfollowed := true, recurses := true, named := ["internal/strconv.uint64pow10", "math/bits.deBruijn32tab", "math/bits.deBruijn64tab"], apart := false, laid := [("math/bits.deBruijn32tab", laid_math_bits_deBruijn32tab), ("math/bits.deBruijn64tab", laid_math_bits_deBruijn64tab), ("internal/strconv.uint64pow10", laid_internal_strconv_uint64pow10)] }
def LogsDigitsSaid : Prop := logsDigitsRow.holds Tryd.pinned (OpenSpec.ofChange logsDigitsSpec)

/-- ITS FALSE NEIGHBOUR: 'it returns false'. Refute it at one input. -/
def logsDigitsWrong : ChangeSpec := { name := "logsDigits", fn := fun _ => fun
  | [d1, d2, d3, d4, d5, d6, d7] => { results := [.lit (.bool false)], args := [d1, d2, d3, d4, d5, d6, d7] }
  | _ => none }
def LogsDigitsWrongFalsely : Prop := logsDigitsRow.holds Tryd.pinned (OpenSpec.ofChange logsDigitsWrong)

/-- 'quicksilverlaw02.LogsTerms': WHATEVER THE INPUT: true; the input reads as it did. -/
def logsTermsSpec : ChangeSpec := { name := "logsTerms", fn := fun _ => fun
  | [d1, d2, d3, d4] => { results := [.lit (.bool true)], args := [d1, d2, d3, d4] }
  | _ => none }
def logsTermsRow : OpenClaim := { program := "ytpgnheankmlnfaadoor", sum := "b7e93e330024f6c1ba8054aceac7f7b45db8e1717d4b12f6b4a05377b58d4d85", func := "quicksilver/quicksilverlaw02.LogsTerms", spec := "logsTerms", unfollowed := true, recurses := true, named := ["internal/strconv.uint64pow10", "math/bits.deBruijn32tab", "math/bits.deBruijn64tab"], apart := false, laid := [("math/bits.deBruijn32tab", laid_math_bits_deBruijn32tab), ("math/bits.deBruijn64tab", laid_math_bits_deBruijn64tab), ("internal/strconv.uint64pow10", laid_internal_strconv_uint64pow10)] }
def LogsTermsSaid : Prop := logsTermsRow.holds Tryd.pinned (OpenSpec.ofChange logsTermsSpec)

/-- ITS FALSE NEIGHBOUR: 'it returns false'. Refute it at one input. -/
def logsTermsWrong : ChangeSpec := { name := "logsTerms", fn := fun _ => fun
  | [d1, d2, d3, d4] => { results := [.lit (.bool false)], args := [d1, d2, d3, d4] }
  | _ => none }
def LogsTermsWrongFalsely : Prop := logsTermsRow.holds Tryd.pinned (OpenSpec.ofChange logsTermsWrong)

/-- 'quicksilverlaw02.LogsSums': WHATEVER THE INPUT: true; the input reads as it did. -/
def logsSumsSpec : ChangeSpec := { name := "logsSums", fn := fun _ => fun
  | [d1, d2, d3, d4] => { results := [.lit (.bool true)], args := [d1, d2, d3, d4] }
  | _ => none }
def logsSumsRow : OpenClaim := { program := "ytpgnheankmlnfaadoor", sum := "b7e93e330024f6c1ba8054aceac7f7b45db8e1717d4b12f6b4a05377b58d4d85", func := "quicksilver/quicksilverlaw02.LogsSums", spec := "logsSums", unfollowed := true, recurses := true, named := ["internal/strconv.uint64pow10", "math/bits.deBruijn32tab", "math/bits.deBruijn64tab"], apart := false, laid := [("math/bits.deBruijn32tab", laid_math_bits_deBruijn32tab), ("math/bits.deBruijn64tab", laid_math_bits_deBruijn64tab), ("internal/strconv.uint64pow10", laid_internal_strconv_uint64pow10)] }
def LogsSumsSaid : Prop := logsSumsRow.holds Tryd.pinned (OpenSpec.ofChange logsSumsSpec)

/-- ITS FALSE NEIGHBOUR: 'it returns false'. Refute it at one input. -/
def logsSumsWrong : ChangeSpec := { name := "logsSums", fn := fun _ => fun
  | [d1, d2, d3, d4] => { results := [.lit (.bool false)], args := [d1, d2, d3, d4] }
  | _ => none }
def LogsSumsWrongFalsely : Prop := logsSumsRow.holds Tryd.pinned (OpenSpec.ofChange logsSumsWrong)

/-- 'quicksilverlaw02.LogsFiner': WHATEVER THE INPUT: true; the input reads as it did. -/
def logsFinerSpec : ChangeSpec := { name := "logsFiner", fn := fun _ => fun
  | [d1, d2, d3, d4, d5, d6] => { results := [.lit (.bool true)], args := [d1, d2, d3, d4, d5, d6] }
  | _ => none }
def logsFinerRow : OpenClaim := { program := "ytpgnheankmlnfaadoor", sum := "b7e93e330024f6c1ba8054aceac7f7b45db8e1717d4b12f6b4a05377b58d4d85", func := "quicksilver/quicksilverlaw02.LogsFiner", spec := "logsFiner", unfollowed := true, recurses := true, named := ["internal/strconv.uint64pow10", "math/bits.deBruijn32tab", "math/bits.deBruijn64tab"], apart := false, laid := [("math/bits.deBruijn32tab", laid_math_bits_deBruijn32tab), ("math/bits.deBruijn64tab", laid_math_bits_deBruijn64tab), ("internal/strconv.uint64pow10", laid_internal_strconv_uint64pow10)] }
def LogsFinerSaid : Prop := logsFinerRow.holds Tryd.pinned (OpenSpec.ofChange logsFinerSpec)

/-- ITS FALSE NEIGHBOUR: 'it returns false'. Refute it at one input. -/
def logsFinerWrong : ChangeSpec := { name := "logsFiner", fn := fun _ => fun
  | [d1, d2, d3, d4, d5, d6] => { results := [.lit (.bool false)], args := [d1, d2, d3, d4, d5, d6] }
  | _ => none }
def LogsFinerWrongFalsely : Prop := logsFinerRow.holds Tryd.pinned (OpenSpec.ofChange logsFinerWrong)

/-- 'quicksilverlaw02.LogsOrder': WHATEVER THE INPUT: true; the input reads as it did. -/
def logsOrderSpec : ChangeSpec := { name := "logsOrder", fn := fun _ => fun
  | [d1, d2, d3, d4, d5, d6] => { results := [.lit (.bool true)], args := [d1, d2, d3, d4, d5, d6] }
  | _ => none }
def logsOrderRow : OpenClaim := { program := "ytpgnheankmlnfaadoor", sum := "b7e93e330024f6c1ba8054aceac7f7b45db8e1717d4b12f6b4a05377b58d4d85", func := "quicksilver/quicksilverlaw02.LogsOrder", spec := "logsOrder", unfollowed := true, recurses := true, named := ["internal/strconv.uint64pow10", "math/bits.deBruijn32tab", "math/bits.deBruijn64tab"], apart := false, laid := [("math/bits.deBruijn32tab", laid_math_bits_deBruijn32tab), ("math/bits.deBruijn64tab", laid_math_bits_deBruijn64tab), ("internal/strconv.uint64pow10", laid_internal_strconv_uint64pow10)] }
def LogsOrderSaid : Prop := logsOrderRow.holds Tryd.pinned (OpenSpec.ofChange logsOrderSpec)

/-- ITS FALSE NEIGHBOUR: 'it returns false'. Refute it at one input. -/
def logsOrderWrong : ChangeSpec := { name := "logsOrder", fn := fun _ => fun
  | [d1, d2, d3, d4, d5, d6] => { results := [.lit (.bool false)], args := [d1, d2, d3, d4, d5, d6] }
  | _ => none }
def LogsOrderWrongFalsely : Prop := logsOrderRow.holds Tryd.pinned (OpenSpec.ofChange logsOrderWrong)

/-- 'quicksilverlaw02.LogsOneList': WHATEVER THE INPUT: true; the input reads as it did. -/
def logsOneListSpec : ChangeSpec := { name := "logsOneList", fn := fun _ => fun
  | [d1, d2] => { results := [.lit (.bool true)], args := [d1, d2] }
  | _ => none }
def logsOneListRow : OpenClaim := { program := "ytpgnheankmlnfaadoor", sum := "b7e93e330024f6c1ba8054aceac7f7b45db8e1717d4b12f6b4a05377b58d4d85", func := "quicksilver/quicksilverlaw02.LogsOneList", spec := "logsOneList", unfollowed := true, recurses := true, named := ["internal/strconv.uint64pow10", "math/bits.deBruijn32tab", "math/bits.deBruijn64tab"], apart := false, laid := [("math/bits.deBruijn32tab", laid_math_bits_deBruijn32tab), ("math/bits.deBruijn64tab", laid_math_bits_deBruijn64tab), ("internal/strconv.uint64pow10", laid_internal_strconv_uint64pow10)] }
def LogsOneListSaid : Prop := logsOneListRow.holds Tryd.pinned (OpenSpec.ofChange logsOneListSpec)

/-- ITS FALSE NEIGHBOUR: 'it returns false'. Refute it at one input. -/
def logsOneListWrong : ChangeSpec := { name := "logsOneList", fn := fun _ => fun
  | [d1, d2] => { results := [.lit (.bool false)], args := [d1, d2] }
  | _ => none }
def LogsOneListWrongFalsely : Prop := logsOneListRow.holds Tryd.pinned (OpenSpec.ofChange logsOneListWrong)

/-- 'quicksilverlaw02.LogsTurned': WHATEVER THE INPUT: true; the input reads as it did. -/
def logsTurnedSpec : ChangeSpec := { name := "logsTurned", fn := fun _ => fun
  | [d1, d2, d3] => { results := [.lit (.bool true)], args := [d1, d2, d3] }
  | _ => none }
def logsTurnedRow : OpenClaim := { program := "ytpgnheankmlnfaadoor", sum := "b7e93e330024f6c1ba8054aceac7f7b45db8e1717d4b12f6b4a05377b58d4d85", func := "quicksilver/quicksilverlaw02.LogsTurned", spec := "logsTurned", unfollowed := true, recurses := true, named := ["internal/strconv.uint64pow10", "math/bits.deBruijn32tab", "math/bits.deBruijn64tab"], apart := false, laid := [("math/bits.deBruijn32tab", laid_math_bits_deBruijn32tab), ("math/bits.deBruijn64tab", laid_math_bits_deBruijn64tab), ("internal/strconv.uint64pow10", laid_internal_strconv_uint64pow10)] }
def LogsTurnedSaid : Prop := logsTurnedRow.holds Tryd.pinned (OpenSpec.ofChange logsTurnedSpec)

/-- ITS FALSE NEIGHBOUR: 'it returns false'. Refute it at one input. -/
def logsTurnedWrong : ChangeSpec := { name := "logsTurned", fn := fun _ => fun
  | [d1, d2, d3] => { results := [.lit (.bool false)], args := [d1, d2, d3] }
  | _ => none }
def LogsTurnedWrongFalsely : Prop := logsTurnedRow.holds Tryd.pinned (OpenSpec.ofChange logsTurnedWrong)

/-- 'quicksilverlaw02.LogsNarrower': WHATEVER THE INPUT: true; the input reads as it did. -/
def logsNarrowerSpec : ChangeSpec := { name := "logsNarrower", fn := fun _ => fun
  | [d1, d2, d3, d4] => { results := [.lit (.bool true)], args := [d1, d2, d3, d4] }
  | _ => none }
def logsNarrowerRow : OpenClaim := { program := "ytpgnheankmlnfaadoor", sum := "b7e93e330024f6c1ba8054aceac7f7b45db8e1717d4b12f6b4a05377b58d4d85", func := "quicksilver/quicksilverlaw02.LogsNarrower", spec := "logsNarrower", unfollowed := true, recurses := true, named := ["internal/strconv.uint64pow10", "math/bits.deBruijn32tab", "math/bits.deBruijn64tab"], apart := false, laid := [("math/bits.deBruijn32tab", laid_math_bits_deBruijn32tab), ("math/bits.deBruijn64tab", laid_math_bits_deBruijn64tab), ("internal/strconv.uint64pow10", laid_internal_strconv_uint64pow10)] }
def LogsNarrowerSaid : Prop := logsNarrowerRow.holds Tryd.pinned (OpenSpec.ofChange logsNarrowerSpec)

/-- ITS FALSE NEIGHBOUR: 'it returns false'. Refute it at one input. -/
def logsNarrowerWrong : ChangeSpec := { name := "logsNarrower", fn := fun _ => fun
  | [d1, d2, d3, d4] => { results := [.lit (.bool false)], args := [d1, d2, d3, d4] }
  | _ => none }
def LogsNarrowerWrongFalsely : Prop := logsNarrowerRow.holds Tryd.pinned (OpenSpec.ofChange logsNarrowerWrong)

/-- 'quicksilverlaw02.LogsBest': WHATEVER THE INPUT: true; the input reads as it did. -/
def logsBestSpec : ChangeSpec := { name := "logsBest", fn := fun _ => fun
  | [d1, d2, d3, d4, d5] => { results := [.lit (.bool true)], args := [d1, d2, d3, d4, d5] }
  | _ => none }
def logsBestRow : OpenClaim := { program := "ytpgnheankmlnfaadoor", sum := "b7e93e330024f6c1ba8054aceac7f7b45db8e1717d4b12f6b4a05377b58d4d85", func := "quicksilver/quicksilverlaw02.LogsBest", spec := "logsBest", unfollowed := true, recurses := true, named := ["internal/strconv.uint64pow10", "math/bits.deBruijn32tab", "math/bits.deBruijn64tab"], apart := false, laid := [("math/bits.deBruijn32tab", laid_math_bits_deBruijn32tab), ("math/bits.deBruijn64tab", laid_math_bits_deBruijn64tab), ("internal/strconv.uint64pow10", laid_internal_strconv_uint64pow10)] }
def LogsBestSaid : Prop := logsBestRow.holds Tryd.pinned (OpenSpec.ofChange logsBestSpec)

/-- ITS FALSE NEIGHBOUR: 'it returns false'. Refute it at one input. -/
def logsBestWrong : ChangeSpec := { name := "logsBest", fn := fun _ => fun
  | [d1, d2, d3, d4, d5] => { results := [.lit (.bool false)], args := [d1, d2, d3, d4, d5] }
  | _ => none }
def LogsBestWrongFalsely : Prop := logsBestRow.holds Tryd.pinned (OpenSpec.ofChange logsBestWrong)

/-- 'quicksilverlaw02.LogsWhole': WHATEVER THE INPUT: true; the input reads as it did. -/
def logsWholeSpec : ChangeSpec := { name := "logsWhole", fn := fun _ => fun
  | [d1, d2, d3, d4, d5] => { results := [.lit (.bool true)], args := [d1, d2, d3, d4, d5] }
  | _ => none }
def logsWholeRow : OpenClaim := { program := "ytpgnheankmlnfaadoor", sum := "b7e93e330024f6c1ba8054aceac7f7b45db8e1717d4b12f6b4a05377b58d4d85", func := "quicksilver/quicksilverlaw02.LogsWhole", spec := "logsWhole", unfollowed := true, recurses := true, named := ["internal/strconv.uint64pow10", "math/bits.deBruijn32tab", "math/bits.deBruijn64tab"], apart := false, laid := [("math/bits.deBruijn32tab", laid_math_bits_deBruijn32tab), ("math/bits.deBruijn64tab", laid_math_bits_deBruijn64tab), ("internal/strconv.uint64pow10", laid_internal_strconv_uint64pow10)] }
def LogsWholeSaid : Prop := logsWholeRow.holds Tryd.pinned (OpenSpec.ofChange logsWholeSpec)

/-- ITS FALSE NEIGHBOUR: 'it returns false'. Refute it at one input. -/
def logsWholeWrong : ChangeSpec := { name := "logsWhole", fn := fun _ => fun
  | [d1, d2, d3, d4, d5] => { results := [.lit (.bool false)], args := [d1, d2, d3, d4, d5] }
  | _ => none }
def LogsWholeWrongFalsely : Prop := logsWholeRow.holds Tryd.pinned (OpenSpec.ofChange logsWholeWrong)

/-- 'quicksilverlaw02.LogsBothWays': WHATEVER THE INPUT: true; the input reads as it did. -/
def logsBothWaysSpec : ChangeSpec := { name := "logsBothWays", fn := fun _ => fun
  | [d1, d2, d3, d4, d5] => { results := [.lit (.bool true)], args := [d1, d2, d3, d4, d5] }
  | _ => none }
def logsBothWaysRow : OpenClaim := { program := "ytpgnheankmlnfaadoor", sum := "b7e93e330024f6c1ba8054aceac7f7b45db8e1717d4b12f6b4a05377b58d4d85", func := "quicksilver/quicksilverlaw02.LogsBothWays", spec := "logsBothWays", unfollowed := true, recurses := true, named := ["internal/strconv.uint64pow10", "math/bits.deBruijn32tab", "math/bits.deBruijn64tab"], apart := false, laid := [("math/bits.deBruijn32tab", laid_math_bits_deBruijn32tab), ("math/bits.deBruijn64tab", laid_math_bits_deBruijn64tab), ("internal/strconv.uint64pow10", laid_internal_strconv_uint64pow10)] }
def LogsBothWaysSaid : Prop := logsBothWaysRow.holds Tryd.pinned (OpenSpec.ofChange logsBothWaysSpec)

/-- ITS FALSE NEIGHBOUR: 'it returns false'. Refute it at one input. -/
def logsBothWaysWrong : ChangeSpec := { name := "logsBothWays", fn := fun _ => fun
  | [d1, d2, d3, d4, d5] => { results := [.lit (.bool false)], args := [d1, d2, d3, d4, d5] }
  | _ => none }
def LogsBothWaysWrongFalsely : Prop := logsBothWaysRow.holds Tryd.pinned (OpenSpec.ofChange logsBothWaysWrong)

/-- 'quicksilverlaw02.LogsConvergents': WHATEVER THE INPUT: true; the input reads as it did. -/
def logsConvergentsSpec : ChangeSpec := { name := "logsConvergents", fn := fun _ => fun
  | [d1, d2, d3] => { results := [.lit (.bool true)], args := [d1, d2, d3] }
  | _ => none }
def logsConvergentsRow : OpenClaim := { program := "ytpgnheankmlnfaadoor", sum := "b7e93e330024f6c1ba8054aceac7f7b45db8e1717d4b12f6b4a05377b58d4d85", func := "quicksilver/quicksilverlaw02.LogsConvergents", spec := "logsConvergents", unfollowed := true, recurses := true, named := ["internal/strconv.uint64pow10", "math/bits.deBruijn32tab", "math/bits.deBruijn64tab"], apart := false, laid := [("math/bits.deBruijn32tab", laid_math_bits_deBruijn32tab), ("math/bits.deBruijn64tab", laid_math_bits_deBruijn64tab), ("internal/strconv.uint64pow10", laid_internal_strconv_uint64pow10)] }
def LogsConvergentsSaid : Prop := logsConvergentsRow.holds Tryd.pinned (OpenSpec.ofChange logsConvergentsSpec)

/-- ITS FALSE NEIGHBOUR: 'it returns false'. Refute it at one input. -/
def logsConvergentsWrong : ChangeSpec := { name := "logsConvergents", fn := fun _ => fun
  | [d1, d2, d3] => { results := [.lit (.bool false)], args := [d1, d2, d3] }
  | _ => none }
def LogsConvergentsWrongFalsely : Prop := logsConvergentsRow.holds Tryd.pinned (OpenSpec.ofChange logsConvergentsWrong)

/- THE SECOND FORM. 'bulk': how many values and letters a reading holds, each counted each time it is reached (what is shared counts as often as it is met; a slice's spare places count too). A statement '..UptoSaid' is the law's where the arguments, and the package variables that the reading takes, are together of bulk at most 1048576: NARROWER than '..Said'. Prove '..Said' where nothing that the law and all that it calls make is longer than what came in: it says more and counts as full. Else prove '..UptoSaid'. A law counts once. -/
mutual
def uptoBulk {H : Type} : DataW H → Nat
  | .lit (.string bytes) => bytes.length + 1
  | .lit _ => 1
  | .nil => 1
  | .ptr d => uptoBulk d + 1
  | .slice elems spare => uptoBulkAll elems + uptoBulkAll spare + 1
  | .agg parts => uptoBulkAll parts + 1
  | .iface _ d => uptoBulk d + 1
  | .map entries => uptoBulkEntries entries + 1
  | .held _ => 1
def uptoBulkAll {H : Type} : List (DataW H) → Nat
  | [] => 0
  | d :: r => uptoBulk d + uptoBulkAll r
def uptoBulkEntries {H : Type} : List (Lit × DataW H) → Nat
  | [] => 0
  | x :: r => uptoBulkEntry x + uptoBulkEntries r
def uptoBulkEntry {H : Type} : Lit × DataW H → Nat
  | (.string bytes, d) => bytes.length + uptoBulk d + 1
  | (_, d) => uptoBulk d + 1
 end
def uptoSmall : (H : Type) → List (DataW H) → Bool := fun _ ds => decide (uptoBulkAll ds ≤ 1048576)
def OpenSpec.upto (s : _root_.Go.ChangeSpec) : _root_.Go.OpenSpec := { _root_.Go.OpenSpec.ofChange s with cond := some uptoSmall }

/-- 'quicksilverlaw02.LogsFloor', WHERE WHAT IT READS IS OF BULK AT MOST 1048576: true; the input reads as it did. -/
def logsFloorUptoRow : OpenClaim := { program := "ytpgnheankmlnfaadoor", sum := "b7e93e330024f6c1ba8054aceac7f7b45db8e1717d4b12f6b4a05377b58d4d85", func := "quicksilver/quicksilverlaw02.LogsFloor", spec := "logsFloor", unfollowed := true, recurses := true, named := ["internal/strconv.uint64pow10", "math/bits.deBruijn32tab", "math/bits.deBruijn64tab"], apart := false, laid := [("math/bits.deBruijn32tab", laid_math_bits_deBruijn32tab), ("math/bits.deBruijn64tab", laid_math_bits_deBruijn64tab), ("internal/strconv.uint64pow10", laid_internal_strconv_uint64pow10)], narrowed := true }
def LogsFloorUptoSaid : Prop := logsFloorUptoRow.holds Tryd.pinned (OpenSpec.upto logsFloorSpec)

/-- 'quicksilverlaw02.LogsDigits', WHERE WHAT IT READS IS OF BULK AT MOST 1048576: true; the input reads as it did. -/
def logsDigitsUptoRow : OpenClaim := { program := "ytpgnheankmlnfaadoor", sum := "b7e93e330024f6c1ba8054aceac7f7b45db8e1717d4b12f6b4a05377b58d4d85", func := "quicksilver/quicksilverlaw02.LogsDigits", spec := "logsDigits", unfollowed := true, recurses := true, named := ["internal/strconv.uint64pow10", "math/bits.deBruijn32tab", "math/bits.deBruijn64tab"], apart := false, laid := [("math/bits.deBruijn32tab", laid_math_bits_deBruijn32tab), ("math/bits.deBruijn64tab", laid_math_bits_deBruijn64tab), ("internal/strconv.uint64pow10", laid_internal_strconv_uint64pow10)], narrowed := true }
def LogsDigitsUptoSaid : Prop := logsDigitsUptoRow.holds Tryd.pinned (OpenSpec.upto logsDigitsSpec)

/-- 'quicksilverlaw02.LogsTerms', WHERE WHAT IT READS IS OF BULK AT MOST 1048576: true; the input reads as it did. -/
def logsTermsUptoRow : OpenClaim := { program := "ytpgnheankmlnfaadoor", sum := "b7e93e330024f6c1ba8054aceac7f7b45db8e1717d4b12f6b4a05377b58d4d85", func := "quicksilver/quicksilverlaw02.LogsTerms", spec := "logsTerms", unfollowed := true, recurses := true, named := ["internal/strconv.uint64pow10", "math/bits.deBruijn32tab", "math/bits.deBruijn64tab"], apart := false, laid := [("math/bits.deBruijn32tab", laid_math_bits_deBruijn32tab), ("math/bits.deBruijn64tab", laid_math_bits_deBruijn64tab), ("internal/strconv.uint64pow10", laid_internal_strconv_uint64pow10)], narrowed := true }
def LogsTermsUptoSaid : Prop := logsTermsUptoRow.holds Tryd.pinned (OpenSpec.upto logsTermsSpec)

/-- 'quicksilverlaw02.LogsSums', WHERE WHAT IT READS IS OF BULK AT MOST 1048576: true; the input reads as it did. -/
def logsSumsUptoRow : OpenClaim := { program := "ytpgnheankmlnfaadoor", sum := "b7e93e330024f6c1ba8054aceac7f7b45db8e1717d4b12f6b4a05377b58d4d85", func := "quicksilver/quicksilverlaw02.LogsSums", spec := "logsSums", unfollowed := true, recurses := true, named := ["internal/strconv.uint64pow10", "math/bits.deBruijn32tab", "math/bits.deBruijn64tab"], apart := false, laid := [("math/bits.deBruijn32tab", laid_math_bits_deBruijn32tab), ("math/bits.deBruijn64tab", laid_math_bits_deBruijn64tab), ("internal/strconv.uint64pow10", laid_internal_strconv_uint64pow10)], narrowed := true }
def LogsSumsUptoSaid : Prop := logsSumsUptoRow.holds Tryd.pinned (OpenSpec.upto logsSumsSpec)

/-- 'quicksilverlaw02.LogsFiner', WHERE WHAT IT READS IS OF BULK AT MOST 1048576: true; the input reads as it did. -/
def logsFinerUptoRow : OpenClaim := { program := "ytpgnheankmlnfaadoor", sum := "b7e93e330024f6c1ba8054aceac7f7b45db8e1717d4b12f6b4a05377b58d4d85", func := "quicksilver/quicksilverlaw02.LogsFiner", spec := "logsFiner", unfollowed := true, recurses := true, named := ["internal/strconv.uint64pow10", "math/bits.deBruijn32tab", "math/bits.deBruijn64tab"], apart := false, laid := [("math/bits.deBruijn32tab", laid_math_bits_deBruijn32tab), ("math/bits.deBruijn64tab", laid_math_bits_deBruijn64tab), ("internal/strconv.uint64pow10", laid_internal_strconv_uint64pow10)], narrowed := true }
def LogsFinerUptoSaid : Prop := logsFinerUptoRow.holds Tryd.pinned (OpenSpec.upto logsFinerSpec)

/-- 'quicksilverlaw02.LogsOrder', WHERE WHAT IT READS IS OF BULK AT MOST 1048576: true; the input reads as it did. -/
def logsOrderUptoRow : OpenClaim := { program := "ytpgnheankmlnfaadoor", sum := "b7e93e330024f6c1ba8054aceac7f7b45db8e1717d4b12f6b4a05377b58d4d85", func := "quicksilver/quicksilverlaw02.LogsOrder", spec := "logsOrder", unfollowed := true, recurses := true, named := ["internal/strconv.uint64pow10", "math/bits.deBruijn32tab", "math/bits.deBruijn64tab"], apart := false, laid := [("math/bits.deBruijn32tab", laid_math_bits_deBruijn32tab), ("math/bits.deBruijn64tab", laid_math_bits_deBruijn64tab), ("internal/strconv.uint64pow10", laid_internal_strconv_uint64pow10)], narrowed := true }
def LogsOrderUptoSaid : Prop := logsOrderUptoRow.holds Tryd.pinned (OpenSpec.upto logsOrderSpec)

/-- 'quicksilverlaw02.LogsOneList', WHERE WHAT IT READS IS OF BULK AT MOST 1048576: true; the input reads as it did. -/
def logsOneListUptoRow : OpenClaim := { program := "ytpgnheankmlnfaadoor", sum := "b7e93e330024f6c1ba8054aceac7f7b45db8e1717d4b12f6b4a05377b58d4d85", func := "quicksilver/quicksilverlaw02.LogsOneList", spec := "logsOneList", unfollowed := true, recurses := true, named := ["internal/strconv.uint64pow10", "math/bits.deBruijn32tab", "math/bits.deBruijn64tab"], apart := false, laid := [("math/bits.deBruijn32tab", laid_math_bits_deBruijn32tab), ("math/bits.deBruijn64tab", laid_math_bits_deBruijn64tab), ("internal/strconv.uint64pow10", laid_internal_strconv_uint64pow10)], narrowed := true }
def LogsOneListUptoSaid : Prop := logsOneListUptoRow.holds Tryd.pinned (OpenSpec.upto logsOneListSpec)

/-- 'quicksilverlaw02.LogsTurned', WHERE WHAT IT READS IS OF BULK AT MOST 1048576: true; the input reads as it did. -/
def logsTurnedUptoRow : OpenClaim := { program := "ytpgnheankmlnfaadoor", sum := "b7e93e330024f6c1ba8054aceac7f7b45db8e1717d4b12f6b4a05377b58d4d85", func := "quicksilver/quicksilverlaw02.LogsTurned", spec := "logsTurned", unfollowed := true, recurses := true, named := ["internal/strconv.uint64pow10", "math/bits.deBruijn32tab", "math/bits.deBruijn64tab"], apart := false, laid := [("math/bits.deBruijn32tab", laid_math_bits_deBruijn32tab), ("math/bits.deBruijn64tab", laid_math_bits_deBruijn64tab), ("internal/strconv.uint64pow10", laid_internal_strconv_uint64pow10)], narrowed := true }
def LogsTurnedUptoSaid : Prop := logsTurnedUptoRow.holds Tryd.pinned (OpenSpec.upto logsTurnedSpec)

/-- 'quicksilverlaw02.LogsNarrower', WHERE WHAT IT READS IS OF BULK AT MOST 1048576: true; the input reads as it did. -/
def logsNarrowerUptoRow : OpenClaim := { program := "ytpgnheankmlnfaadoor", sum := "b7e93e330024f6c1ba8054aceac7f7b45db8e1717d4b12f6b4a05377b58d4d85", func := "quicksilver/quicksilverlaw02.LogsNarrower", spec := "logsNarrower", unfollowed := true, recurses := true, named := ["internal/strconv.uint64pow10", "math/bits.deBruijn32tab", "math/bits.deBruijn64tab"], apart := false, laid := [("math/bits.deBruijn32tab", laid_math_bits_deBruijn32tab), ("math/bits.deBruijn64tab", laid_math_bits_deBruijn64tab), ("internal/strconv.uint64pow10", laid_internal_strconv_uint64pow10)], narrowed := true }
def LogsNarrowerUptoSaid : Prop := logsNarrowerUptoRow.holds Tryd.pinned (OpenSpec.upto logsNarrowerSpec)

/-- 'quicksilverlaw02.LogsBest', WHERE WHAT IT READS IS OF BULK AT MOST 1048576: true; the input reads as it did. -/
def logsBestUptoRow : OpenClaim := { program := "ytpgnheankmlnfaadoor", sum := "b7e93e330024f6c1ba8054aceac7f7b45db8e1717d4b12f6b4a05377b58d4d85", func := "quicksilver/quicksilverlaw02.LogsBest", spec := "logsBest", unfollowed := true, recurses := true, named := ["internal/strconv.uint64pow10", "math/bits.deBruijn32tab", "math/bits.deBruijn64tab"], apart := false, laid := [("math/bits.deBruijn32tab", laid_math_bits_deBruijn32tab), ("math/bits.deBruijn64tab", laid_math_bits_deBruijn64tab), ("internal/strconv.uint64pow10", laid_internal_strconv_uint64pow10)], narrowed := true }
def LogsBestUptoSaid : Prop := logsBestUptoRow.holds Tryd.pinned (OpenSpec.upto logsBestSpec)

/-- 'quicksilverlaw02.LogsWhole', WHERE WHAT IT READS IS OF BULK AT MOST 1048576: true; the input reads as it did. -/
def logsWholeUptoRow : OpenClaim := { program := "ytpgnheankmlnfaadoor", sum := "b7e93e330024f6c1ba8054aceac7f7b45db8e1717d4b12f6b4a05377b58d4d85", func := "quicksilver/quicksilverlaw02.LogsWhole", spec := "logsWhole", unfollowed := true, recurses := true, named := ["internal/strconv.uint64pow10", "math/bits.deBruijn32tab", "math/bits.deBruijn64tab"], apart := false, laid := [("math/bits.deBruijn32tab", laid_math_bits_deBruijn32tab), ("math/bits.deBruijn64tab", laid_math_bits_deBruijn64tab), ("internal/strconv.uint64pow10", laid_internal_strconv_uint64pow10)], narrowed := true }
def LogsWholeUptoSaid : Prop := logsWholeUptoRow.holds Tryd.pinned (OpenSpec.upto logsWholeSpec)

/-- 'quicksilverlaw02.LogsBothWays', WHERE WHAT IT READS IS OF BULK AT MOST 1048576: true; the input reads as it did. -/
def logsBothWaysUptoRow : OpenClaim := { program := "ytpgnheankmlnfaadoor", sum := "b7e93e330024f6c1ba8054aceac7f7b45db8e1717d4b12f6b4a05377b58d4d85", func := "quicksilver/quicksilverlaw02.LogsBothWays", spec := "logsBothWays", unfollowed := true, recurses := true, named := ["internal/strconv.uint64pow10", "math/bits.deBruijn32tab", "math/bits.deBruijn64tab"], apart := false, laid := [("math/bits.deBruijn32tab", laid_math_bits_deBruijn32tab), ("math/bits.deBruijn64tab", laid_math_bits_deBruijn64tab), ("internal/strconv.uint64pow10", laid_internal_strconv_uint64pow10)], narrowed := true }
def LogsBothWaysUptoSaid : Prop := logsBothWaysUptoRow.holds Tryd.pinned (OpenSpec.upto logsBothWaysSpec)

/-- 'quicksilverlaw02.LogsConvergents', WHERE WHAT IT READS IS OF BULK AT MOST 1048576: true; the input reads as it did. -/
def logsConvergentsUptoRow : OpenClaim := { program := "ytpgnheankmlnfaadoor", sum := "b7e93e330024f6c1ba8054aceac7f7b45db8e1717d4b12f6b4a05377b58d4d85", func := "quicksilver/quicksilverlaw02.LogsConvergents", spec := "logsConvergents", unfollowed := true, recurses := true, named := ["internal/strconv.uint64pow10", "math/bits.deBruijn32tab", "math/bits.deBruijn64tab"], apart := false, laid := [("math/bits.deBruijn32tab", laid_math_bits_deBruijn32tab), ("math/bits.deBruijn64tab", laid_math_bits_deBruijn64tab), ("internal/strconv.uint64pow10", laid_internal_strconv_uint64pow10)], narrowed := true }
def LogsConvergentsUptoSaid : Prop := logsConvergentsUptoRow.holds Tryd.pinned (OpenSpec.upto logsConvergentsSpec)

end Rows
end Go.Proofs.YtpgnheankmlnfaaDoor
