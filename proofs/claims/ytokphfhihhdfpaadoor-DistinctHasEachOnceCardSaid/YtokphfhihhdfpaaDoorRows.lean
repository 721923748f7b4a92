/-
  NARROWER THAN 'FOR EVERY INPUT', by the rows' own cells (each row's printed sentence says how): OrderIsWhole: laid · CastsComeBack: laid · LogicTurnsRound: laid · ValuesMatchSpec: laid · LikesOfParts: laid · SumsMatchSpec: laid · SumsGoBack: laid · LogicMatchesSpec: laid · CastsMatchSpec: laid · OrderMatchesSpec: laid · DistinctHasEachOnce: laid · TextsComeBack: laid · SortedIsSorted: laid.
  DERIVED. THE GIVEN ROWS OF THIS SEAT. 13 by the template 'for every input the law returns true; each argument reads behind the call as it read before'; 0 by the template 'total and deterministic' (their statements: YtokphfhihhdfpaaDoorTotals.lean).
  GIVEN WITH THE SEED: the statements are not yours to turn. If you find one false, say at which input.
  Laid BY PROGRAM, IN A SANDBOX (cutbox-rows.mjs): the forced cells as the released guide's own fill.sh prints them over the translation 04bca27d0484245f… (all of the seat's roots in one cut). By AI agents, Wed Nov 11 2026. No macro, syntax, notation, axiom, sorry.
-/
import Derived.Test.YtokphfhihhdfpaaDoorChecked
import GoSem.PinnedTables
import GoSem.Claim
import GoSem.ClaimJoined
import GoSem.ClaimMapViews
import Derived.JoinedTies
import Derived.KernelRfl
namespace Go.Proofs.YtokphfhihhdfpaaDoor
/- THE CELL 'sum', in the pinned program and in every row, IS THE sha256 OF THE DUMP (.gsa) THAT YtokphfhihhdfpaaDoorProg.lean LOADS. Nothing in Lean hashes anything: it is a label: what it is worth is what the hold of that sum in a sandbox is worth. -/
noncomputable def Tryd.pinned : Pinned := { name := "ytokphfhihhdfpaadoor", sum := "04bca27d0484245f32158b6477bca75a5ae437d472f928f38bc5feb5c71a84e5", checked := Tryd.checked }
namespace Rows
def none {H : Type} : Left H := { results := [], args := [] }

/- WHAT THE LISTED PACKAGE-LEVEL VARIABLES READ AS WHEN THE CALL BEGINS. Each datum BY PROGRAM (the guide's laid-datum.mjs) off the statement by which the dump's own 'gosem.cut.vars' lays the variable. In a bare row this is a premise. The card (YtokphfhihhdfpaaDoorCards.lean) ties it to the program's text. -/
def laid_math_bits_deBruijn32tab {H : Type} : DataW H := .agg [.lit (.int .u8 0), .lit (.int .u8 1), .lit (.int .u8 28), .lit (.int .u8 2), .lit (.int .u8 29), .lit (.int .u8 14), .lit (.int .u8 24), .lit (.int .u8 3), .lit (.int .u8 30), .lit (.int .u8 22), .lit (.int .u8 20), .lit (.int .u8 15), .lit (.int .u8 25), .lit (.int .u8 17), .lit (.int .u8 4), .lit (.int .u8 8), .lit (.int .u8 31), .lit (.int .u8 27), .lit (.int .u8 13), .lit (.int .u8 23), .lit (.int .u8 21), .lit (.int .u8 19), .lit (.int .u8 16), .lit (.int .u8 7), .lit (.int .u8 26), .lit (.int .u8 12), .lit (.int .u8 18), .lit (.int .u8 6), .lit (.int .u8 11), .lit (.int .u8 5), .lit (.int .u8 10), .lit (.int .u8 9)]
def laid_math_bits_deBruijn64tab {H : Type} : DataW H := .agg [.lit (.int .u8 0), .lit (.int .u8 1), .lit (.int .u8 56), .lit (.int .u8 2), .lit (.int .u8 57), .lit (.int .u8 49), .lit (.int .u8 28), .lit (.int .u8 3), .lit (.int .u8 61), .lit (.int .u8 58), .lit (.int .u8 42), .lit (.int .u8 50), .lit (.int .u8 38), .lit (.int .u8 29), .lit (.int .u8 17), .lit (.int .u8 4), .lit (.int .u8 62), .lit (.int .u8 47), .lit (.int .u8 59), .lit (.int .u8 36), .lit (.int .u8 45), .lit (.int .u8 43), .lit (.int .u8 51), .lit (.int .u8 22), .lit (.int .u8 53), .lit (.int .u8 39), .lit (.int .u8 33), .lit (.int .u8 30), .lit (.int .u8 24), .lit (.int .u8 18), .lit (.int .u8 12), .lit (.int .u8 5), .lit (.int .u8 63), .lit (.int .u8 55), .lit (.int .u8 48), .lit (.int .u8 27), .lit (.int .u8 60), .lit (.int .u8 41), .lit (.int .u8 37), .lit (.int .u8 16), .lit (.int .u8 46), .lit (.int .u8 35), .lit (.int .u8 44), .lit (.int .u8 21), .lit (.int .u8 52), .lit (.int .u8 32), .lit (.int .u8 23), .lit (.int .u8 11), .lit (.int .u8 54), .lit (.int .u8 26), .lit (.int .u8 40), .lit (.int .u8 15), .lit (.int .u8 34), .lit (.int .u8 20), .lit (.int .u8 31), .lit (.int .u8 10), .lit (.int .u8 25), .lit (.int .u8 14), .lit (.int .u8 19), .lit (.int .u8 9), .lit (.int .u8 13), .lit (.int .u8 8), .lit (.int .u8 7), .lit (.int .u8 6)]
def laid_internal_strconv_uint64pow10 {H : Type} : DataW H := .agg [.lit (.int .u64 1), .lit (.int .u64 10), .lit (.int .u64 100), .lit (.int .u64 1000), .lit (.int .u64 10000), .lit (.int .u64 100000), .lit (.int .u64 1000000), .lit (.int .u64 10000000), .lit (.int .u64 100000000), .lit (.int .u64 1000000000), .lit (.int .u64 10000000000), .lit (.int .u64 100000000000), .lit (.int .u64 1000000000000), .lit (.int .u64 10000000000000), .lit (.int .u64 100000000000000), .lit (.int .u64 1000000000000000), .lit (.int .u64 10000000000000000), .lit (.int .u64 100000000000000000), .lit (.int .u64 1000000000000000000), .lit (.int .u64 10000000000000000000)]
def laid_strconv_ErrRange {H : Type} : DataW H := .iface "*errors.errorString" (.ptr (.agg [.lit (.string [118, 97, 108, 117, 101, 32, 111, 117, 116, 32, 111, 102, 32, 114, 97, 110, 103, 101])]))
def laid_strconv_ErrSyntax {H : Type} : DataW H := .iface "*errors.errorString" (.ptr (.agg [.lit (.string [105, 110, 118, 97, 108, 105, 100, 32, 115, 121, 110, 116, 97, 120])]))
def laid_unicode_utf8_acceptRanges {H : Type} : DataW H := .agg [.agg [.lit (.int .u8 128), .lit (.int .u8 191)], .agg [.lit (.int .u8 160), .lit (.int .u8 191)], .agg [.lit (.int .u8 128), .lit (.int .u8 159)], .agg [.lit (.int .u8 144), .lit (.int .u8 191)], .agg [.lit (.int .u8 128), .lit (.int .u8 143)], .agg [.lit (.int .u8 0), .lit (.int .u8 0)], .agg [.lit (.int .u8 0), .lit (.int .u8 0)], .agg [.lit (.int .u8 0), .lit (.int .u8 0)], .agg [.lit (.int .u8 0), .lit (.int .u8 0)], .agg [.lit (.int .u8 0), .lit (.int .u8 0)], .agg [.lit (.int .u8 0), .lit (.int .u8 0)], .agg [.lit (.int .u8 0), .lit (.int .u8 0)], .agg [.lit (.int .u8 0), .lit (.int .u8 0)], .agg [.lit (.int .u8 0), .lit (.int .u8 0)], .agg [.lit (.int .u8 0), .lit (.int .u8 0)], .agg [.lit (.int .u8 0), .lit (.int .u8 0)]]
/-- One of Go's own tables, pinned by name: the form's constant. -/
def laid_unicode_utf8_first : DataW Unit := Go.Pinned.utf8First

/-- 'peristylelaw1.OrderIsWhole': WHATEVER THE INPUT: true; the input reads as it did. -/
def orderIsWholeSpec : ChangeSpec := { name := "orderIsWhole", fn := fun _ => fun
  | [d1, d2, d3] => { results := [.lit (.bool true)], args := [d1, d2, d3] }
  | _ => none }
def orderIsWholeRow : OpenClaim := { program := "ytokphfhihhdfpaadoor", sum := "04bca27d0484245f32158b6477bca75a5ae437d472f928f38bc5feb5c71a84e5", func := "peristyle/peristylelaw1.OrderIsWhole", spec := "orderIsWhole", inPlace := ["internal/bytealg.abigen_runtime_cmpstring", "internal/bytealg.IndexByteString"], named := ["strconv.ErrSyntax", "strconv.ErrRange", "internal/strconv.uint64pow10", "math/bits.deBruijn32tab", "math/bits.deBruijn64tab"], apart := false, laid := [("math/bits.deBruijn32tab", laid_math_bits_deBruijn32tab), ("math/bits.deBruijn64tab", laid_math_bits_deBruijn64tab), ("internal/strconv.uint64pow10", laid_internal_strconv_uint64pow10), ("strconv.ErrRange", laid_strconv_ErrRange), ("strconv.ErrSyntax", laid_strconv_ErrSyntax)] }
def OrderIsWholeSaid : Prop := orderIsWholeRow.holds Tryd.pinned (OpenSpec.ofChange orderIsWholeSpec)

/-- ITS FALSE NEIGHBOUR: 'it returns false'. Refute it at one input. -/
def orderIsWholeWrong : ChangeSpec := { name := "orderIsWhole", fn := fun _ => fun
  | [d1, d2, d3] => { results := [.lit (.bool false)], args := [d1, d2, d3] }
  | _ => none }
def OrderIsWholeWrongFalsely : Prop := orderIsWholeRow.holds Tryd.pinned (OpenSpec.ofChange orderIsWholeWrong)

/-- 'peristylelaw1.CastsComeBack': WHATEVER THE INPUT: true; the input reads as it did. -/
def castsComeBackSpec : ChangeSpec := { name := "castsComeBack", fn := fun _ => fun
  | [d] => { results := [.lit (.bool true)], args := [d] }
  | _ => none }
def castsComeBackRow : OpenClaim := { program := "ytokphfhihhdfpaadoor", sum := "04bca27d0484245f32158b6477bca75a5ae437d472f928f38bc5feb5c71a84e5", func := "peristyle/peristylelaw1.CastsComeBack", spec := "castsComeBack", inPlace := ["internal/bytealg.IndexByteString"], named := ["strconv.ErrSyntax", "strconv.ErrRange", "internal/strconv.uint64pow10", "math/bits.deBruijn32tab", "math/bits.deBruijn64tab"], apart := false, laid := [("math/bits.deBruijn32tab", laid_math_bits_deBruijn32tab), ("math/bits.deBruijn64tab", laid_math_bits_deBruijn64tab), ("internal/strconv.uint64pow10", laid_internal_strconv_uint64pow10), ("strconv.ErrRange", laid_strconv_ErrRange), ("strconv.ErrSyntax", laid_strconv_ErrSyntax)] }
def CastsComeBackSaid : Prop := castsComeBackRow.holds Tryd.pinned (OpenSpec.ofChange castsComeBackSpec)

/-- ITS FALSE NEIGHBOUR: 'it returns false'. Refute it at one input. -/
def castsComeBackWrong : ChangeSpec := { name := "castsComeBack", fn := fun _ => fun
  | [d] => { results := [.lit (.bool false)], args := [d] }
  | _ => none }
def CastsComeBackWrongFalsely : Prop := castsComeBackRow.holds Tryd.pinned (OpenSpec.ofChange castsComeBackWrong)

/-- 'peristylelaw1.LogicTurnsRound': WHATEVER THE INPUT: true; the input reads as it did. -/
def logicTurnsRoundSpec : ChangeSpec := { name := "logicTurnsRound", fn := fun _ => fun
  | [d1, d2] => { results := [.lit (.bool true)], args := [d1, d2] }
  | _ => none }
def logicTurnsRoundRow : OpenClaim := { program := "ytokphfhihhdfpaadoor", sum := "04bca27d0484245f32158b6477bca75a5ae437d472f928f38bc5feb5c71a84e5", func := "peristyle/peristylelaw1.LogicTurnsRound", spec := "logicTurnsRound", inPlace := ["internal/bytealg.IndexByteString"], named := ["strconv.ErrSyntax", "strconv.ErrRange", "internal/strconv.uint64pow10", "math/bits.deBruijn32tab", "math/bits.deBruijn64tab"], apart := false, laid := [("math/bits.deBruijn32tab", laid_math_bits_deBruijn32tab), ("math/bits.deBruijn64tab", laid_math_bits_deBruijn64tab), ("internal/strconv.uint64pow10", laid_internal_strconv_uint64pow10), ("strconv.ErrRange", laid_strconv_ErrRange), ("strconv.ErrSyntax", laid_strconv_ErrSyntax)] }
def LogicTurnsRoundSaid : Prop := logicTurnsRoundRow.holds Tryd.pinned (OpenSpec.ofChange logicTurnsRoundSpec)

/-- ITS FALSE NEIGHBOUR: 'it returns false'. Refute it at one input. -/
def logicTurnsRoundWrong : ChangeSpec := { name := "logicTurnsRound", fn := fun _ => fun
  | [d1, d2] => { results := [.lit (.bool false)], args := [d1, d2] }
  | _ => none }
def LogicTurnsRoundWrongFalsely : Prop := logicTurnsRoundRow.holds Tryd.pinned (OpenSpec.ofChange logicTurnsRoundWrong)

/-- 'peristylelaw1.ValuesMatchSpec': WHATEVER THE INPUT: true; the input reads as it did. -/
def valuesMatchSpecSpec : ChangeSpec := { name := "valuesMatchSpec", fn := fun _ => fun
  | [d1, d2] => { results := [.lit (.bool true)], args := [d1, d2] }
  | _ => none }
def valuesMatchSpecRow : OpenClaim := { program := "ytokphfhihhdfpaadoor", sum := "04bca27d0484245f32158b6477bca75a5ae437d472f928f38bc5feb5c71a84e5", func := "peristyle/peristylelaw1.ValuesMatchSpec", spec := "valuesMatchSpec", inPlace := ["internal/bytealg.IndexByteString"], named := ["strconv.ErrSyntax", "strconv.ErrRange", "internal/strconv.uint64pow10", "math/bits.deBruijn32tab", "math/bits.deBruijn64tab"], apart := false, laid := [("math/bits.deBruijn32tab", laid_math_bits_deBruijn32tab), ("math/bits.deBruijn64tab", laid_math_bits_deBruijn64tab), ("internal/strconv.uint64pow10", laid_internal_strconv_uint64pow10), ("strconv.ErrRange", laid_strconv_ErrRange), ("strconv.ErrSyntax", laid_strconv_ErrSyntax)] }
def ValuesMatchSpecSaid : Prop := valuesMatchSpecRow.holds Tryd.pinned (OpenSpec.ofChange valuesMatchSpecSpec)

/-- ITS FALSE NEIGHBOUR: 'it returns false'. Refute it at one input. -/
def valuesMatchSpecWrong : ChangeSpec := { name := "valuesMatchSpec", fn := fun _ => fun
  | [d1, d2] => { results := [.lit (.bool false)], args := [d1, d2] }
  | _ => none }
def ValuesMatchSpecWrongFalsely : Prop := valuesMatchSpecRow.holds Tryd.pinned (OpenSpec.ofChange valuesMatchSpecWrong)

/-- 'peristylelaw1.LikesOfParts': WHATEVER THE INPUT: true; the input reads as it did. -/
def likesOfPartsSpec : ChangeSpec := { name := "likesOfParts", fn := fun _ => fun
  | [d1, d2, d3, d4] => { results := [.lit (.bool true)], args := [d1, d2, d3, d4] }
  | _ => none }
def likesOfPartsRow : OpenClaim := { program := "ytokphfhihhdfpaadoor", sum := "04bca27d0484245f32158b6477bca75a5ae437d472f928f38bc5feb5c71a84e5", func := "peristyle/peristylelaw1.LikesOfParts", spec := "likesOfParts", inPlace := ["internal/bytealg.IndexByteString"], named := ["strconv.ErrSyntax", "strconv.ErrRange", "internal/strconv.uint64pow10", "math/bits.deBruijn32tab", "math/bits.deBruijn64tab"], apart := false, laid := [("math/bits.deBruijn32tab", laid_math_bits_deBruijn32tab), ("math/bits.deBruijn64tab", laid_math_bits_deBruijn64tab), ("internal/strconv.uint64pow10", laid_internal_strconv_uint64pow10), ("strconv.ErrRange", laid_strconv_ErrRange), ("strconv.ErrSyntax", laid_strconv_ErrSyntax)] }
def LikesOfPartsSaid : Prop := likesOfPartsRow.holds Tryd.pinned (OpenSpec.ofChange likesOfPartsSpec)

/-- ITS FALSE NEIGHBOUR: 'it returns false'. Refute it at one input. -/
def likesOfPartsWrong : ChangeSpec := { name := "likesOfParts", fn := fun _ => fun
  | [d1, d2, d3, d4] => { results := [.lit (.bool false)], args := [d1, d2, d3, d4] }
  | _ => none }
def LikesOfPartsWrongFalsely : Prop := likesOfPartsRow.holds Tryd.pinned (OpenSpec.ofChange likesOfPartsWrong)

/-- 'peristylelaw1.SumsMatchSpec': WHATEVER THE INPUT: true; the input reads as it did. -/
def sumsMatchSpecSpec : ChangeSpec := { name := "sumsMatchSpec", fn := fun _ => fun
  | [d1, d2] => { results := [.lit (.bool true)], args := [d1, d2] }
  | _ => none }
def sumsMatchSpecRow : OpenClaim := { program := "ytokphfhihhdfpaadoor", sum := "04bca27d0484245f32158b6477bca75a5ae437d472f928f38bc5feb5c71a84e5", func := "peristyle/peristylelaw1.SumsMatchSpec", spec := "sumsMatchSpec", inPlace := ["internal/bytealg.IndexByteString"], named := ["strconv.ErrSyntax", "strconv.ErrRange", "internal/strconv.uint64pow10", "math/bits.deBruijn32tab", "math/bits.deBruijn64tab"], apart := false, laid := [("math/bits.deBruijn32tab", laid_math_bits_deBruijn32tab), ("math/bits.deBruijn64tab", laid_math_bits_deBruijn64tab), ("internal/strconv.uint64pow10", laid_internal_strconv_uint64pow10), ("strconv.ErrRange", laid_strconv_ErrRange), ("strconv.ErrSyntax", laid_strconv_ErrSyntax)] }
def SumsMatchSpecSaid : Prop := sumsMatchSpecRow.holds Tryd.pinned (OpenSpec.ofChange sumsMatchSpecSpec)

/-- ITS FALSE NEIGHBOUR: 'it returns false'. Refute it at one input. -/
def sumsMatchSpecWrong : ChangeSpec := { name := "sumsMatchSpec", fn := fun _ => fun
  | [d1, d2] => { results := [.lit (.bool false)], args := [d1, d2] }
  | _ => none }
def SumsMatchSpecWrongFalsely : Prop := sumsMatchSpecRow.holds Tryd.pinned (OpenSpec.ofChange sumsMatchSpecWrong)

/-- 'peristylelaw1.SumsGoBack': WHATEVER THE INPUT: true; the input reads as it did. -/
def sumsGoBackSpec : ChangeSpec := { name := "sumsGoBack", fn := fun _ => fun
  | [d1, d2] => { results := [.lit (.bool true)], args := [d1, d2] }
  | _ => none }
def sumsGoBackRow : OpenClaim := { program := "ytokphfhihhdfpaadoor", sum := "04bca27d0484245f32158b6477bca75a5ae437d472f928f38bc5feb5c71a84e5", func := "peristyle/peristylelaw1.SumsGoBack", spec := "sumsGoBack", inPlace := ["internal/bytealg.IndexByteString"], named := ["strconv.ErrSyntax", "strconv.ErrRange", "internal/strconv.uint64pow10", "math/bits.deBruijn32tab", "math/bits.deBruijn64tab"], apart := false, laid := [("math/bits.deBruijn32tab", laid_math_bits_deBruijn32tab), ("math/bits.deBruijn64tab", laid_math_bits_deBruijn64tab), ("internal/strconv.uint64pow10", laid_internal_strconv_uint64pow10), ("strconv.ErrRange", laid_strconv_ErrRange), ("strconv.ErrSyntax", laid_strconv_ErrSyntax)] }
def SumsGoBackSaid : Prop := sumsGoBackRow.holds Tryd.pinned (OpenSpec.ofChange sumsGoBackSpec)

/-- ITS FALSE NEIGHBOUR: 'it returns false'. Refute it at one input. -/
def sumsGoBackWrong : ChangeSpec := { name := "sumsGoBack", fn := fun _ => fun
  | [d1, d2] => { results := [.lit (.bool false)], args := [d1, d2] }
  | _ => none }
def SumsGoBackWrongFalsely : Prop := sumsGoBackRow.holds Tryd.pinned (OpenSpec.ofChange sumsGoBackWrong)

/-- 'peristylelaw1.LogicMatchesSpec': WHATEVER THE INPUT: true; the input reads as it did. -/
def logicMatchesSpecSpec : ChangeSpec := { name := "logicMatchesSpec", fn := fun _ => fun
  | [d1, d2] => { results := [.lit (.bool true)], args := [d1, d2] }
  | _ => none }
def logicMatchesSpecRow : OpenClaim := { program := "ytokphfhihhdfpaadoor", sum := "04bca27d0484245f32158b6477bca75a5ae437d472f928f38bc5feb5c71a84e5", func := "peristyle/peristylelaw1.LogicMatchesSpec", spec := "logicMatchesSpec", inPlace := ["internal/bytealg.abigen_runtime_cmpstring", "internal/bytealg.IndexByteString"], named := ["strconv.ErrSyntax", "strconv.ErrRange", "internal/strconv.uint64pow10", "math/bits.deBruijn32tab", "math/bits.deBruijn64tab"], apart := false, laid := [("math/bits.deBruijn32tab", laid_math_bits_deBruijn32tab), ("math/bits.deBruijn64tab", laid_math_bits_deBruijn64tab), ("internal/strconv.uint64pow10", laid_internal_strconv_uint64pow10), ("strconv.ErrRange", laid_strconv_ErrRange), ("strconv.ErrSyntax", laid_strconv_ErrSyntax)] }
def LogicMatchesSpecSaid : Prop := logicMatchesSpecRow.holds Tryd.pinned (OpenSpec.ofChange logicMatchesSpecSpec)

/-- ITS FALSE NEIGHBOUR: 'it returns false'. Refute it at one input. -/
def logicMatchesSpecWrong : ChangeSpec := { name := "logicMatchesSpec", fn := fun _ => fun
  | [d1, d2] => { results := [.lit (.bool false)], args := [d1, d2] }
  | _ => none }
def LogicMatchesSpecWrongFalsely : Prop := logicMatchesSpecRow.holds Tryd.pinned (OpenSpec.ofChange logicMatchesSpecWrong)

/-- 'peristylelaw1.CastsMatchSpec': WHATEVER THE INPUT: true; the input reads as it did. -/
def castsMatchSpecSpec : ChangeSpec := { name := "castsMatchSpec", fn := fun _ => fun
  | [d1, d2, d3, d4] => { results := [.lit (.bool true)], args := [d1, d2, d3, d4] }
  | _ => none }
def castsMatchSpecRow : OpenClaim := { program := "ytokphfhihhdfpaadoor", sum := "04bca27d0484245f32158b6477bca75a5ae437d472f928f38bc5feb5c71a84e5", func := "peristyle/peristylelaw1.CastsMatchSpec", spec := "castsMatchSpec", inPlace := ["internal/bytealg.IndexByteString"], named := ["strconv.ErrSyntax", "strconv.ErrRange", "internal/strconv.uint64pow10", "math/bits.deBruijn32tab", "math/bits.deBruijn64tab"], apart := false, laid := [("math/bits.deBruijn32tab", laid_math_bits_deBruijn32tab), ("math/bits.deBruijn64tab", laid_math_bits_deBruijn64tab), ("internal/strconv.uint64pow10", laid_internal_strconv_uint64pow10), ("strconv.ErrRange", laid_strconv_ErrRange), ("strconv.ErrSyntax", laid_strconv_ErrSyntax)] }
def CastsMatchSpecSaid : Prop := castsMatchSpecRow.holds Tryd.pinned (OpenSpec.ofChange castsMatchSpecSpec)

/-- ITS FALSE NEIGHBOUR: 'it returns false'. Refute it at one input. -/
def castsMatchSpecWrong : ChangeSpec := { name := "castsMatchSpec", fn := fun _ => fun
  | [d1, d2, d3, d4] => { results := [.lit (.bool false)], args := [d1, d2, d3, d4] }
  | _ => none }
def CastsMatchSpecWrongFalsely : Prop := castsMatchSpecRow.holds Tryd.pinned (OpenSpec.ofChange castsMatchSpecWrong)

/-- 'peristylelaw1.OrderMatchesSpec': WHATEVER THE INPUT: true; the input reads as it did. -/
def orderMatchesSpecSpec : ChangeSpec := { name := "orderMatchesSpec", fn := fun _ => fun
  | [d1, d2, d3, d4, d5, d6] => { results := [.lit (.bool true)], args := [d1, d2, d3, d4, d5, d6] }
  | _ => none }
def orderMatchesSpecRow : OpenClaim := { program := "ytokphfhihhdfpaadoor", sum := "04bca27d0484245f32158b6477bca75a5ae437d472f928f38bc5feb5c71a84e5", func := "peristyle/peristylelaw1.OrderMatchesSpec", spec := "orderMatchesSpec", inPlace := ["internal/bytealg.abigen_runtime_cmpstring", "internal/bytealg.IndexByteString"], named := ["strconv.ErrSyntax", "strconv.ErrRange", "internal/strconv.uint64pow10", "math/bits.deBruijn32tab", "math/bits.deBruijn64tab"], apart := false, laid := [("math/bits.deBruijn32tab", laid_math_bits_deBruijn32tab), ("math/bits.deBruijn64tab", laid_math_bits_deBruijn64tab), ("internal/strconv.uint64pow10", laid_internal_strconv_uint64pow10), ("strconv.ErrRange", laid_strconv_ErrRange), ("strconv.ErrSyntax", laid_strconv_ErrSyntax)] }
def OrderMatchesSpecSaid : Prop := orderMatchesSpecRow.holds Tryd.pinned (OpenSpec.ofChange orderMatchesSpecSpec)

/-- ITS FALSE NEIGHBOUR: 'it returns false'. Refute it at one input. -/
def orderMatchesSpecWrong : ChangeSpec := { name := "orderMatchesSpec", fn := fun _ => fun
  | [d1, d2, d3, d4, d5, d6] => { results := [.lit (.bool false)], args := [d1, d2, d3, d4, d5, d6] }
  | _ => none }
def OrderMatchesSpecWrongFalsely : Prop := orderMatchesSpecRow.holds Tryd.pinned (OpenSpec.ofChange orderMatchesSpecWrong)

/-- 'peristylelaw1.DistinctHasEachOnce': WHATEVER THE INPUT: true; the input reads as it did. -/
def distinctHasEachOnceSpec : ChangeSpec := { name := "distinctHasEachOnce", fn := fun _ => fun
  | [d1, d2] => { results := [.lit (.bool true)], args := [d1, d2] }
  | _ => none }
def distinctHasEachOnceRow : OpenClaim := { program := "ytokphfhihhdfpaadoor", sum := "04bca27d0484245f32158b6477bca75a5ae437d472f928f38bc5feb5c71a84e5", func := "peristyle/peristylelaw1.DistinctHasEachOnce", spec := "distinctHasEachOnce", inPlace := ["internal/bytealg.abigen_runtime_cmpstring", "internal/bytealg.IndexByteString"], unfollowed := true, recurses := true, named := ["strconv.ErrSyntax", "strconv.ErrRange", "internal/strconv.uint64pow10", "math/bits.deBruijn32tab", "math/bits.deBruijn64tab"], apart := false, laid := [("math/bits.deBruijn32tab", laid_math_bits_deBruijn32tab), ("math/bits.deBruijn64tab", laid_math_bits_deBruijn64tab), ("internal/strconv.uint64pow10", laid_internal_strconv_uint64pow10), ("strconv.ErrRange", laid_strconv_ErrRange), ("strconv.ErrSyntax", laid_strconv_ErrSyntax)] }
def DistinctHasEachOnceSaid : Prop := distinctHasEachOnceRow.holds Tryd.pinned (OpenSpec.ofChange distinctHasEachOnceSpec)

/-- ITS FALSE NEIGHBOUR: 'it returns false'. Refute it at one input. -/
def distinctHasEachOnceWrong : ChangeSpec := { name := "distinctHasEachOnce", fn := fun _ => fun
  | [d1, d2] => { results := [.lit (.bool false)], args := [d1, d2] }
  | _ => none }
def DistinctHasEachOnceWrongFalsely : Prop := distinctHasEachOnceRow.holds Tryd.pinned (OpenSpec.ofChange distinctHasEachOnceWrong)

/-- 'peristylelaw1.TextsComeBack': WHATEVER THE INPUT: true; the input reads as it did. -/
def textsComeBackSpec : ChangeSpec := { name := "textsComeBack", fn := fun _ => fun
  | [d1, d2, d3] => { results := [.lit (.bool true)], args := [d1, d2, d3] }
  | _ => none }
def textsComeBackRow : OpenClaim := { program := "ytokphfhihhdfpaadoor", sum := "04bca27d0484245f32158b6477bca75a5ae437d472f928f38bc5feb5c71a84e5", func := "peristyle/peristylelaw1.TextsComeBack", spec := "textsComeBack", inPlace := ["internal/bytealg.CountString", "internal/bytealg.IndexByteString", "internal/bytealg.IndexString", "internal/abi.NoEscape", "internal/bytealg.MakeNoZero"], named := ["internal/strconv.uint64pow10", "math/bits.deBruijn32tab", "math/bits.deBruijn64tab", "internal/bytealg.MaxLen", "unicode/utf8.first", "unicode/utf8.acceptRanges", "strconv.ErrSyntax", "strconv.ErrRange"], apart := false, laid := [("math/bits.deBruijn32tab", laid_math_bits_deBruijn32tab), ("math/bits.deBruijn64tab", laid_math_bits_deBruijn64tab), ("internal/strconv.uint64pow10", laid_internal_strconv_uint64pow10), ("unicode/utf8.acceptRanges", laid_unicode_utf8_acceptRanges), ("strconv.ErrRange", laid_strconv_ErrRange), ("strconv.ErrSyntax", laid_strconv_ErrSyntax), ("unicode/utf8.first", laid_unicode_utf8_first)] }
def TextsComeBackSaid : Prop := textsComeBackRow.holds Tryd.pinned (OpenSpec.ofChange textsComeBackSpec)

/-- ITS FALSE NEIGHBOUR: 'it returns false'. Refute it at one input. -/
def textsComeBackWrong : ChangeSpec := { name := "textsComeBack", fn := fun _ => fun
  | [d1, d2, d3] => { results := [.lit (.bool false)], args := [d1, d2, d3] }
  | _ => none }
def TextsComeBackWrongFalsely : Prop := textsComeBackRow.holds Tryd.pinned (OpenSpec.ofChange textsComeBackWrong)

/-- 'peristylelaw1.SortedIsSorted': WHATEVER THE INPUT: true; the input reads as it did. -/
def sortedIsSortedSpec : ChangeSpec := { name := "sortedIsSorted", fn := fun _ => fun
  | [d1, d2] => { results := [.lit (.bool true)], args := [d1, d2] }
  | _ => none }
def sortedIsSortedRow : OpenClaim := { program := "ytokphfhihhdfpaadoor", sum := "04bca27d0484245f32158b6477bca75a5ae437d472f928f38bc5feb5c71a84e5", func := "peristyle/peristylelaw1.SortedIsSorted", spec := "sortedIsSorted", inPlace := ["internal/bytealg.abigen_runtime_cmpstring", "internal/bytealg.IndexByteString"], unfollowed := true, recurses := true, named := ["strconv.ErrSyntax", "strconv.ErrRange", "internal/strconv.uint64pow10", "math/bits.deBruijn32tab", "math/bits.deBruijn64tab"], apart := false, laid := [("math/bits.deBruijn32tab", laid_math_bits_deBruijn32tab), ("math/bits.deBruijn64tab", laid_math_bits_deBruijn64tab), ("internal/strconv.uint64pow10", laid_internal_strconv_uint64pow10), ("strconv.ErrRange", laid_strconv_ErrRange), ("strconv.ErrSyntax", laid_strconv_ErrSyntax)] }
def SortedIsSortedSaid : Prop := sortedIsSortedRow.holds Tryd.pinned (OpenSpec.ofChange sortedIsSortedSpec)

/-- ITS FALSE NEIGHBOUR: 'it returns false'. Refute it at one input. -/
def sortedIsSortedWrong : ChangeSpec := { name := "sortedIsSorted", fn := fun _ => fun
  | [d1, d2] => { results := [.lit (.bool false)], args := [d1, d2] }
  | _ => none }
def SortedIsSortedWrongFalsely : Prop := sortedIsSortedRow.holds Tryd.pinned (OpenSpec.ofChange sortedIsSortedWrong)

/- THE SECOND FORM. 'bulk': how many values and letters a reading holds, each counted each time it is reached (what is shared counts as often as it is met; a slice's spare places count too). A statement '..UptoSaid' is the law's where the arguments, and the package variables that the reading takes, are together of bulk at most 1048576: NARROWER than '..Said'. Prove '..Said' where nothing that the law and all that it calls make is longer than what came in: it says more and counts as full. Else prove '..UptoSaid'. A law counts once. -/
mutual
def uptoBulk {H : Type} : DataW H → Nat
  | .lit (.string bytes) => bytes.length + 1
  | .lit _ => 1
  | .nil => 1
  | .ptr d => uptoBulk d + 1
  | .slice elems spare => uptoBulkAll elems + uptoBulkAll spare + 1
  | .agg parts => uptoBulkAll parts + 1
  | .iface _ d => uptoBulk d + 1
  | .map entries => uptoBulkEntries entries + 1
  | .held _ => 1
def uptoBulkAll {H : Type} : List (DataW H) → Nat
  | [] => 0
  | d :: r => uptoBulk d + uptoBulkAll r
def uptoBulkEntries {H : Type} : List (Lit × DataW H) → Nat
  | [] => 0
  | x :: r => uptoBulkEntry x + uptoBulkEntries r
def uptoBulkEntry {H : Type} : Lit × DataW H → Nat
  | (.string bytes, d) => bytes.length + uptoBulk d + 1
  | (_, d) => uptoBulk d + 1
 end
def uptoSmall : (H : Type) → List (DataW H) → Bool := fun _ ds => decide (uptoBulkAll ds ≤ 1048576)
def OpenSpec.upto (s : _root_.Go.ChangeSpec) : _root_.Go.OpenSpec := { _root_.Go.OpenSpec.ofChange s with cond := some uptoSmall }

/-- 'peristylelaw1.OrderIsWhole', WHERE WHAT IT READS IS OF BULK AT MOST 1048576: true; the input reads as it did. -/
def orderIsWholeUptoRow : OpenClaim := { program := "ytokphfhihhdfpaadoor", sum := "04bca27d0484245f32158b6477bca75a5ae437d472f928f38bc5feb5c71a84e5", func := "peristyle/peristylelaw1.OrderIsWhole", spec := "orderIsWhole", inPlace := ["internal/bytealg.abigen_runtime_cmpstring", "internal/bytealg.IndexByteString"], named := ["strconv.ErrSyntax", "strconv.ErrRange", "internal/strconv.uint64pow10", "math/bits.deBruijn32tab", "math/bits.deBruijn64tab"], apart := false, laid := [("math/bits.deBruijn32tab", laid_math_bits_deBruijn32tab), ("math/bits.deBruijn64tab", laid_math_bits_deBruijn64tab), ("internal/strconv.uint64pow10", laid_internal_strconv_uint64pow10), ("strconv.ErrRange", laid_strconv_ErrRange), ("strconv.ErrSyntax", laid_strconv_ErrSyntax)], narrowed := true }
def OrderIsWholeUptoSaid : Prop := orderIsWholeUptoRow.holds Tryd.pinned (OpenSpec.upto orderIsWholeSpec)

/-- 'peristylelaw1.CastsComeBack', WHERE WHAT IT READS IS OF BULK AT MOST 1048576: true; the input reads as it did. -/
def castsComeBackUptoRow : OpenClaim := { program := "ytokphfhihhdfpaadoor", sum := "04bca27d0484245f32158b6477bca75a5ae437d472f928f38bc5feb5c71a84e5", func := "peristyle/peristylelaw1.CastsComeBack", spec := "castsComeBack", inPlace := ["internal/bytealg.IndexByteString"], named := ["strconv.ErrSyntax", "strconv.ErrRange", "internal/strconv.uint64pow10", "math/bits.deBruijn32tab", "math/bits.deBruijn64tab"], apart := false, laid := [("math/bits.deBruijn32tab", laid_math_bits_deBruijn32tab), ("math/bits.deBruijn64tab", laid_math_bits_deBruijn64tab), ("internal/strconv.uint64pow10", laid_internal_strconv_uint64pow10), ("strconv.ErrRange", laid_strconv_ErrRange), ("strconv.ErrSyntax", laid_strconv_ErrSyntax)], narrowed := true }
def CastsComeBackUptoSaid : Prop := castsComeBackUptoRow.holds Tryd.pinned (OpenSpec.upto castsComeBackSpec)

/-- 'peristylelaw1.LogicTurnsRound', WHERE WHAT IT READS IS OF BULK AT MOST 1048576: true; the input reads as it did. -/
def logicTurnsRoundUptoRow : OpenClaim := { program := "ytokphfhihhdfpaadoor", sum := "04bca27d0484245f32158b6477bca75a5ae437d472f928f38bc5feb5c71a84e5", func := "peristyle/peristylelaw1.LogicTurnsRound", spec := "logicTurnsRound", inPlace := ["internal/bytealg.IndexByteString"], named := ["strconv.ErrSyntax", "strconv.ErrRange", "internal/strconv.uint64pow10", "math/bits.deBruijn32tab", "math/bits.deBruijn64tab"], apart := false, laid := [("math/bits.deBruijn32tab", laid_math_bits_deBruijn32tab), ("math/bits.deBruijn64tab", laid_math_bits_deBruijn64tab), ("internal/strconv.uint64pow10", laid_internal_strconv_uint64pow10), ("strconv.ErrRange", laid_strconv_ErrRange), ("strconv.ErrSyntax", laid_strconv_ErrSyntax)], narrowed := true }
def LogicTurnsRoundUptoSaid : Prop := logicTurnsRoundUptoRow.holds Tryd.pinned (OpenSpec.upto logicTurnsRoundSpec)

/-- 'peristylelaw1.ValuesMatchSpec', WHERE WHAT IT READS IS OF BULK AT MOST 1048576: true; the input reads as it did. -/
def valuesMatchSpecUptoRow : OpenClaim := { program := "ytokphfhihhdfpaadoor", sum := "04bca27d0484245f32158b6477bca75a5ae437d472f928f38bc5feb5c71a84e5", func := "peristyle/peristylelaw1.ValuesMatchSpec", spec := "valuesMatchSpec", inPlace := ["internal/bytealg.IndexByteString"], named := ["strconv.ErrSyntax", "strconv.ErrRange", "internal/strconv.uint64pow10", "math/bits.deBruijn32tab", "math/bits.deBruijn64tab"], apart := false, laid := [("math/bits.deBruijn32tab", laid_math_bits_deBruijn32tab), ("math/bits.deBruijn64tab", laid_math_bits_deBruijn64tab), ("internal/strconv.uint64pow10", laid_internal_strconv_uint64pow10), ("strconv.ErrRange", laid_strconv_ErrRange), ("strconv.ErrSyntax", laid_strconv_ErrSyntax)], narrowed := true }
def ValuesMatchSpecUptoSaid : Prop := valuesMatchSpecUptoRow.holds Tryd.pinned (OpenSpec.upto valuesMatchSpecSpec)

/-- 'peristylelaw1.LikesOfParts', WHERE WHAT IT READS IS OF BULK AT MOST 1048576: true; the input reads as it did. -/
def likesOfPartsUptoRow : OpenClaim := { program := "ytokphfhihhdfpaadoor", sum := "04bca27d0484245f32158b6477bca75a5ae437d472f928f38bc5feb5c71a84e5", func := "peristyle/peristylelaw1.LikesOfParts", spec := "likesOfParts", inPlace := ["internal/bytealg.IndexByteString"], named := ["strconv.ErrSyntax", "strconv.ErrRange", "internal/strconv.uint64pow10", "math/bits.deBruijn32tab", "math/bits.deBruijn64tab"], apart := false, laid := [("math/bits.deBruijn32tab", laid_math_bits_deBruijn32tab), ("math/bits.deBruijn64tab", laid_math_bits_deBruijn64tab), ("internal/strconv.uint64pow10", laid_internal_strconv_uint64pow10), ("strconv.ErrRange", laid_strconv_ErrRange), ("strconv.ErrSyntax", laid_strconv_ErrSyntax)], narrowed := true }
def LikesOfPartsUptoSaid : Prop := likesOfPartsUptoRow.holds Tryd.pinned (OpenSpec.upto likesOfPartsSpec)

/-- 'peristylelaw1.SumsMatchSpec', WHERE WHAT IT READS IS OF BULK AT MOST 1048576: true; the input reads as it did. -/
def sumsMatchSpecUptoRow : OpenClaim := { program := "ytokphfhihhdfpaadoor", sum := "04bca27d0484245f32158b6477bca75a5ae437d472f928f38bc5feb5c71a84e5", func := "peristyle/peristylelaw1.SumsMatchSpec", spec := "sumsMatchSpec", inPlace := ["internal/bytealg.IndexByteString"], named := ["strconv.ErrSyntax", "strconv.ErrRange", "internal/strconv.uint64pow10", "math/bits.deBruijn32tab", "math/bits.deBruijn64tab"], apart := false, laid := [("math/bits.deBruijn32tab", laid_math_bits_deBruijn32tab), ("math/bits.deBruijn64tab", laid_math_bits_deBruijn64tab), ("internal/strconv.uint64pow10", laid_internal_strconv_uint64pow10), ("strconv.ErrRange", laid_strconv_ErrRange), ("strconv.ErrSyntax", laid_strconv_ErrSyntax)], narrowed := true }
def SumsMatchSpecUptoSaid : Prop := sumsMatchSpecUptoRow.holds Tryd.pinned (OpenSpec.upto sumsMatchSpecSpec)

/-- 'peristylelaw1.SumsGoBack', WHERE WHAT IT READS IS OF BULK AT MOST 1048576: true; the input reads as it did. -/
def sumsGoBackUptoRow : OpenClaim := { program := "ytokphfhihhdfpaadoor", sum := "04bca27d0484245f32158b6477bca75a5ae437d472f928f38bc5feb5c71a84e5", func := "peristyle/peristylelaw1.SumsGoBack", spec := "sumsGoBack", inPlace := ["internal/bytealg.IndexByteString"], named := ["strconv.ErrSyntax", "strconv.ErrRange", "internal/strconv.uint64pow10", "math/bits.deBruijn32tab", "math/bits.deBruijn64tab"], apart := false, laid := [("math/bits.deBruijn32tab", laid_math_bits_deBruijn32tab), ("math/bits.deBruijn64tab", laid_math_bits_deBruijn64tab), ("internal/strconv.uint64pow10", laid_internal_strconv_uint64pow10), ("strconv.ErrRange", laid_strconv_ErrRange), ("strconv.ErrSyntax", laid_strconv_ErrSyntax)], narrowed := true }
def SumsGoBackUptoSaid : Prop := sumsGoBackUptoRow.holds Tryd.pinned (OpenSpec.upto sumsGoBackSpec)

/-- 'peristylelaw1.LogicMatchesSpec', WHERE WHAT IT READS IS OF BULK AT MOST 1048576: true; the input reads as it did. -/
def logicMatchesSpecUptoRow : OpenClaim := { program := "ytokphfhihhdfpaadoor", sum := "04bca27d0484245f32158b6477bca75a5ae437d472f928f38bc5feb5c71a84e5", func := "peristyle/peristylelaw1.LogicMatchesSpec", spec := "logicMatchesSpec", inPlace := ["internal/bytealg.abigen_runtime_cmpstring", "internal/bytealg.IndexByteString"], named := ["strconv.ErrSyntax", "strconv.ErrRange", "internal/strconv.uint64pow10", "math/bits.deBruijn32tab", "math/bits.deBruijn64tab"], apart := false, laid := [("math/bits.deBruijn32tab", laid_math_bits_deBruijn32tab), ("math/bits.deBruijn64tab", laid_math_bits_deBruijn64tab), ("internal/strconv.uint64pow10", laid_internal_strconv_uint64pow10), ("strconv.ErrRange", laid_strconv_ErrRange), ("strconv.ErrSyntax", laid_strconv_ErrSyntax)], narrowed := true }
def LogicMatchesSpecUptoSaid : Prop := logicMatchesSpecUptoRow.holds Tryd.pinned (OpenSpec.upto logicMatchesSpecSpec)

/-- 'peristylelaw1.CastsMatchSpec', WHERE WHAT IT READS IS OF BULK AT MOST 1048576: true; the input reads as it did. -/
def castsMatchSpecUptoRow : OpenClaim := { program := "ytokphfhihhdfpaadoor", sum := "04bca27d0484245f32158b6477bca75a5ae437d472f928f38bc5feb5c71a84e5", func := "peristyle/peristylelaw1.CastsMatchSpec", spec := "castsMatchSpec", inPlace := ["internal/bytealg.IndexByteString"], named := ["strconv.ErrSyntax", "strconv.ErrRange", "internal/strconv.uint64pow10", "math/bits.deBruijn32tab", "math/bits.deBruijn64tab"], apart := false, laid := [("math/bits.deBruijn32tab", laid_math_bits_deBruijn32tab), ("math/bits.deBruijn64tab", laid_math_bits_deBruijn64tab), ("internal/strconv.uint64pow10", laid_internal_strconv_uint64pow10), ("strconv.ErrRange", laid_strconv_ErrRange), ("strconv.ErrSyntax", laid_strconv_ErrSyntax)], narrowed := true }
def CastsMatchSpecUptoSaid : Prop := castsMatchSpecUptoRow.holds Tryd.pinned (OpenSpec.upto castsMatchSpecSpec)

/-- 'peristylelaw1.OrderMatchesSpec', WHERE WHAT IT READS IS OF BULK AT MOST 1048576: true; the input reads as it did. -/
def orderMatchesSpecUptoRow : OpenClaim := { program := "ytokphfhihhdfpaadoor", sum := "04bca27d0484245f32158b6477bca75a5ae437d472f928f38bc5feb5c71a84e5", func := "peristyle/peristylelaw1.OrderMatchesSpec", spec := "orderMatchesSpec", inPlace := ["internal/bytealg.abigen_runtime_cmpstring", "internal/bytealg.IndexByteString"], named := ["strconv.ErrSyntax", "strconv.ErrRange", "internal/strconv.uint64pow10", "math/bits.deBruijn32tab", "math/bits.deBruijn64tab"], apart := false, laid := [("math/bits.deBruijn32tab", laid_math_bits_deBruijn32tab), ("math/bits.deBruijn64tab", laid_math_bits_deBruijn64tab), ("internal/strconv.uint64pow10", laid_internal_strconv_uint64pow10), ("strconv.ErrRange", laid_strconv_ErrRange), ("strconv.ErrSyntax", laid_strconv_ErrSyntax)], narrowed := true }
def OrderMatchesSpecUptoSaid : Prop := orderMatchesSpecUptoRow.holds Tryd.pinned (OpenSpec.upto orderMatchesSpecSpec)

/-- 'peristylelaw1.DistinctHasEachOnce', WHERE WHAT IT READS IS OF BULK AT MOST 1048576: true; the input reads as it did. -/
def distinctHasEachOnceUptoRow : OpenClaim := { program := "ytokphfhihhdfpaadoor", sum := "04bca27d0484245f32158b6477bca75a5ae437d472f928f38bc5feb5c71a84e5", func := "peristyle/peristylelaw1.DistinctHasEachOnce", spec := "distinctHasEachOnce", inPlace := ["internal/bytealg.abigen_runtime_cmpstring", "internal/bytealg.IndexByteString"], unfollowed := true, recurses := true, named := ["strconv.ErrSyntax", "strconv.ErrRange", "internal/strconv.uint64pow10", "math/bits.deBruijn32tab", "math/bits.deBruijn64tab"], apart := false, laid := [("math/bits.deBruijn32tab", laid_math_bits_deBruijn32tab), ("math/bits.deBruijn64tab", laid_math_bits_deBruijn64tab), ("internal/strconv.uint64pow10", laid_internal_strconv_uint64pow10), ("strconv.ErrRange", laid_strconv_ErrRange), ("strconv.ErrSyntax", laid_strconv_ErrSyntax)], narrowed := true }
def DistinctHasEachOnceUptoSaid : Prop := distinctHasEachOnceUptoRow.holds Tryd.pinned (OpenSpec.upto distinctHasEachOnceSpec)

/-- 'peristylelaw1.TextsComeBack', WHERE WHAT IT READS IS OF BULK AT MOST 1048576: true; the input reads as it did. -/
def textsComeBackUptoRow : OpenClaim := { program := "ytokphfhihhdfpaadoor", sum := "04bca27d0484245f32158b6477bca75a5ae437d472f928f38bc5feb5c71a84e5", func := "peristyle/peristylelaw1.TextsComeBack", spec := "textsComeBack", inPlace := ["internal/bytealg.CountString", "internal/bytealg.IndexByteString", "internal/bytealg.IndexString", "internal/abi.NoEscape", "internal/bytealg.MakeNoZero"], named := ["internal/strconv.uint64pow10", "math/bits.deBruijn32tab", "math/bits.deBruijn64tab", "internal/bytealg.MaxLen", "unicode/utf8.first", "unicode/utf8.acceptRanges", "strconv.ErrSyntax", "strconv.ErrRange"], apart := false, laid := [("math/bits.deBruijn32tab", laid_math_bits_deBruijn32tab), ("math/bits.deBruijn64tab", laid_math_bits_deBruijn64tab), ("internal/strconv.uint64pow10", laid_internal_strconv_uint64pow10), ("unicode/utf8.acceptRanges", laid_unicode_utf8_acceptRanges), ("strconv.ErrRange", laid_strconv_ErrRange), ("strconv.ErrSyntax", laid_strconv_ErrSyntax), ("unicode/utf8.first", laid_unicode_utf8_first)], narrowed := true }
def TextsComeBackUptoSaid : Prop := textsComeBackUptoRow.holds Tryd.pinned (OpenSpec.upto textsComeBackSpec)

/-- 'peristylelaw1.SortedIsSorted', WHERE WHAT IT READS IS OF BULK AT MOST 1048576: true; the input reads as it did. -/
def sortedIsSortedUptoRow : OpenClaim := { program := "ytokphfhihhdfpaadoor", sum := "04bca27d0484245f32158b6477bca75a5ae437d472f928f38bc5feb5c71a84e5", func := "peristyle/peristylelaw1.SortedIsSorted", spec := "sortedIsSorted", inPlace := ["internal/bytealg.abigen_runtime_cmpstring", "internal/bytealg.IndexByteString"], unfollowed := true, recurses := true, named := ["strconv.ErrSyntax", "strconv.ErrRange", "internal/strconv.uint64pow10", "math/bits.deBruijn32tab", "math/bits.deBruijn64tab"], apart := false, laid := [("math/bits.deBruijn32tab", laid_math_bits_deBruijn32tab), ("math/bits.deBruijn64tab", laid_math_bits_deBruijn64tab), ("internal/strconv.uint64pow10", laid_internal_strconv_uint64pow10), ("strconv.ErrRange", laid_strconv_ErrRange), ("strconv.ErrSyntax", laid_strconv_ErrSyntax)], narrowed := true }
def SortedIsSortedUptoSaid : Prop := sortedIsSortedUptoRow.holds Tryd.pinned (OpenSpec.upto sortedIsSortedSpec)

end Rows
end Go.Proofs.YtokphfhihhdfpaaDoor
