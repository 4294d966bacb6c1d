/-
  NARROWER THAN 'FOR EVERY INPUT', by the rows' own cells (each row's printed sentence says how): MopDeep: laid · MopTraps: laid · MopBound: laid · MopRevoked: laid · ReflectNames: laid · ReflectGets: laid · ReflectDefines: laid · ReflectKeys: laid · NativesRevoke: laid · NativesBind: laid · NativesPrint: laid · IntegrityMore: laid.
  DERIVED. THE GIVEN ROWS OF THIS SEAT. 12 by the template 'for every input the law returns true; each argument reads behind the call as it read before'; 0 by the template 'total and deterministic' (their statements: YtegdomkgppddeaaGreatDoorTotals.lean).
  GIVEN WITH THE SEED: the statements are not yours to turn. If you find one false, say at which input.
  Laid BY PROGRAM, IN A SANDBOX (cutbox-rows.mjs): the forced cells as the released guide's own fill.sh prints them over the translation 9cbb8d0194255db8… (all of the seat's roots in one cut). By AI agents, Wed Nov 11 2026. No macro, syntax, notation, axiom, sorry.
-/
import Derived.Test.YtegdomkgppddeaaGreatDoorChecked
import GoSem.PinnedTables
import GoSem.Claim
import GoSem.ClaimJoined
import GoSem.ClaimMapViews
import Derived.JoinedTies
import Derived.KernelRfl
namespace Go.Proofs.YtegdomkgppddeaaGreatDoor
/- THE CELL 'sum', in the pinned program and in every row, IS THE sha256 OF THE DUMP (.gsa) THAT YtegdomkgppddeaaGreatDoorProg.lean LOADS. Nothing in Lean hashes anything: it is a label: what it is worth is what the hold of that sum in a sandbox is worth. -/
noncomputable def Tryz.pinned : Pinned := { name := "ytegdomkgppddeaagreatdoor", sum := "9cbb8d0194255db86d0c68f599b9e0dd1b14a87175d1ec6af2c410e223189ba1", checked := Tryz.checked }
namespace Rows
def none {H : Type} : Left H := { results := [], args := [] }

/- WHAT THE LISTED PACKAGE-LEVEL VARIABLES READ AS WHEN THE CALL BEGINS. Each datum BY PROGRAM (the guide's laid-datum.mjs) off the statement by which the dump's own 'gosem.cut.vars' lays the variable. In a bare row this is a premise. The card (YtegdomkgppddeaaGreatDoorCards.lean) ties it to the program's text. -/
def laid_math_bits_deBruijn32tab {H : Type} : DataW H := .agg [.lit (.int .u8 0), .lit (.int .u8 1), .lit (.int .u8 28), .lit (.int .u8 2), .lit (.int .u8 29), .lit (.int .u8 14), .lit (.int .u8 24), .lit (.int .u8 3), .lit (.int .u8 30), .lit (.int .u8 22), .lit (.int .u8 20), .lit (.int .u8 15), .lit (.int .u8 25), .lit (.int .u8 17), .lit (.int .u8 4), .lit (.int .u8 8), .lit (.int .u8 31), .lit (.int .u8 27), .lit (.int .u8 13), .lit (.int .u8 23), .lit (.int .u8 21), .lit (.int .u8 19), .lit (.int .u8 16), .lit (.int .u8 7), .lit (.int .u8 26), .lit (.int .u8 12), .lit (.int .u8 18), .lit (.int .u8 6), .lit (.int .u8 11), .lit (.int .u8 5), .lit (.int .u8 10), .lit (.int .u8 9)]
def laid_math_bits_deBruijn64tab {H : Type} : DataW H := .agg [.lit (.int .u8 0), .lit (.int .u8 1), .lit (.int .u8 56), .lit (.int .u8 2), .lit (.int .u8 57), .lit (.int .u8 49), .lit (.int .u8 28), .lit (.int .u8 3), .lit (.int .u8 61), .lit (.int .u8 58), .lit (.int .u8 42), .lit (.int .u8 50), .lit (.int .u8 38), .lit (.int .u8 29), .lit (.int .u8 17), .lit (.int .u8 4), .lit (.int .u8 62), .lit (.int .u8 47), .lit (.int .u8 59), .lit (.int .u8 36), .lit (.int .u8 45), .lit (.int .u8 43), .lit (.int .u8 51), .lit (.int .u8 22), .lit (.int .u8 53), .lit (.int .u8 39), .lit (.int .u8 33), .lit (.int .u8 30), .lit (.int .u8 24), .lit (.int .u8 18), .lit (.int .u8 12), .lit (.int .u8 5), .lit (.int .u8 63), .lit (.int .u8 55), .lit (.int .u8 48), .lit (.int .u8 27), .lit (.int .u8 60), .lit (.int .u8 41), .lit (.int .u8 37), .lit (.int .u8 16), .lit (.int .u8 46), .lit (.int .u8 35), .lit (.int .u8 44), .lit (.int .u8 21), .lit (.int .u8 52), .lit (.int .u8 32), .lit (.int .u8 23), .lit (.int .u8 11), .lit (.int .u8 54), .lit (.int .u8 26), .lit (.int .u8 40), .lit (.int .u8 15), .lit (.int .u8 34), .lit (.int .u8 20), .lit (.int .u8 31), .lit (.int .u8 10), .lit (.int .u8 25), .lit (.int .u8 14), .lit (.int .u8 19), .lit (.int .u8 9), .lit (.int .u8 13), .lit (.int .u8 8), .lit (.int .u8 7), .lit (.int .u8 6)]
def laid_internal_strconv_uint64pow10 {H : Type} : DataW H := .agg [.lit (.int .u64 1), .lit (.int .u64 10), .lit (.int .u64 100), .lit (.int .u64 1000), .lit (.int .u64 10000), .lit (.int .u64 100000), .lit (.int .u64 1000000), .lit (.int .u64 10000000), .lit (.int .u64 100000000), .lit (.int .u64 1000000000), .lit (.int .u64 10000000000), .lit (.int .u64 100000000000), .lit (.int .u64 1000000000000), .lit (.int .u64 10000000000000), .lit (.int .u64 100000000000000), .lit (.int .u64 1000000000000000), .lit (.int .u64 10000000000000000), .lit (.int .u64 100000000000000000), .lit (.int .u64 1000000000000000000), .lit (.int .u64 10000000000000000000)]
def laid_strconv_ErrRange {H : Type} : DataW H := .iface "*errors.errorString" (.ptr (.agg [.lit (.string [118, 97, 108, 117, 101, 32, 111, 117, 116, 32, 111, 102, 32, 114, 97, 110, 103, 101])]))
def laid_strconv_ErrSyntax {H : Type} : DataW H := .iface "*errors.errorString" (.ptr (.agg [.lit (.string [105, 110, 118, 97, 108, 105, 100, 32, 115, 121, 110, 116, 97, 120])]))
def laid_unicode_utf8_acceptRanges {H : Type} : DataW H := .agg [.agg [.lit (.int .u8 128), .lit (.int .u8 191)], .agg [.lit (.int .u8 160), .lit (.int .u8 191)], .agg [.lit (.int .u8 128), .lit (.int .u8 159)], .agg [.lit (.int .u8 144), .lit (.int .u8 191)], .agg [.lit (.int .u8 128), .lit (.int .u8 143)], .agg [.lit (.int .u8 0), .lit (.int .u8 0)], .agg [.lit (.int .u8 0), .lit (.int .u8 0)], .agg [.lit (.int .u8 0), .lit (.int .u8 0)], .agg [.lit (.int .u8 0), .lit (.int .u8 0)], .agg [.lit (.int .u8 0), .lit (.int .u8 0)], .agg [.lit (.int .u8 0), .lit (.int .u8 0)], .agg [.lit (.int .u8 0), .lit (.int .u8 0)], .agg [.lit (.int .u8 0), .lit (.int .u8 0)], .agg [.lit (.int .u8 0), .lit (.int .u8 0)], .agg [.lit (.int .u8 0), .lit (.int .u8 0)], .agg [.lit (.int .u8 0), .lit (.int .u8 0)]]
/-- One of Go's own tables, pinned by name: the form's constant. -/
def laid_unicode_utf8_first : DataW Unit := Go.Pinned.utf8First

/-- 'understudylaw9.MopDeep': WHATEVER THE INPUT: true; the input reads as it did. -/
def mopDeepSpec : ChangeSpec := { name := "mopDeep", fn := fun _ => fun
  | [d1, d2] => { results := [.lit (.bool true)], args := [d1, d2] }
  | _ => none }
def mopDeepRow : OpenClaim := { program := "ytegdomkgppddeaagreatdoor", sum := "9cbb8d0194255db86d0c68f599b9e0dd1b14a87175d1ec6af2c410e223189ba1", func := "understudy/understudylaw9.MopDeep", spec := "mopDeep", unfollowed := true, recurses := true, named := ["internal/strconv.uint64pow10", "math/bits.deBruijn32tab", "math/bits.deBruijn64tab", "strconv.ErrSyntax", "strconv.ErrRange"], plainKeys := false, apart := false, laid := [("math/bits.deBruijn32tab", laid_math_bits_deBruijn32tab), ("math/bits.deBruijn64tab", laid_math_bits_deBruijn64tab), ("internal/strconv.uint64pow10", laid_internal_strconv_uint64pow10), ("strconv.ErrRange", laid_strconv_ErrRange), ("strconv.ErrSyntax", laid_strconv_ErrSyntax)] }
def MopDeepSaid : Prop := mopDeepRow.holds Tryz.pinned (OpenSpec.ofChange mopDeepSpec)

/-- ITS FALSE NEIGHBOUR: 'it returns false'. Refute it at one input. -/
def mopDeepWrong : ChangeSpec := { name := "mopDeep", fn := fun _ => fun
  | [d1, d2] => { results := [.lit (.bool false)], args := [d1, d2] }
  | _ => none }
def MopDeepWrongFalsely : Prop := mopDeepRow.holds Tryz.pinned (OpenSpec.ofChange mopDeepWrong)

/-- 'understudylaw9.MopTraps': WHATEVER THE INPUT: true; the input reads as it did. -/
def mopTrapsSpec : ChangeSpec := { name := "mopTraps", fn := fun _ => fun
  | [d1, d2, d3] => { results := [.lit (.bool true)], args := [d1, d2, d3] }
  | _ => none }
def mopTrapsRow : OpenClaim := { program := "ytegdomkgppddeaagreatdoor", sum := "9cbb8d0194255db86d0c68f599b9e0dd1b14a87175d1ec6af2c410e223189ba1", func := "understudy/understudylaw9.MopTraps", spec := "mopTraps", unfollowed := true, recurses := true, named := ["internal/strconv.uint64pow10", "math/bits.deBruijn32tab", "math/bits.deBruijn64tab", "strconv.ErrSyntax", "strconv.ErrRange"], plainKeys := false, apart := false, laid := [("math/bits.deBruijn32tab", laid_math_bits_deBruijn32tab), ("math/bits.deBruijn64tab", laid_math_bits_deBruijn64tab), ("internal/strconv.uint64pow10", laid_internal_strconv_uint64pow10), ("strconv.ErrRange", laid_strconv_ErrRange), ("strconv.ErrSyntax", laid_strconv_ErrSyntax)] }
def MopTrapsSaid : Prop := mopTrapsRow.holds Tryz.pinned (OpenSpec.ofChange mopTrapsSpec)

/-- ITS FALSE NEIGHBOUR: 'it returns false'. Refute it at one input. -/
def mopTrapsWrong : ChangeSpec := { name := "mopTraps", fn := fun _ => fun
  | [d1, d2, d3] => { results := [.lit (.bool false)], args := [d1, d2, d3] }
  | _ => none }
def MopTrapsWrongFalsely : Prop := mopTrapsRow.holds Tryz.pinned (OpenSpec.ofChange mopTrapsWrong)

/-- 'understudylaw9.MopBound': WHATEVER THE INPUT: true; the input reads as it did. -/
def mopBoundSpec : ChangeSpec := { name := "mopBound", fn := fun _ => fun
  | [d1, d2, d3, d4, d5] => { results := [.lit (.bool true)], args := [d1, d2, d3, d4, d5] }
  | _ => none }
def mopBoundRow : OpenClaim := { program := "ytegdomkgppddeaagreatdoor", sum := "9cbb8d0194255db86d0c68f599b9e0dd1b14a87175d1ec6af2c410e223189ba1", func := "understudy/understudylaw9.MopBound", spec := "mopBound", unfollowed := true, recurses := true, named := ["internal/strconv.uint64pow10", "math/bits.deBruijn32tab", "math/bits.deBruijn64tab", "strconv.ErrSyntax", "strconv.ErrRange"], plainKeys := false, apart := false, laid := [("math/bits.deBruijn32tab", laid_math_bits_deBruijn32tab), ("math/bits.deBruijn64tab", laid_math_bits_deBruijn64tab), ("internal/strconv.uint64pow10", laid_internal_strconv_uint64pow10), ("strconv.ErrRange", laid_strconv_ErrRange), ("strconv.ErrSyntax", laid_strconv_ErrSyntax)] }
def MopBoundSaid : Prop := mopBoundRow.holds Tryz.pinned (OpenSpec.ofChange mopBoundSpec)

/-- ITS FALSE NEIGHBOUR: 'it returns false'. Refute it at one input. -/
def mopBoundWrong : ChangeSpec := { name := "mopBound", fn := fun _ => fun
  | [d1, d2, d3, d4, d5] => { results := [.lit (.bool false)], args := [d1, d2, d3, d4, d5] }
  | _ => none }
def MopBoundWrongFalsely : Prop := mopBoundRow.holds Tryz.pinned (OpenSpec.ofChange mopBoundWrong)

/-- 'understudylaw9.MopRevoked': WHATEVER THE INPUT: true; the input reads as it did. -/
def mopRevokedSpec : ChangeSpec := { name := "mopRevoked", fn := fun _ => fun
  | [d1, d2] => { results := [.lit (.bool true)], args := [d1, d2] }
  | _ => none }
def mopRevokedRow : OpenClaim := { program := "ytegdomkgppddeaagreatdoor", sum := "9cbb8d0194255db86d0c68f599b9e0dd1b14a87175d1ec6af2c410e223189ba1", func := "understudy/understudylaw9.MopRevoked", spec := "mopRevoked", unfollowed := true, recurses := true, named := ["internal/strconv.uint64pow10", "math/bits.deBruijn32tab", "math/bits.deBruijn64tab", "strconv.ErrSyntax", "strconv.ErrRange"], plainKeys := false, apart := false, laid := [("math/bits.deBruijn32tab", laid_math_bits_deBruijn32tab), ("math/bits.deBruijn64tab", laid_math_bits_deBruijn64tab), ("internal/strconv.uint64pow10", laid_internal_strconv_uint64pow10), ("strconv.ErrRange", laid_strconv_ErrRange), ("strconv.ErrSyntax", laid_strconv_ErrSyntax)] }
def MopRevokedSaid : Prop := mopRevokedRow.holds Tryz.pinned (OpenSpec.ofChange mopRevokedSpec)

/-- ITS FALSE NEIGHBOUR: 'it returns false'. Refute it at one input. -/
def mopRevokedWrong : ChangeSpec := { name := "mopRevoked", fn := fun _ => fun
  | [d1, d2] => { results := [.lit (.bool false)], args := [d1, d2] }
  | _ => none }
def MopRevokedWrongFalsely : Prop := mopRevokedRow.holds Tryz.pinned (OpenSpec.ofChange mopRevokedWrong)

/-- 'understudylaw10.ReflectNames': WHATEVER THE INPUT: true; the input reads as it did. -/
def reflectNamesSpec : ChangeSpec := { name := "reflectNames", fn := fun _ => fun
  | [d] => { results := [.lit (.bool true)], args := [d] }
  | _ => none }
def reflectNamesRow : OpenClaim := { program := "ytegdomkgppddeaagreatdoor", sum := "9cbb8d0194255db86d0c68f599b9e0dd1b14a87175d1ec6af2c410e223189ba1", func := "understudy/understudylaw10.ReflectNames", spec := "reflectNames", unfollowed := true, recurses := true, named := ["internal/strconv.uint64pow10", "math/bits.deBruijn32tab", "math/bits.deBruijn64tab", "strconv.ErrSyntax", "strconv.ErrRange"], plainKeys := false, apart := false, laid := [("math/bits.deBruijn32tab", laid_math_bits_deBruijn32tab), ("math/bits.deBruijn64tab", laid_math_bits_deBruijn64tab), ("internal/strconv.uint64pow10", laid_internal_strconv_uint64pow10), ("strconv.ErrRange", laid_strconv_ErrRange), ("strconv.ErrSyntax", laid_strconv_ErrSyntax)] }
def ReflectNamesSaid : Prop := reflectNamesRow.holds Tryz.pinned (OpenSpec.ofChange reflectNamesSpec)

/-- ITS FALSE NEIGHBOUR: 'it returns false'. Refute it at one input. -/
def reflectNamesWrong : ChangeSpec := { name := "reflectNames", fn := fun _ => fun
  | [d] => { results := [.lit (.bool false)], args := [d] }
  | _ => none }
def ReflectNamesWrongFalsely : Prop := reflectNamesRow.holds Tryz.pinned (OpenSpec.ofChange reflectNamesWrong)

/-- 'understudylaw10.ReflectGets': WHATEVER THE INPUT: true; the input reads as it did. -/
def reflectGetsSpec : ChangeSpec := { name := "reflectGets", fn := fun _ => fun
  | [d1, d2] => { results := [.lit (.bool true)], args := [d1, d2] }
  | _ => none }
def reflectGetsRow : OpenClaim := { program := "ytegdomkgppddeaagreatdoor", sum := "9cbb8d0194255db86d0c68f599b9e0dd1b14a87175d1ec6af2c410e223189ba1", func := "understudy/understudylaw10.ReflectGets", spec := "reflectGets", unfollowed := true, recurses := true, named := ["internal/strconv.uint64pow10", "math/bits.deBruijn32tab", "math/bits.deBruijn64tab", "strconv.ErrSyntax", "strconv.ErrRange"], plainKeys := false, apart := false, laid := [("math/bits.deBruijn32tab", laid_math_bits_deBruijn32tab), ("math/bits.deBruijn64tab", laid_math_bits_deBruijn64tab), ("internal/strconv.uint64pow10", laid_internal_strconv_uint64pow10), ("strconv.ErrRange", laid_strconv_ErrRange), ("strconv.ErrSyntax", laid_strconv_ErrSyntax)] }
def ReflectGetsSaid : Prop := reflectGetsRow.holds Tryz.pinned (OpenSpec.ofChange reflectGetsSpec)

/-- ITS FALSE NEIGHBOUR: 'it returns false'. Refute it at one input. -/
def reflectGetsWrong : ChangeSpec := { name := "reflectGets", fn := fun _ => fun
  | [d1, d2] => { results := [.lit (.bool false)], args := [d1, d2] }
  | _ => none }
def ReflectGetsWrongFalsely : Prop := reflectGetsRow.holds Tryz.pinned (OpenSpec.ofChange reflectGetsWrong)

/-- 'understudylaw10.ReflectDefines': WHATEVER THE INPUT: true; the input reads as it did. -/
def reflectDefinesSpec : ChangeSpec := { name := "reflectDefines", fn := fun _ => fun
  | [d1, d2] => { results := [.lit (.bool true)], args := [d1, d2] }
  | _ => none }
def reflectDefinesRow : OpenClaim := { program := "ytegdomkgppddeaagreatdoor", sum := "9cbb8d0194255db86d0c68f599b9e0dd1b14a87175d1ec6af2c410e223189ba1", func := "understudy/understudylaw10.ReflectDefines", spec := "reflectDefines", unfollowed := true, recurses := true, named := ["internal/strconv.uint64pow10", "math/bits.deBruijn32tab", "math/bits.deBruijn64tab", "strconv.ErrSyntax", "strconv.ErrRange"], plainKeys := false, apart := false, laid := [("math/bits.deBruijn32tab", laid_math_bits_deBruijn32tab), ("math/bits.deBruijn64tab", laid_math_bits_deBruijn64tab), ("internal/strconv.uint64pow10", laid_internal_strconv_uint64pow10), ("strconv.ErrRange", laid_strconv_ErrRange), ("strconv.ErrSyntax", laid_strconv_ErrSyntax)] }
def ReflectDefinesSaid : Prop := reflectDefinesRow.holds Tryz.pinned (OpenSpec.ofChange reflectDefinesSpec)

/-- ITS FALSE NEIGHBOUR: 'it returns false'. Refute it at one input. -/
def reflectDefinesWrong : ChangeSpec := { name := "reflectDefines", fn := fun _ => fun
  | [d1, d2] => { results := [.lit (.bool false)], args := [d1, d2] }
  | _ => none }
def ReflectDefinesWrongFalsely : Prop := reflectDefinesRow.holds Tryz.pinned (OpenSpec.ofChange reflectDefinesWrong)

/-- 'understudylaw10.ReflectKeys': WHATEVER THE INPUT: true; the input reads as it did. -/
def reflectKeysSpec : ChangeSpec := { name := "reflectKeys", fn := fun _ => fun
  | [d] => { results := [.lit (.bool true)], args := [d] }
  | _ => none }
def reflectKeysRow : OpenClaim := { program := "ytegdomkgppddeaagreatdoor", sum := "9cbb8d0194255db86d0c68f599b9e0dd1b14a87175d1ec6af2c410e223189ba1", func := "understudy/understudylaw10.ReflectKeys", spec := "reflectKeys", unfollowed := true, recurses := true, named := ["internal/strconv.uint64pow10", "math/bits.deBruijn32tab", "math/bits.deBruijn64tab", "strconv.ErrSyntax", "strconv.ErrRange"], plainKeys := false, apart := false, laid := [("math/bits.deBruijn32tab", laid_math_bits_deBruijn32tab), ("math/bits.deBruijn64tab", laid_math_bits_deBruijn64tab), ("internal/strconv.uint64pow10", laid_internal_strconv_uint64pow10), ("strconv.ErrRange", laid_strconv_ErrRange), ("strconv.ErrSyntax", laid_strconv_ErrSyntax)] }
def ReflectKeysSaid : Prop := reflectKeysRow.holds Tryz.pinned (OpenSpec.ofChange reflectKeysSpec)

/-- ITS FALSE NEIGHBOUR: 'it returns false'. Refute it at one input. -/
def reflectKeysWrong : ChangeSpec := { name := "reflectKeys", fn := fun _ => fun
  | [d] => { results := [.lit (.bool false)], args := [d] }
  | _ => none }
def ReflectKeysWrongFalsely : Prop := reflectKeysRow.holds Tryz.pinned (OpenSpec.ofChange reflectKeysWrong)

/-- 'understudylaw18.NativesRevoke': WHATEVER THE INPUT: true; the input reads as it did. -/
def nativesRevokeSpec : ChangeSpec := { name := "nativesRevoke", fn := fun _ => fun
  | [d1, d2] => { results := [.lit (.bool true)], args := [d1, d2] }
  | _ => none }
def nativesRevokeRow : OpenClaim := { program := "ytegdomkgppddeaagreatdoor", sum := "9cbb8d0194255db86d0c68f599b9e0dd1b14a87175d1ec6af2c410e223189ba1", func := "understudy/understudylaw18.NativesRevoke", spec := "nativesRevoke", inPlace := ["internal/abi.NoEscape", "internal/bytealg.MakeNoZero"], unfollowed := true, recurses := true, named := ["internal/strconv.uint64pow10", "math/bits.deBruijn32tab", "math/bits.deBruijn64tab", "strconv.ErrSyntax", "strconv.ErrRange", "unicode/utf8.first", "unicode/utf8.acceptRanges"], plainKeys := false, apart := false, laid := [("math/bits.deBruijn32tab", laid_math_bits_deBruijn32tab), ("math/bits.deBruijn64tab", laid_math_bits_deBruijn64tab), ("internal/strconv.uint64pow10", laid_internal_strconv_uint64pow10), ("unicode/utf8.acceptRanges", laid_unicode_utf8_acceptRanges), ("strconv.ErrRange", laid_strconv_ErrRange), ("strconv.ErrSyntax", laid_strconv_ErrSyntax), ("unicode/utf8.first", laid_unicode_utf8_first)] }
def NativesRevokeSaid : Prop := nativesRevokeRow.holds Tryz.pinned (OpenSpec.ofChange nativesRevokeSpec)

/-- ITS FALSE NEIGHBOUR: 'it returns false'. Refute it at one input. -/
def nativesRevokeWrong : ChangeSpec := { name := "nativesRevoke", fn := fun _ => fun
  | [d1, d2] => { results := [.lit (.bool false)], args := [d1, d2] }
  | _ => none }
def NativesRevokeWrongFalsely : Prop := nativesRevokeRow.holds Tryz.pinned (OpenSpec.ofChange nativesRevokeWrong)

/-- 'understudylaw18.NativesBind': WHATEVER THE INPUT: true; the input reads as it did. -/
def nativesBindSpec : ChangeSpec := { name := "nativesBind", fn := fun _ => fun
  | [d1, d2, d3] => { results := [.lit (.bool true)], args := [d1, d2, d3] }
  | _ => none }
def nativesBindRow : OpenClaim := { program := "ytegdomkgppddeaagreatdoor", sum := "9cbb8d0194255db86d0c68f599b9e0dd1b14a87175d1ec6af2c410e223189ba1", func := "understudy/understudylaw18.NativesBind", spec := "nativesBind", inPlace := ["internal/abi.NoEscape", "internal/bytealg.MakeNoZero"], unfollowed := true, recurses := true, named := ["internal/strconv.uint64pow10", "math/bits.deBruijn32tab", "math/bits.deBruijn64tab", "strconv.ErrSyntax", "strconv.ErrRange", "unicode/utf8.first", "unicode/utf8.acceptRanges"], plainKeys := false, apart := false, laid := [("math/bits.deBruijn32tab", laid_math_bits_deBruijn32tab), ("math/bits.deBruijn64tab", laid_math_bits_deBruijn64tab), ("internal/strconv.uint64pow10", laid_internal_strconv_uint64pow10), ("unicode/utf8.acceptRanges", laid_unicode_utf8_acceptRanges), ("strconv.ErrRange", laid_strconv_ErrRange), ("strconv.ErrSyntax", laid_strconv_ErrSyntax), ("unicode/utf8.first", laid_unicode_utf8_first)] }
def NativesBindSaid : Prop := nativesBindRow.holds Tryz.pinned (OpenSpec.ofChange nativesBindSpec)

/-- ITS FALSE NEIGHBOUR: 'it returns false'. Refute it at one input. -/
def nativesBindWrong : ChangeSpec := { name := "nativesBind", fn := fun _ => fun
  | [d1, d2, d3] => { results := [.lit (.bool false)], args := [d1, d2, d3] }
  | _ => none }
def NativesBindWrongFalsely : Prop := nativesBindRow.holds Tryz.pinned (OpenSpec.ofChange nativesBindWrong)

/-- 'understudylaw18.NativesPrint': WHATEVER THE INPUT: true; the input reads as it did. -/
def nativesPrintSpec : ChangeSpec := { name := "nativesPrint", fn := fun _ => fun
  | [d] => { results := [.lit (.bool true)], args := [d] }
  | _ => none }
def nativesPrintRow : OpenClaim := { program := "ytegdomkgppddeaagreatdoor", sum := "9cbb8d0194255db86d0c68f599b9e0dd1b14a87175d1ec6af2c410e223189ba1", func := "understudy/understudylaw18.NativesPrint", spec := "nativesPrint", inPlace := ["internal/abi.NoEscape", "internal/bytealg.MakeNoZero"], unfollowed := true, recurses := true, named := ["internal/strconv.uint64pow10", "math/bits.deBruijn32tab", "math/bits.deBruijn64tab", "strconv.ErrSyntax", "strconv.ErrRange", "unicode/utf8.first", "unicode/utf8.acceptRanges"], plainKeys := false, apart := false, laid := [("math/bits.deBruijn32tab", laid_math_bits_deBruijn32tab), ("math/bits.deBruijn64tab", laid_math_bits_deBruijn64tab), ("internal/strconv.uint64pow10", laid_internal_strconv_uint64pow10), ("unicode/utf8.acceptRanges", laid_unicode_utf8_acceptRanges), ("strconv.ErrRange", laid_strconv_ErrRange), ("strconv.ErrSyntax", laid_strconv_ErrSyntax), ("unicode/utf8.first", laid_unicode_utf8_first)] }
def NativesPrintSaid : Prop := nativesPrintRow.holds Tryz.pinned (OpenSpec.ofChange nativesPrintSpec)

/-- ITS FALSE NEIGHBOUR: 'it returns false'. Refute it at one input. -/
def nativesPrintWrong : ChangeSpec := { name := "nativesPrint", fn := fun _ => fun
  | [d] => { results := [.lit (.bool false)], args := [d] }
  | _ => none }
def NativesPrintWrongFalsely : Prop := nativesPrintRow.holds Tryz.pinned (OpenSpec.ofChange nativesPrintWrong)

/-- 'understudylaw11.IntegrityMore': WHATEVER THE INPUT: true; the input reads as it did. -/
def integrityMoreSpec : ChangeSpec := { name := "integrityMore", fn := fun _ => fun
  | [d1, d2] => { results := [.lit (.bool true)], args := [d1, d2] }
  | _ => none }
def integrityMoreRow : OpenClaim := { program := "ytegdomkgppddeaagreatdoor", sum := "9cbb8d0194255db86d0c68f599b9e0dd1b14a87175d1ec6af2c410e223189ba1", func := "understudy/understudylaw11.IntegrityMore", spec := "integrityMore", unfollowed := true, recurses := true, named := ["internal/strconv.uint64pow10", "math/bits.deBruijn32tab", "math/bits.deBruijn64tab", "strconv.ErrSyntax", "strconv.ErrRange"], plainKeys := false, apart := false, laid := [("math/bits.deBruijn32tab", laid_math_bits_deBruijn32tab), ("math/bits.deBruijn64tab", laid_math_bits_deBruijn64tab), ("internal/strconv.uint64pow10", laid_internal_strconv_uint64pow10), ("strconv.ErrRange", laid_strconv_ErrRange), ("strconv.ErrSyntax", laid_strconv_ErrSyntax)] }
def IntegrityMoreSaid : Prop := integrityMoreRow.holds Tryz.pinned (OpenSpec.ofChange integrityMoreSpec)

/-- ITS FALSE NEIGHBOUR: 'it returns false'. Refute it at one input. -/
def integrityMoreWrong : ChangeSpec := { name := "integrityMore", fn := fun _ => fun
  | [d1, d2] => { results := [.lit (.bool false)], args := [d1, d2] }
  | _ => none }
def IntegrityMoreWrongFalsely : Prop := integrityMoreRow.holds Tryz.pinned (OpenSpec.ofChange integrityMoreWrong)

/- THE SECOND FORM. 'bulk': how many values and letters a reading holds, each counted each time it is reached (what is shared counts as often as it is met; a slice's spare places count too). A statement '..UptoSaid' is the law's where the arguments, and the package variables that the reading takes, are together of bulk at most 1048576: NARROWER than '..Said'. Prove '..Said' where nothing that the law and all that it calls make is longer than what came in: it says more and counts as full. Else prove '..UptoSaid'. A law counts once. -/
mutual
def uptoBulk {H : Type} : DataW H → Nat
  | .lit (.string bytes) => bytes.length + 1
  | .lit _ => 1
  | .nil => 1
  | .ptr d => uptoBulk d + 1
  | .slice elems spare => uptoBulkAll elems + uptoBulkAll spare + 1
  | .agg parts => uptoBulkAll parts + 1
  | .iface _ d => uptoBulk d + 1
  | .map entries => uptoBulkEntries entries + 1
  | .held _ => 1
def uptoBulkAll {H : Type} : List (DataW H) → Nat
  | [] => 0
  | d :: r => uptoBulk d + uptoBulkAll r
def uptoBulkEntries {H : Type} : List (Lit × DataW H) → Nat
  | [] => 0
  | x :: r => uptoBulkEntry x + uptoBulkEntries r
def uptoBulkEntry {H : Type} : Lit × DataW H → Nat
  | (.string bytes, d) => bytes.length + uptoBulk d + 1
  | (_, d) => uptoBulk d + 1
 end
def uptoSmall : (H : Type) → List (DataW H) → Bool := fun _ ds => decide (uptoBulkAll ds ≤ 1048576)
def OpenSpec.upto (s : _root_.Go.ChangeSpec) : _root_.Go.OpenSpec := { _root_.Go.OpenSpec.ofChange s with cond := some uptoSmall }

/-- 'understudylaw9.MopDeep', WHERE WHAT IT READS IS OF BULK AT MOST 1048576: true; the input reads as it did. -/
def mopDeepUptoRow : OpenClaim := { program := "ytegdomkgppddeaagreatdoor", sum := "9cbb8d0194255db86d0c68f599b9e0dd1b14a87175d1ec6af2c410e223189ba1", func := "understudy/understudylaw9.MopDeep", spec := "mopDeep", unfollowed := true, recurses := true, named := ["internal/strconv.uint64pow10", "math/bits.deBruijn32tab", "math/bits.deBruijn64tab", "strconv.ErrSyntax", "strconv.ErrRange"], plainKeys := false, apart := false, laid := [("math/bits.deBruijn32tab", laid_math_bits_deBruijn32tab), ("math/bits.deBruijn64tab", laid_math_bits_deBruijn64tab), ("internal/strconv.uint64pow10", laid_internal_strconv_uint64pow10), ("strconv.ErrRange", laid_strconv_ErrRange), ("strconv.ErrSyntax", laid_strconv_ErrSyntax)], narrowed := true }
def MopDeepUptoSaid : Prop := mopDeepUptoRow.holds Tryz.pinned (OpenSpec.upto mopDeepSpec)

/-- 'understudylaw9.MopTraps', WHERE WHAT IT READS IS OF BULK AT MOST 1048576: true; the input reads as it did. -/
def mopTrapsUptoRow : OpenClaim := { program := "ytegdomkgppddeaagreatdoor", sum := "9cbb8d0194255db86d0c68f599b9e0dd1b14a87175d1ec6af2c410e223189ba1", func := "understudy/understudylaw9.MopTraps", spec := "mopTraps", unfollowed := true, recurses := true, named := ["internal/strconv.uint64pow10", "math/bits.deBruijn32tab", "math/bits.deBruijn64tab", "strconv.ErrSyntax", "strconv.ErrRange"], plainKeys := false, apart := false, laid := [("math/bits.deBruijn32tab", laid_math_bits_deBruijn32tab), ("math/bits.deBruijn64tab", laid_math_bits_deBruijn64tab), ("internal/strconv.uint64pow10", laid_internal_strconv_uint64pow10), ("strconv.ErrRange", laid_strconv_ErrRange), ("strconv.ErrSyntax", laid_strconv_ErrSyntax)], narrowed := true }
def MopTrapsUptoSaid : Prop := mopTrapsUptoRow.holds Tryz.pinned (OpenSpec.upto mopTrapsSpec)

/-- 'understudylaw9.MopBound', WHERE WHAT IT READS IS OF BULK AT MOST 1048576: true; the input reads as it did. -/
def mopBoundUptoRow : OpenClaim := { program := "ytegdomkgppddeaagreatdoor", sum := "9cbb8d0194255db86d0c68f599b9e0dd1b14a87175d1ec6af2c410e223189ba1", func := "understudy/understudylaw9.MopBound", spec := "mopBound", unfollowed := true, recurses := true, named := ["internal/strconv.uint64pow10", "math/bits.deBruijn32tab", "math/bits.deBruijn64tab", "strconv.ErrSyntax", "strconv.ErrRange"], plainKeys := false, apart := false, laid := [("math/bits.deBruijn32tab", laid_math_bits_deBruijn32tab), ("math/bits.deBruijn64tab", laid_math_bits_deBruijn64tab), ("internal/strconv.uint64pow10", laid_internal_strconv_uint64pow10), ("strconv.ErrRange", laid_strconv_ErrRange), ("strconv.ErrSyntax", laid_strconv_ErrSyntax)], narrowed := true }
def MopBoundUptoSaid : Prop := mopBoundUptoRow.holds Tryz.pinned (OpenSpec.upto mopBoundSpec)

/-- 'understudylaw9.MopRevoked', WHERE WHAT IT READS IS OF BULK AT MOST 1048576: true; the input reads as it did. -/
def mopRevokedUptoRow : OpenClaim := { program := "ytegdomkgppddeaagreatdoor", sum := "9cbb8d0194255db86d0c68f599b9e0dd1b14a87175d1ec6af2c410e223189ba1", func := "understudy/understudylaw9.MopRevoked", spec := "mopRevoked", unfollowed := true, recurses := true, named := ["internal/strconv.uint64pow10", "math/bits.deBruijn32tab", "math/bits.deBruijn64tab", "strconv.ErrSyntax", "strconv.ErrRange"], plainKeys := false, apart := false, laid := [("math/bits.deBruijn32tab", laid_math_bits_deBruijn32tab), ("math/bits.deBruijn64tab", laid_math_bits_deBruijn64tab), ("internal/strconv.uint64pow10", laid_internal_strconv_uint64pow10), ("strconv.ErrRange", laid_strconv_ErrRange), ("strconv.ErrSyntax", laid_strconv_ErrSyntax)], narrowed := true }
def MopRevokedUptoSaid : Prop := mopRevokedUptoRow.holds Tryz.pinned (OpenSpec.upto mopRevokedSpec)

/-- 'understudylaw10.ReflectNames', WHERE WHAT IT READS IS OF BULK AT MOST 1048576: true; the input reads as it did. -/
def reflectNamesUptoRow : OpenClaim := { program := "ytegdomkgppddeaagreatdoor", sum := "9cbb8d0194255db86d0c68f599b9e0dd1b14a87175d1ec6af2c410e223189ba1", func := "understudy/understudylaw10.ReflectNames", spec := "reflectNames", unfollowed := true, recurses := true, named := ["internal/strconv.uint64pow10", "math/bits.deBruijn32tab", "math/bits.deBruijn64tab", "strconv.ErrSyntax", "strconv.ErrRange"], plainKeys := false, apart := false, laid := [("math/bits.deBruijn32tab", laid_math_bits_deBruijn32tab), ("math/bits.deBruijn64tab", laid_math_bits_deBruijn64tab), ("internal/strconv.uint64pow10", laid_internal_strconv_uint64pow10), ("strconv.ErrRange", laid_strconv_ErrRange), ("strconv.ErrSyntax", laid_strconv_ErrSyntax)], narrowed := true }
def ReflectNamesUptoSaid : Prop := reflectNamesUptoRow.holds Tryz.pinned (OpenSpec.upto reflectNamesSpec)

/-- 'understudylaw10.ReflectGets', WHERE WHAT IT READS IS OF BULK AT MOST 1048576: true; the input reads as it did. -/
def reflectGetsUptoRow : OpenClaim := { program := "ytegdomkgppddeaagreatdoor", sum := "9cbb8d0194255db86d0c68f599b9e0dd1b14a87175d1ec6af2c410e223189ba1", func := "understudy/understudylaw10.ReflectGets", spec := "reflectGets", unfollowed := true, recurses := true, named := ["internal/strconv.uint64pow10", "math/bits.deBruijn32tab", "math/bits.deBruijn64tab", "strconv.ErrSyntax", "strconv.ErrRange"], plainKeys := false, apart := false, laid := [("math/bits.deBruijn32tab", laid_math_bits_deBruijn32tab), ("math/bits.deBruijn64tab", laid_math_bits_deBruijn64tab), ("internal/strconv.uint64pow10", laid_internal_strconv_uint64pow10), ("strconv.ErrRange", laid_strconv_ErrRange), ("strconv.ErrSyntax", laid_strconv_ErrSyntax)], narrowed := true }
def ReflectGetsUptoSaid : Prop := reflectGetsUptoRow.holds Tryz.pinned (OpenSpec.upto reflectGetsSpec)

/-- 'understudylaw10.ReflectDefines', WHERE WHAT IT READS IS OF BULK AT MOST 1048576: true; the input reads as it did. -/
def reflectDefinesUptoRow : OpenClaim := { program := "ytegdomkgppddeaagreatdoor", sum := "9cbb8d0194255db86d0c68f599b9e0dd1b14a87175d1ec6af2c410e223189ba1", func := "understudy/understudylaw10.ReflectDefines", spec := "reflectDefines", unfollowed := true, recurses := true, named := ["internal/strconv.uint64pow10", "math/bits.deBruijn32tab", "math/bits.deBruijn64tab", "strconv.ErrSyntax", "strconv.ErrRange"], plainKeys := false, apart := false, laid := [("math/bits.deBruijn32tab", laid_math_bits_deBruijn32tab), ("math/bits.deBruijn64tab", laid_math_bits_deBruijn64tab), ("internal/strconv.uint64pow10", laid_internal_strconv_uint64pow10), ("strconv.ErrRange", laid_strconv_ErrRange), ("strconv.ErrSyntax", laid_strconv_ErrSyntax)], narrowed := true }
def ReflectDefinesUptoSaid : Prop := reflectDefinesUptoRow.holds Tryz.pinned (OpenSpec.upto reflectDefinesSpec)

/-- 'understudylaw10.ReflectKeys', WHERE WHAT IT READS IS OF BULK AT MOST 1048576: true; the input reads as it did. -/
def reflectKeysUptoRow : OpenClaim := { program := "ytegdomkgppddeaagreatdoor", sum := "9cbb8d0194255db86d0c68f599b9e0dd1b14a87175d1ec6af2c410e223189ba1", func := "understudy/understudylaw10.ReflectKeys", spec := "reflectKeys", unfollowed := true, recurses := true, named := ["internal/strconv.uint64pow10", "math/bits.deBruijn32tab", "math/bits.deBruijn64tab", "strconv.ErrSyntax", "strconv.ErrRange"], plainKeys := false, apart := false, laid := [("math/bits.deBruijn32tab", laid_math_bits_deBruijn32tab), ("math/bits.deBruijn64tab", laid_math_bits_deBruijn64tab), ("internal/strconv.uint64pow10", laid_internal_strconv_uint64pow10), ("strconv.ErrRange", laid_strconv_ErrRange), ("strconv.ErrSyntax", laid_strconv_ErrSyntax)], narrowed := true }
def ReflectKeysUptoSaid : Prop := reflectKeysUptoRow.holds Tryz.pinned (OpenSpec.upto reflectKeysSpec)

/-- 'understudylaw18.NativesRevoke', WHERE WHAT IT READS IS OF BULK AT MOST 1048576: true; the input reads as it did. -/
def nativesRevokeUptoRow : OpenClaim := { program := "ytegdomkgppddeaagreatdoor", sum := "9cbb8d0194255db86d0c68f599b9e0dd1b14a87175d1ec6af2c410e223189ba1", func := "understudy/understudylaw18.NativesRevoke", spec := "nativesRevoke", inPlace := ["internal/abi.NoEscape", "internal/bytealg.MakeNoZero"], unfollowed := true, recurses := true, named := ["internal/strconv.uint64pow10", "math/bits.deBruijn32tab", "math/bits.deBruijn64tab", "strconv.ErrSyntax", "strconv.ErrRange", "unicode/utf8.first", "unicode/utf8.acceptRanges"], plainKeys := false, apart := false, laid := [("math/bits.deBruijn32tab", laid_math_bits_deBruijn32tab), ("math/bits.deBruijn64tab", laid_math_bits_deBruijn64tab), ("internal/strconv.uint64pow10", laid_internal_strconv_uint64pow10), ("unicode/utf8.acceptRanges", laid_unicode_utf8_acceptRanges), ("strconv.ErrRange", laid_strconv_ErrRange), ("strconv.ErrSyntax", laid_strconv_ErrSyntax), ("unicode/utf8.first", laid_unicode_utf8_first)], narrowed := true }
def NativesRevokeUptoSaid : Prop := nativesRevokeUptoRow.holds Tryz.pinned (OpenSpec.upto nativesRevokeSpec)

/-- 'understudylaw18.NativesBind', WHERE WHAT IT READS IS OF BULK AT MOST 1048576: true; the input reads as it did. -/
def nativesBindUptoRow : OpenClaim := { program := "ytegdomkgppddeaagreatdoor", sum := "9cbb8d0194255db86d0c68f599b9e0dd1b14a87175d1ec6af2c410e223189ba1", func := "understudy/understudylaw18.NativesBind", spec := "nativesBind", inPlace := ["internal/abi.NoEscape", "internal/bytealg.MakeNoZero"], unfollowed := true, recurses := true, named := ["internal/strconv.uint64pow10", "math/bits.deBruijn32tab", "math/bits.deBruijn64tab", "strconv.ErrSyntax", "strconv.ErrRange", "unicode/utf8.first", "unicode/utf8.acceptRanges"], plainKeys := false, apart := false, laid := [("math/bits.deBruijn32tab", laid_math_bits_deBruijn32tab), ("math/bits.deBruijn64tab", laid_math_bits_deBruijn64tab), ("internal/strconv.uint64pow10", laid_internal_strconv_uint64pow10), ("unicode/utf8.acceptRanges", laid_unicode_utf8_acceptRanges), ("strconv.ErrRange", laid_strconv_ErrRange), ("strconv.ErrSyntax", laid_strconv_ErrSyntax), ("unicode/utf8.first", laid_unicode_utf8_first)], narrowed := true }
def NativesBindUptoSaid : Prop := nativesBindUptoRow.holds Tryz.pinned (OpenSpec.upto nativesBindSpec)

/-- 'understudylaw18.NativesPrint', WHERE WHAT IT READS IS OF BULK AT MOST 1048576: true; the input reads as it did. -/
def nativesPrintUptoRow : OpenClaim := { program := "ytegdomkgppddeaagreatdoor", sum := "9cbb8d0194255db86d0c68f599b9e0dd1b14a87175d1ec6af2c410e223189ba1", func := "understudy/understudylaw18.NativesPrint", spec := "nativesPrint", inPlace := ["internal/abi.NoEscape", "internal/bytealg.MakeNoZero"], unfollowed := true, recurses := true, named := ["internal/strconv.uint64pow10", "math/bits.deBruijn32tab", "math/bits.deBruijn64tab", "strconv.ErrSyntax", "strconv.ErrRange", "unicode/utf8.first", "unicode/utf8.acceptRanges"], plainKeys := false, apart := false, laid := [("math/bits.deBruijn32tab", laid_math_bits_deBruijn32tab), ("math/bits.deBruijn64tab", laid_math_bits_deBruijn64tab), ("internal/strconv.uint64pow10", laid_internal_strconv_uint64pow10), ("unicode/utf8.acceptRanges", laid_unicode_utf8_acceptRanges), ("strconv.ErrRange", laid_strconv_ErrRange), ("strconv.ErrSyntax", laid_strconv_ErrSyntax), ("unicode/utf8.first", laid_unicode_utf8_first)], narrowed := true }
def NativesPrintUptoSaid : Prop := nativesPrintUptoRow.holds Tryz.pinned (OpenSpec.upto nativesPrintSpec)

/-- 'understudylaw11.IntegrityMore', WHERE WHAT IT READS IS OF BULK AT MOST 1048576: true; the input reads as it did. -/
def integrityMoreUptoRow : OpenClaim := { program := "ytegdomkgppddeaagreatdoor", sum := "9cbb8d0194255db86d0c68f599b9e0dd1b14a87175d1ec6af2c410e223189ba1", func := "understudy/understudylaw11.IntegrityMore", spec := "integrityMore", unfollowed := true, recurses := true, named := ["internal/strconv.uint64pow10", "math/bits.deBruijn32tab", "math/bits.deBruijn64tab", "strconv.ErrSyntax", "strconv.ErrRange"], plainKeys := false, apart := false, laid := [("math/bits.deBruijn32tab", laid_math_bits_deBruijn32tab), ("math/bits.deBruijn64tab", laid_math_bits_deBruijn64tab), ("internal/strconv.uint64pow10", laid_internal_strconv_uint64pow10), ("strconv.ErrRange", laid_strconv_ErrRange), ("strconv.ErrSyntax", laid_strconv_ErrSyntax)], narrowed := true }
def IntegrityMoreUptoSaid : Prop := integrityMoreUptoRow.holds Tryz.pinned (OpenSpec.upto integrityMoreSpec)

end Rows
end Go.Proofs.YtegdomkgppddeaaGreatDoor
