/-
  NARROWER THAN 'FOR EVERY INPUT', by the rows' own cells (each row's printed sentence says how): ReadGood: laid · ReadNotes: laid · ReadNamed: laid · CanonPrints: laid · CanonBack: laid · CanonOnce: laid · CanonApart: laid.
  DERIVED. THE GIVEN ROWS OF THIS SEAT. 7 by the template 'for every input the law returns true; each argument reads behind the call as it read before'; 0 by the template 'total and deterministic' (their statements: YtfhmokjjjnjhjaaGreatDoorTotals.lean).
  GIVEN WITH THE SEED: the statements are not yours to turn. If you find one false, say at which input.
  Laid BY PROGRAM, IN A SANDBOX (cutbox-rows.mjs): the forced cells as the released guide's own fill.sh prints them over the translation b8e9f3d883c6fde4… (all of the seat's roots in one cut). By AI agents, Wed Nov 11 2026. No macro, syntax, notation, axiom, sorry.
-/
import Derived.Test.YtfhmokjjjnjhjaaGreatDoorChecked
import GoSem.PinnedTables
import GoSem.Claim
import GoSem.ClaimJoined
import GoSem.ClaimMapViews
import Derived.JoinedTies
import Derived.KernelRfl
namespace Go.Proofs.YtfhmokjjjnjhjaaGreatDoor
/- THE CELL 'sum', in the pinned program and in every row, IS THE sha256 OF THE DUMP (.gsa) THAT YtfhmokjjjnjhjaaGreatDoorProg.lean LOADS. Nothing in Lean hashes anything: it is a label: what it is worth is what the hold of that sum in a sandbox is worth. -/
noncomputable def Tryz.pinned : Pinned := { name := "ytfhmokjjjnjhjaagreatdoor", sum := "b8e9f3d883c6fde4a095de107c7d6d0aabd58f5f9a5798e3a9e1044ca5fc4163", checked := Tryz.checked }
namespace Rows
def none {H : Type} : Left H := { results := [], args := [] }

/- WHAT THE LISTED PACKAGE-LEVEL VARIABLES READ AS WHEN THE CALL BEGINS. Each datum BY PROGRAM (the guide's laid-datum.mjs) off the statement by which the dump's own 'gosem.cut.vars' lays the variable. In a bare row this is a premise. The card (YtfhmokjjjnjhjaaGreatDoorCards.lean) ties it to the program's text. -/
def laid_unicode_utf8_acceptRanges {H : Type} : DataW H := .agg [.agg [.lit (.int .u8 128), .lit (.int .u8 191)], .agg [.lit (.int .u8 160), .lit (.int .u8 191)], .agg [.lit (.int .u8 128), .lit (.int .u8 159)], .agg [.lit (.int .u8 144), .lit (.int .u8 191)], .agg [.lit (.int .u8 128), .lit (.int .u8 143)], .agg [.lit (.int .u8 0), .lit (.int .u8 0)], .agg [.lit (.int .u8 0), .lit (.int .u8 0)], .agg [.lit (.int .u8 0), .lit (.int .u8 0)], .agg [.lit (.int .u8 0), .lit (.int .u8 0)], .agg [.lit (.int .u8 0), .lit (.int .u8 0)], .agg [.lit (.int .u8 0), .lit (.int .u8 0)], .agg [.lit (.int .u8 0), .lit (.int .u8 0)], .agg [.lit (.int .u8 0), .lit (.int .u8 0)], .agg [.lit (.int .u8 0), .lit (.int .u8 0)], .agg [.lit (.int .u8 0), .lit (.int .u8 0)], .agg [.lit (.int .u8 0), .lit (.int .u8 0)]]
def laid_ordeal_read_names {H : Type} : DataW H := .slice [.lit (.string []), .lit (.string [108, 105]), .lit (.string [97, 100, 100]), .lit (.string [115, 117, 98]), .lit (.string [120, 111, 114]), .lit (.string [97, 110, 100]), .lit (.string [111, 114]), .lit (.string [115, 104, 108]), .lit (.string [115, 104, 114]), .lit (.string [108, 111, 97, 100]), .lit (.string [115, 116, 111, 114, 101]), .lit (.string [115, 119, 97, 112]), .lit (.string [97, 109, 111]), .lit (.string [108, 114]), .lit (.string [115, 99]), .lit (.string [102, 101, 110, 99, 101]), .lit (.string [98, 101, 113]), .lit (.string [98, 110, 101])] []
/-- One of Go's own tables, pinned by name: the form's constant. -/
def laid_unicode_utf8_first : DataW Unit := Go.Pinned.utf8First
def laid_math_bits_deBruijn32tab {H : Type} : DataW H := .agg [.lit (.int .u8 0), .lit (.int .u8 1), .lit (.int .u8 28), .lit (.int .u8 2), .lit (.int .u8 29), .lit (.int .u8 14), .lit (.int .u8 24), .lit (.int .u8 3), .lit (.int .u8 30), .lit (.int .u8 22), .lit (.int .u8 20), .lit (.int .u8 15), .lit (.int .u8 25), .lit (.int .u8 17), .lit (.int .u8 4), .lit (.int .u8 8), .lit (.int .u8 31), .lit (.int .u8 27), .lit (.int .u8 13), .lit (.int .u8 23), .lit (.int .u8 21), .lit (.int .u8 19), .lit (.int .u8 16), .lit (.int .u8 7), .lit (.int .u8 26), .lit (.int .u8 12), .lit (.int .u8 18), .lit (.int .u8 6), .lit (.int .u8 11), .lit (.int .u8 5), .lit (.int .u8 10), .lit (.int .u8 9)]
def laid_math_bits_deBruijn64tab {H : Type} : DataW H := .agg [.lit (.int .u8 0), .lit (.int .u8 1), .lit (.int .u8 56), .lit (.int .u8 2), .lit (.int .u8 57), .lit (.int .u8 49), .lit (.int .u8 28), .lit (.int .u8 3), .lit (.int .u8 61), .lit (.int .u8 58), .lit (.int .u8 42), .lit (.int .u8 50), .lit (.int .u8 38), .lit (.int .u8 29), .lit (.int .u8 17), .lit (.int .u8 4), .lit (.int .u8 62), .lit (.int .u8 47), .lit (.int .u8 59), .lit (.int .u8 36), .lit (.int .u8 45), .lit (.int .u8 43), .lit (.int .u8 51), .lit (.int .u8 22), .lit (.int .u8 53), .lit (.int .u8 39), .lit (.int .u8 33), .lit (.int .u8 30), .lit (.int .u8 24), .lit (.int .u8 18), .lit (.int .u8 12), .lit (.int .u8 5), .lit (.int .u8 63), .lit (.int .u8 55), .lit (.int .u8 48), .lit (.int .u8 27), .lit (.int .u8 60), .lit (.int .u8 41), .lit (.int .u8 37), .lit (.int .u8 16), .lit (.int .u8 46), .lit (.int .u8 35), .lit (.int .u8 44), .lit (.int .u8 21), .lit (.int .u8 52), .lit (.int .u8 32), .lit (.int .u8 23), .lit (.int .u8 11), .lit (.int .u8 54), .lit (.int .u8 26), .lit (.int .u8 40), .lit (.int .u8 15), .lit (.int .u8 34), .lit (.int .u8 20), .lit (.int .u8 31), .lit (.int .u8 10), .lit (.int .u8 25), .lit (.int .u8 14), .lit (.int .u8 19), .lit (.int .u8 9), .lit (.int .u8 13), .lit (.int .u8 8), .lit (.int .u8 7), .lit (.int .u8 6)]
def laid_internal_strconv_uint64pow10 {H : Type} : DataW H := .agg [.lit (.int .u64 1), .lit (.int .u64 10), .lit (.int .u64 100), .lit (.int .u64 1000), .lit (.int .u64 10000), .lit (.int .u64 100000), .lit (.int .u64 1000000), .lit (.int .u64 10000000), .lit (.int .u64 100000000), .lit (.int .u64 1000000000), .lit (.int .u64 10000000000), .lit (.int .u64 100000000000), .lit (.int .u64 1000000000000), .lit (.int .u64 10000000000000), .lit (.int .u64 100000000000000), .lit (.int .u64 1000000000000000), .lit (.int .u64 10000000000000000), .lit (.int .u64 100000000000000000), .lit (.int .u64 1000000000000000000), .lit (.int .u64 10000000000000000000)]
def laid_ordeal_sha_rounds {H : Type} : DataW H := .agg [.lit (.int .u32 1116352408), .lit (.int .u32 1899447441), .lit (.int .u32 3049323471), .lit (.int .u32 3921009573), .lit (.int .u32 961987163), .lit (.int .u32 1508970993), .lit (.int .u32 2453635748), .lit (.int .u32 2870763221), .lit (.int .u32 3624381080), .lit (.int .u32 310598401), .lit (.int .u32 607225278), .lit (.int .u32 1426881987), .lit (.int .u32 1925078388), .lit (.int .u32 2162078206), .lit (.int .u32 2614888103), .lit (.int .u32 3248222580), .lit (.int .u32 3835390401), .lit (.int .u32 4022224774), .lit (.int .u32 264347078), .lit (.int .u32 604807628), .lit (.int .u32 770255983), .lit (.int .u32 1249150122), .lit (.int .u32 1555081692), .lit (.int .u32 1996064986), .lit (.int .u32 2554220882), .lit (.int .u32 2821834349), .lit (.int .u32 2952996808), .lit (.int .u32 3210313671), .lit (.int .u32 3336571891), .lit (.int .u32 3584528711), .lit (.int .u32 113926993), .lit (.int .u32 338241895), .lit (.int .u32 666307205), .lit (.int .u32 773529912), .lit (.int .u32 1294757372), .lit (.int .u32 1396182291), .lit (.int .u32 1695183700), .lit (.int .u32 1986661051), .lit (.int .u32 2177026350), .lit (.int .u32 2456956037), .lit (.int .u32 2730485921), .lit (.int .u32 2820302411), .lit (.int .u32 3259730800), .lit (.int .u32 3345764771), .lit (.int .u32 3516065817), .lit (.int .u32 3600352804), .lit (.int .u32 4094571909), .lit (.int .u32 275423344), .lit (.int .u32 430227734), .lit (.int .u32 506948616), .lit (.int .u32 659060556), .lit (.int .u32 883997877), .lit (.int .u32 958139571), .lit (.int .u32 1322822218), .lit (.int .u32 1537002063), .lit (.int .u32 1747873779), .lit (.int .u32 1955562222), .lit (.int .u32 2024104815), .lit (.int .u32 2227730452), .lit (.int .u32 2361852424), .lit (.int .u32 2428436474), .lit (.int .u32 2756734187), .lit (.int .u32 3204031479), .lit (.int .u32 3329325298)]
def laid_ordeal_sha_start {H : Type} : DataW H := .agg [.lit (.int .u32 1779033703), .lit (.int .u32 3144134277), .lit (.int .u32 1013904242), .lit (.int .u32 2773480762), .lit (.int .u32 1359893119), .lit (.int .u32 2600822924), .lit (.int .u32 528734635), .lit (.int .u32 1541459225)]
def laid_ordeal_canon_names {H : Type} : DataW H := .agg [.lit (.string []), .lit (.string [108, 105]), .lit (.string [97, 100, 100]), .lit (.string [115, 117, 98]), .lit (.string [120, 111, 114]), .lit (.string [97, 110, 100]), .lit (.string [111, 114]), .lit (.string [115, 104, 108]), .lit (.string [115, 104, 114]), .lit (.string [108, 111, 97, 100]), .lit (.string [115, 116, 111, 114, 101]), .lit (.string [115, 119, 97, 112]), .lit (.string [97, 109, 111]), .lit (.string [108, 114]), .lit (.string [115, 99]), .lit (.string [102, 101, 110, 99, 101]), .lit (.string [98, 101, 113]), .lit (.string [98, 110, 101])]
def laid_ordeal_canon_sides {H : Type} : DataW H := .agg [.lit (.string []), .lit (.string [114]), .lit (.string [119]), .lit (.string [114, 119])]

/-- 'ordeallaw10.ReadGood': WHATEVER THE INPUT: true; the input reads as it did. -/
def readGoodSpec : ChangeSpec := { name := "readGood", fn := fun _ => fun
  | [d] => { results := [.lit (.bool true)], args := [d] }
  | _ => none }
def readGoodRow : OpenClaim := { program := "ytfhmokjjjnjhjaagreatdoor", sum := "b8e9f3d883c6fde4a095de107c7d6d0aabd58f5f9a5798e3a9e1044ca5fc4163", func := "ordeal/ordeallaw10.ReadGood", spec := "readGood", inPlace := ["internal/bytealg.IndexByteString", "internal/bytealg.IndexString"], unfollowed := true, recurses := true, named := ["unicode/utf8.first", "unicode/utf8.acceptRanges", "internal/bytealg.MaxLen", "ordeal/read.names"], apart := false, laid := [("unicode/utf8.acceptRanges", laid_unicode_utf8_acceptRanges), ("ordeal/read.names", laid_ordeal_read_names), ("unicode/utf8.first", laid_unicode_utf8_first)] }
def ReadGoodSaid : Prop := readGoodRow.holds Tryz.pinned (OpenSpec.ofChange readGoodSpec)

/-- ITS FALSE NEIGHBOUR: 'it returns false'. Refute it at one input. -/
def readGoodWrong : ChangeSpec := { name := "readGood", fn := fun _ => fun
  | [d] => { results := [.lit (.bool false)], args := [d] }
  | _ => none }
def ReadGoodWrongFalsely : Prop := readGoodRow.holds Tryz.pinned (OpenSpec.ofChange readGoodWrong)

/-- 'ordeallaw10.ReadNotes': WHATEVER THE INPUT: true; the input reads as it did. -/
def readNotesSpec : ChangeSpec := { name := "readNotes", fn := fun _ => fun
  | [d1, d2] => { results := [.lit (.bool true)], args := [d1, d2] }
  | _ => none }
def readNotesRow : OpenClaim := { program := "ytfhmokjjjnjhjaagreatdoor", sum := "b8e9f3d883c6fde4a095de107c7d6d0aabd58f5f9a5798e3a9e1044ca5fc4163", func := "ordeal/ordeallaw10.ReadNotes", spec := "readNotes", inPlace := ["internal/bytealg.IndexByteString", "internal/bytealg.IndexString"], unfollowed := true, recurses := true, named := ["unicode/utf8.first", "unicode/utf8.acceptRanges", "internal/bytealg.MaxLen", "ordeal/read.names"], apart := false, laid := [("unicode/utf8.acceptRanges", laid_unicode_utf8_acceptRanges), ("ordeal/read.names", laid_ordeal_read_names), ("unicode/utf8.first", laid_unicode_utf8_first)] }
def ReadNotesSaid : Prop := readNotesRow.holds Tryz.pinned (OpenSpec.ofChange readNotesSpec)

/-- ITS FALSE NEIGHBOUR: 'it returns false'. Refute it at one input. -/
def readNotesWrong : ChangeSpec := { name := "readNotes", fn := fun _ => fun
  | [d1, d2] => { results := [.lit (.bool false)], args := [d1, d2] }
  | _ => none }
def ReadNotesWrongFalsely : Prop := readNotesRow.holds Tryz.pinned (OpenSpec.ofChange readNotesWrong)

/-- 'ordeallaw10.ReadNamed': WHATEVER THE INPUT: true; the input reads as it did. -/
def readNamedSpec : ChangeSpec := { name := "readNamed", fn := fun _ => fun
  | [d1, d2] => { results := [.lit (.bool true)], args := [d1, d2] }
  | _ => none }
def readNamedRow : OpenClaim := { program := "ytfhmokjjjnjhjaagreatdoor", sum := "b8e9f3d883c6fde4a095de107c7d6d0aabd58f5f9a5798e3a9e1044ca5fc4163", func := "ordeal/ordeallaw10.ReadNamed", spec := "readNamed", inPlace := ["internal/bytealg.IndexByteString", "internal/bytealg.IndexString"], unfollowed := true, recurses := true, named := ["unicode/utf8.first", "unicode/utf8.acceptRanges", "internal/bytealg.MaxLen", "ordeal/read.names"], apart := false, laid := [("unicode/utf8.acceptRanges", laid_unicode_utf8_acceptRanges), ("ordeal/read.names", laid_ordeal_read_names), ("unicode/utf8.first", laid_unicode_utf8_first)] }
def ReadNamedSaid : Prop := readNamedRow.holds Tryz.pinned (OpenSpec.ofChange readNamedSpec)

/-- ITS FALSE NEIGHBOUR: 'it returns false'. Refute it at one input. -/
def readNamedWrong : ChangeSpec := { name := "readNamed", fn := fun _ => fun
  | [d1, d2] => { results := [.lit (.bool false)], args := [d1, d2] }
  | _ => none }
def ReadNamedWrongFalsely : Prop := readNamedRow.holds Tryz.pinned (OpenSpec.ofChange readNamedWrong)

/-- 'ordeallaw11.CanonPrints': WHATEVER THE INPUT: true; the input reads as it did. -/
def canonPrintsSpec : ChangeSpec := { name := "canonPrints", fn := fun _ => fun
  | [d] => { results := [.lit (.bool true)], args := [d] }
  | _ => none }
def canonPrintsRow : OpenClaim := { program := "ytfhmokjjjnjhjaagreatdoor", sum := "b8e9f3d883c6fde4a095de107c7d6d0aabd58f5f9a5798e3a9e1044ca5fc4163", func := "ordeal/ordeallaw11.CanonPrints", spec := "canonPrints", inPlace := ["internal/bytealg.IndexByteString", "internal/bytealg.IndexString", "internal/abi.NoEscape", "internal/bytealg.MakeNoZero"], unfollowed := true, recurses := true, named := ["unicode/utf8.first", "unicode/utf8.acceptRanges", "internal/bytealg.MaxLen", "ordeal/read.names", "ordeal/sha.start", "ordeal/sha.rounds", "internal/strconv.uint64pow10", "math/bits.deBruijn32tab", "math/bits.deBruijn64tab", "ordeal/canon.names", "ordeal/canon.sides"], apart := false, laid := [("math/bits.deBruijn32tab", laid_math_bits_deBruijn32tab), ("math/bits.deBruijn64tab", laid_math_bits_deBruijn64tab), ("internal/strconv.uint64pow10", laid_internal_strconv_uint64pow10), ("unicode/utf8.acceptRanges", laid_unicode_utf8_acceptRanges), ("ordeal/read.names", laid_ordeal_read_names), ("ordeal/sha.rounds", laid_ordeal_sha_rounds), ("ordeal/sha.start", laid_ordeal_sha_start), ("ordeal/canon.names", laid_ordeal_canon_names), ("ordeal/canon.sides", laid_ordeal_canon_sides), ("unicode/utf8.first", laid_unicode_utf8_first)] }
def CanonPrintsSaid : Prop := canonPrintsRow.holds Tryz.pinned (OpenSpec.ofChange canonPrintsSpec)

/-- ITS FALSE NEIGHBOUR: 'it returns false'. Refute it at one input. -/
def canonPrintsWrong : ChangeSpec := { name := "canonPrints", fn := fun _ => fun
  | [d] => { results := [.lit (.bool false)], args := [d] }
  | _ => none }
def CanonPrintsWrongFalsely : Prop := canonPrintsRow.holds Tryz.pinned (OpenSpec.ofChange canonPrintsWrong)

/-- 'ordeallaw11.CanonBack': WHATEVER THE INPUT: true; the input reads as it did. -/
def canonBackSpec : ChangeSpec := { name := "canonBack", fn := fun _ => fun
  | [d] => { results := [.lit (.bool true)], args := [d] }
  | _ => none }
def canonBackRow : OpenClaim := { program := "ytfhmokjjjnjhjaagreatdoor", sum := "b8e9f3d883c6fde4a095de107c7d6d0aabd58f5f9a5798e3a9e1044ca5fc4163", func := "ordeal/ordeallaw11.CanonBack", spec := "canonBack", inPlace := ["internal/bytealg.IndexByteString", "internal/bytealg.IndexString", "internal/abi.NoEscape", "internal/bytealg.MakeNoZero"], unfollowed := true, recurses := true, named := ["unicode/utf8.first", "unicode/utf8.acceptRanges", "internal/bytealg.MaxLen", "ordeal/read.names", "ordeal/sha.start", "ordeal/sha.rounds", "internal/strconv.uint64pow10", "math/bits.deBruijn32tab", "math/bits.deBruijn64tab", "ordeal/canon.names", "ordeal/canon.sides"], apart := false, laid := [("math/bits.deBruijn32tab", laid_math_bits_deBruijn32tab), ("math/bits.deBruijn64tab", laid_math_bits_deBruijn64tab), ("internal/strconv.uint64pow10", laid_internal_strconv_uint64pow10), ("unicode/utf8.acceptRanges", laid_unicode_utf8_acceptRanges), ("ordeal/read.names", laid_ordeal_read_names), ("ordeal/sha.rounds", laid_ordeal_sha_rounds), ("ordeal/sha.start", laid_ordeal_sha_start), ("ordeal/canon.names", laid_ordeal_canon_names), ("ordeal/canon.sides", laid_ordeal_canon_sides), ("unicode/utf8.first", laid_unicode_utf8_first)] }
def CanonBackSaid : Prop := canonBackRow.holds Tryz.pinned (OpenSpec.ofChange canonBackSpec)

/-- ITS FALSE NEIGHBOUR: 'it returns false'. Refute it at one input. -/
def canonBackWrong : ChangeSpec := { name := "canonBack", fn := fun _ => fun
  | [d] => { results := [.lit (.bool false)], args := [d] }
  | _ => none }
def CanonBackWrongFalsely : Prop := canonBackRow.holds Tryz.pinned (OpenSpec.ofChange canonBackWrong)

/-- 'ordeallaw11.CanonOnce': WHATEVER THE INPUT: true; the input reads as it did. -/
def canonOnceSpec : ChangeSpec := { name := "canonOnce", fn := fun _ => fun
  | [d] => { results := [.lit (.bool true)], args := [d] }
  | _ => none }
def canonOnceRow : OpenClaim := { program := "ytfhmokjjjnjhjaagreatdoor", sum := "b8e9f3d883c6fde4a095de107c7d6d0aabd58f5f9a5798e3a9e1044ca5fc4163", func := "ordeal/ordeallaw11.CanonOnce", spec := "canonOnce", inPlace := ["internal/bytealg.IndexByteString", "internal/bytealg.IndexString", "internal/abi.NoEscape", "internal/bytealg.MakeNoZero"], unfollowed := true, recurses := true, named := ["unicode/utf8.first", "unicode/utf8.acceptRanges", "internal/bytealg.MaxLen", "ordeal/read.names", "ordeal/sha.start", "ordeal/sha.rounds", "internal/strconv.uint64pow10", "math/bits.deBruijn32tab", "math/bits.deBruijn64tab", "ordeal/canon.names", "ordeal/canon.sides"], apart := false, laid := [("math/bits.deBruijn32tab", laid_math_bits_deBruijn32tab), ("math/bits.deBruijn64tab", laid_math_bits_deBruijn64tab), ("internal/strconv.uint64pow10", laid_internal_strconv_uint64pow10), ("unicode/utf8.acceptRanges", laid_unicode_utf8_acceptRanges), ("ordeal/read.names", laid_ordeal_read_names), ("ordeal/sha.rounds", laid_ordeal_sha_rounds), ("ordeal/sha.start", laid_ordeal_sha_start), ("ordeal/canon.names", laid_ordeal_canon_names), ("ordeal/canon.sides", laid_ordeal_canon_sides), ("unicode/utf8.first", laid_unicode_utf8_first)] }
def CanonOnceSaid : Prop := canonOnceRow.holds Tryz.pinned (OpenSpec.ofChange canonOnceSpec)

/-- ITS FALSE NEIGHBOUR: 'it returns false'. Refute it at one input. -/
def canonOnceWrong : ChangeSpec := { name := "canonOnce", fn := fun _ => fun
  | [d] => { results := [.lit (.bool false)], args := [d] }
  | _ => none }
def CanonOnceWrongFalsely : Prop := canonOnceRow.holds Tryz.pinned (OpenSpec.ofChange canonOnceWrong)

/-- 'ordeallaw11.CanonApart': WHATEVER THE INPUT: true; the input reads as it did. -/
def canonApartSpec : ChangeSpec := { name := "canonApart", fn := fun _ => fun
  | [d1, d2] => { results := [.lit (.bool true)], args := [d1, d2] }
  | _ => none }
def canonApartRow : OpenClaim := { program := "ytfhmokjjjnjhjaagreatdoor", sum := "b8e9f3d883c6fde4a095de107c7d6d0aabd58f5f9a5798e3a9e1044ca5fc4163", func := "ordeal/ordeallaw11.CanonApart", spec := "canonApart", inPlace := ["internal/bytealg.IndexByteString", "internal/bytealg.IndexString", "internal/abi.NoEscape", "internal/bytealg.MakeNoZero"], unfollowed := true, recurses := true, named := ["unicode/utf8.first", "unicode/utf8.acceptRanges", "internal/bytealg.MaxLen", "ordeal/read.names", "ordeal/sha.start", "ordeal/sha.rounds", "internal/strconv.uint64pow10", "math/bits.deBruijn32tab", "math/bits.deBruijn64tab", "ordeal/canon.names", "ordeal/canon.sides"], apart := false, laid := [("math/bits.deBruijn32tab", laid_math_bits_deBruijn32tab), ("math/bits.deBruijn64tab", laid_math_bits_deBruijn64tab), ("internal/strconv.uint64pow10", laid_internal_strconv_uint64pow10), ("unicode/utf8.acceptRanges", laid_unicode_utf8_acceptRanges), ("ordeal/read.names", laid_ordeal_read_names), ("ordeal/sha.rounds", laid_ordeal_sha_rounds), ("ordeal/sha.start", laid_ordeal_sha_start), ("ordeal/canon.names", laid_ordeal_canon_names), ("ordeal/canon.sides", laid_ordeal_canon_sides), ("unicode/utf8.first", laid_unicode_utf8_first)] }
def CanonApartSaid : Prop := canonApartRow.holds Tryz.pinned (OpenSpec.ofChange canonApartSpec)

/-- ITS FALSE NEIGHBOUR: 'it returns false'. Refute it at one input. -/
def canonApartWrong : ChangeSpec := { name := "canonApart", fn := fun _ => fun
  | [d1, d2] => { results := [.lit (.bool false)], args := [d1, d2] }
  | _ => none }
def CanonApartWrongFalsely : Prop := canonApartRow.holds Tryz.pinned (OpenSpec.ofChange canonApartWrong)

/- THE SECOND FORM. 'bulk': how many values and letters a reading holds, each counted each time it is reached (what is shared counts as often as it is met; a slice's spare places count too). A statement '..UptoSaid' is the law's where the arguments, and the package variables that the reading takes, are together of bulk at most 1048576: NARROWER than '..Said'. Prove '..Said' where nothing that the law and all that it calls make is longer than what came in: it says more and counts as full. Else prove '..UptoSaid'. A law counts once. -/
mutual
def uptoBulk {H : Type} : DataW H → Nat
  | .lit (.string bytes) => bytes.length + 1
  | .lit _ => 1
  | .nil => 1
  | .ptr d => uptoBulk d + 1
  | .slice elems spare => uptoBulkAll elems + uptoBulkAll spare + 1
  | .agg parts => uptoBulkAll parts + 1
  | .iface _ d => uptoBulk d + 1
  | .map entries => uptoBulkEntries entries + 1
  | .held _ => 1
def uptoBulkAll {H : Type} : List (DataW H) → Nat
  | [] => 0
  | d :: r => uptoBulk d + uptoBulkAll r
def uptoBulkEntries {H : Type} : List (Lit × DataW H) → Nat
  | [] => 0
  | x :: r => uptoBulkEntry x + uptoBulkEntries r
def uptoBulkEntry {H : Type} : Lit × DataW H → Nat
  | (.string bytes, d) => bytes.length + uptoBulk d + 1
  | (_, d) => uptoBulk d + 1
 end
def uptoSmall : (H : Type) → List (DataW H) → Bool := fun _ ds => decide (uptoBulkAll ds ≤ 1048576)
def OpenSpec.upto (s : _root_.Go.ChangeSpec) : _root_.Go.OpenSpec := { _root_.Go.OpenSpec.ofChange s with cond := some uptoSmall }

/-- 'ordeallaw10.ReadGood', WHERE WHAT IT READS IS OF BULK AT MOST 1048576: true; the input reads as it did. -/
def readGoodUptoRow : OpenClaim := { program := "ytfhmokjjjnjhjaagreatdoor", sum := "b8e9f3d883c6fde4a095de107c7d6d0aabd58f5f9a5798e3a9e1044ca5fc4163", func := "ordeal/ordeallaw10.ReadGood", spec := "readGood", inPlace := ["internal/bytealg.IndexByteString", "internal/bytealg.IndexString"], unfollowed := true, recurses := true, named := ["unicode/utf8.first", "unicode/utf8.acceptRanges", "internal/bytealg.MaxLen", "ordeal/read.names"], apart := false, laid := [("unicode/utf8.acceptRanges", laid_unicode_utf8_acceptRanges), ("ordeal/read.names", laid_ordeal_read_names), ("unicode/utf8.first", laid_unicode_utf8_first)], narrowed := true }
def ReadGoodUptoSaid : Prop := readGoodUptoRow.holds Tryz.pinned (OpenSpec.upto readGoodSpec)

/-- 'ordeallaw10.ReadNotes', WHERE WHAT IT READS IS OF BULK AT MOST 1048576: true; the input reads as it did. -/
def readNotesUptoRow : OpenClaim := { program := "ytfhmokjjjnjhjaagreatdoor", sum := "b8e9f3d883c6fde4a095de107c7d6d0aabd58f5f9a5798e3a9e1044ca5fc4163", func := "ordeal/ordeallaw10.ReadNotes", spec := "readNotes", inPlace := ["internal/bytealg.IndexByteString", "internal/bytealg.IndexString"], unfollowed := true, recurses := true, named := ["unicode/utf8.first", "unicode/utf8.acceptRanges", "internal/bytealg.MaxLen", "ordeal/read.names"], apart := false, laid := [("unicode/utf8.acceptRanges", laid_unicode_utf8_acceptRanges), ("ordeal/read.names", laid_ordeal_read_names), ("unicode/utf8.first", laid_unicode_utf8_first)], narrowed := true }
def ReadNotesUptoSaid : Prop := readNotesUptoRow.holds Tryz.pinned (OpenSpec.upto readNotesSpec)

/-- 'ordeallaw10.ReadNamed', WHERE WHAT IT READS IS OF BULK AT MOST 1048576: true; the input reads as it did. -/
def readNamedUptoRow : OpenClaim := { program := "ytfhmokjjjnjhjaagreatdoor", sum := "b8e9f3d883c6fde4a095de107c7d6d0aabd58f5f9a5798e3a9e1044ca5fc4163", func := "ordeal/ordeallaw10.ReadNamed", spec := "readNamed", inPlace := ["internal/bytealg.IndexByteString", "internal/bytealg.IndexString"], unfollowed := true, recurses := true, named := ["unicode/utf8.first", "unicode/utf8.acceptRanges", "internal/bytealg.MaxLen", "ordeal/read.names"], apart := false, laid := [("unicode/utf8.acceptRanges", laid_unicode_utf8_acceptRanges), ("ordeal/read.names", laid_ordeal_read_names), ("unicode/utf8.first", laid_unicode_utf8_first)], narrowed := true }
def ReadNamedUptoSaid : Prop := readNamedUptoRow.holds Tryz.pinned (OpenSpec.upto readNamedSpec)

/-- 'ordeallaw11.CanonPrints', WHERE WHAT IT READS IS OF BULK AT MOST 1048576: true; the input reads as it did. -/
def canonPrintsUptoRow : OpenClaim := { program := "ytfhmokjjjnjhjaagreatdoor", sum := "b8e9f3d883c6fde4a095de107c7d6d0aabd58f5f9a5798e3a9e1044ca5fc4163", func := "ordeal/ordeallaw11.CanonPrints", spec := "canonPrints", inPlace := ["internal/bytealg.IndexByteString", "internal/bytealg.IndexString", "internal/abi.NoEscape", "internal/bytealg.MakeNoZero"], unfollowed := true, recurses := true, named := ["unicode/utf8.first", "unicode/utf8.acceptRanges", "internal/bytealg.MaxLen", "ordeal/read.names", "ordeal/sha.start", "ordeal/sha.rounds", "internal/strconv.uint64pow10", "math/bits.deBruijn32tab", "math/bits.deBruijn64tab", "ordeal/canon.names", "ordeal/canon.sides"], apart := false, laid := [("math/bits.deBruijn32tab", laid_math_bits_deBruijn32tab), ("math/bits.deBruijn64tab", laid_math_bits_deBruijn64tab), ("internal/strconv.uint64pow10", laid_internal_strconv_uint64pow10), ("unicode/utf8.acceptRanges", laid_unicode_utf8_acceptRanges), ("ordeal/read.names", laid_ordeal_read_names), ("ordeal/sha.rounds", laid_ordeal_sha_rounds), ("ordeal/sha.start", laid_ordeal_sha_start), ("ordeal/canon.names", laid_ordeal_canon_names), ("ordeal/canon.sides", laid_ordeal_canon_sides), ("unicode/utf8.first", laid_unicode_utf8_first)], narrowed := true }
def CanonPrintsUptoSaid : Prop := canonPrintsUptoRow.holds Tryz.pinned (OpenSpec.upto canonPrintsSpec)

/-- 'ordeallaw11.CanonBack', WHERE WHAT IT READS IS OF BULK AT MOST 1048576: true; the input reads as it did. -/
def canonBackUptoRow : OpenClaim := { program := "ytfhmokjjjnjhjaagreatdoor", sum := "b8e9f3d883c6fde4a095de107c7d6d0aabd58f5f9a5798e3a9e1044ca5fc4163", func := "ordeal/ordeallaw11.CanonBack", spec := "canonBack", inPlace := ["internal/bytealg.IndexByteString", "internal/bytealg.IndexString", "internal/abi.NoEscape", "internal/bytealg.MakeNoZero"], unfollowed := true, recurses := true, named := ["unicode/utf8.first", "unicode/utf8.acceptRanges", "internal/bytealg.MaxLen", "ordeal/read.names", "ordeal/sha.start", "ordeal/sha.rounds", "internal/strconv.uint64pow10", "math/bits.deBruijn32tab", "math/bits.deBruijn64tab", "ordeal/canon.names", "ordeal/canon.sides"], apart := false, laid := [("math/bits.deBruijn32tab", laid_math_bits_deBruijn32tab), ("math/bits.deBruijn64tab", laid_math_bits_deBruijn64tab), ("internal/strconv.uint64pow10", laid_internal_strconv_uint64pow10), ("unicode/utf8.acceptRanges", laid_unicode_utf8_acceptRanges), ("ordeal/read.names", laid_ordeal_read_names), ("ordeal/sha.rounds", laid_ordeal_sha_rounds), ("ordeal/sha.start", laid_ordeal_sha_start), ("ordeal/canon.names", laid_ordeal_canon_names), ("ordeal/canon.sides", laid_ordeal_canon_sides), ("unicode/utf8.first", laid_unicode_utf8_first)], narrowed := true }
def CanonBackUptoSaid : Prop := canonBackUptoRow.holds Tryz.pinned (OpenSpec.upto canonBackSpec)

/-- 'ordeallaw11.CanonOnce', WHERE WHAT IT READS IS OF BULK AT MOST 1048576: true; the input reads as it did. -/
def canonOnceUptoRow : OpenClaim := { program := "ytfhmokjjjnjhjaagreatdoor", sum := "b8e9f3d883c6fde4a095de107c7d6d0aabd58f5f9a5798e3a9e1044ca5fc4163", func := "ordeal/ordeallaw11.CanonOnce", spec := "canonOnce", inPlace := ["internal/bytealg.IndexByteString", "internal/bytealg.IndexString", "internal/abi.NoEscape", "internal/bytealg.MakeNoZero"], unfollowed := true, recurses := true, named := ["unicode/utf8.first", "unicode/utf8.acceptRanges", "internal/bytealg.MaxLen", "ordeal/read.names", "ordeal/sha.start", "ordeal/sha.rounds", "internal/strconv.uint64pow10", "math/bits.deBruijn32tab", "math/bits.deBruijn64tab", "ordeal/canon.names", "ordeal/canon.sides"], apart := false, laid := [("math/bits.deBruijn32tab", laid_math_bits_deBruijn32tab), ("math/bits.deBruijn64tab", laid_math_bits_deBruijn64tab), ("internal/strconv.uint64pow10", laid_internal_strconv_uint64pow10), ("unicode/utf8.acceptRanges", laid_unicode_utf8_acceptRanges), ("ordeal/read.names", laid_ordeal_read_names), ("ordeal/sha.rounds", laid_ordeal_sha_rounds), ("ordeal/sha.start", laid_ordeal_sha_start), ("ordeal/canon.names", laid_ordeal_canon_names), ("ordeal/canon.sides", laid_ordeal_canon_sides), ("unicode/utf8.first", laid_unicode_utf8_first)], narrowed := true }
def CanonOnceUptoSaid : Prop := canonOnceUptoRow.holds Tryz.pinned (OpenSpec.upto canonOnceSpec)

/-- 'ordeallaw11.CanonApart', WHERE WHAT IT READS IS OF BULK AT MOST 1048576: true; the input reads as it did. -/
def canonApartUptoRow : OpenClaim := { program := "ytfhmokjjjnjhjaagreatdoor", sum := "b8e9f3d883c6fde4a095de107c7d6d0aabd58f5f9a5798e3a9e1044ca5fc4163", func := "ordeal/ordeallaw11.CanonApart", spec := "canonApart", inPlace := ["internal/bytealg.IndexByteString", "internal/bytealg.IndexString", "internal/abi.NoEscape", "internal/bytealg.MakeNoZero"], unfollowed := true, recurses := true, named := ["unicode/utf8.first", "unicode/utf8.acceptRanges", "internal/bytealg.MaxLen", "ordeal/read.names", "ordeal/sha.start", "ordeal/sha.rounds", "internal/strconv.uint64pow10", "math/bits.deBruijn32tab", "math/bits.deBruijn64tab", "ordeal/canon.names", "ordeal/canon.sides"], apart := false, laid := [("math/bits.deBruijn32tab", laid_math_bits_deBruijn32tab), ("math/bits.deBruijn64tab", laid_math_bits_deBruijn64tab), ("internal/strconv.uint64pow10", laid_internal_strconv_uint64pow10), ("unicode/utf8.acceptRanges", laid_unicode_utf8_acceptRanges), ("ordeal/read.names", laid_ordeal_read_names), ("ordeal/sha.rounds", laid_ordeal_sha_rounds), ("ordeal/sha.start", laid_ordeal_sha_start), ("ordeal/canon.names", laid_ordeal_canon_names), ("ordeal/canon.sides", laid_ordeal_canon_sides), ("unicode/utf8.first", laid_unicode_utf8_first)], narrowed := true }
def CanonApartUptoSaid : Prop := canonApartUptoRow.holds Tryz.pinned (OpenSpec.upto canonApartSpec)

end Rows
end Go.Proofs.YtfhmokjjjnjhjaaGreatDoor
