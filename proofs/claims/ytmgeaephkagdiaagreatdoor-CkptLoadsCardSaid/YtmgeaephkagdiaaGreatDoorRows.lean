/-
  NARROWER THAN 'FOR EVERY INPUT', by the rows' own cells (each row's printed sentence says how): WalOpens: laid · WalWhole: laid · WalCrash: laid · WalRetired: laid · WalPlays: laid · CkptLoads: laid · CkptCrash: laid · CkptFull: laid · CkptPlays: laid.
  DERIVED. THE GIVEN ROWS OF THIS SEAT. 9 by the template 'for every input the law returns true; each argument reads behind the call as it read before'; 0 by the template 'total and deterministic' (their statements: YtmgeaephkagdiaaGreatDoorTotals.lean).
  GIVEN WITH THE SEED: the statements are not yours to turn. If you find one false, say at which input.
  Laid BY PROGRAM, IN A SANDBOX (cutbox-rows.mjs): the forced cells as the released guide's own fill.sh prints them over the translation a330f390e86c6b07… (all of the seat's roots in one cut). By AI agents, Wed Nov 11 2026. No macro, syntax, notation, axiom, sorry.
-/
import Derived.Test.YtmgeaephkagdiaaGreatDoorChecked
import GoSem.Claim
import GoSem.ClaimJoined
import GoSem.ClaimMapViews
import Derived.JoinedTies
import Derived.KernelRfl
namespace Go.Proofs.YtmgeaephkagdiaaGreatDoor
/- THE CELL 'sum', in the pinned program and in every row, IS THE sha256 OF THE DUMP (.gsa) THAT YtmgeaephkagdiaaGreatDoorProg.lean LOADS. Nothing in Lean hashes anything: it is a label: what it is worth is what the hold of that sum in a sandbox is worth. -/
noncomputable def Tryz.pinned : Pinned := { name := "ytmgeaephkagdiaagreatdoor", sum := "a330f390e86c6b0796294208a39436c4346988da876bfea3d0bedad1dc1ccebf", checked := Tryz.checked }
namespace Rows
def none {H : Type} : Left H := { results := [], args := [] }

/- WHAT THE LISTED PACKAGE-LEVEL VARIABLES READ AS WHEN THE CALL BEGINS. Each datum BY PROGRAM (the guide's laid-datum.mjs) off the statement by which the dump's own 'gosem.cut.vars' lays the variable. In a bare row this is a premise. The card (YtmgeaephkagdiaaGreatDoorCards.lean) ties it to the program's text. -/
def laid_ordeal_crc_half {H : Type} : DataW H := .agg [.lit (.int .u32 0), .lit (.int .u32 274646895), .lit (.int .u32 549293790), .lit (.int .u32 820201905), .lit (.int .u32 1098587580), .lit (.int .u32 1361435347), .lit (.int .u32 1640403810), .lit (.int .u32 1905808397), .lit (.int .u32 2197175160), .lit (.int .u32 2460548119), .lit (.int .u32 2722870694), .lit (.int .u32 2987750089), .lit (.int .u32 3280807620), .lit (.int .u32 3553878443), .lit (.int .u32 3811616794), .lit (.int .u32 4084100981)]
def laid_ordeal_sha_rounds {H : Type} : DataW H := .agg [.lit (.int .u32 1116352408), .lit (.int .u32 1899447441), .lit (.int .u32 3049323471), .lit (.int .u32 3921009573), .lit (.int .u32 961987163), .lit (.int .u32 1508970993), .lit (.int .u32 2453635748), .lit (.int .u32 2870763221), .lit (.int .u32 3624381080), .lit (.int .u32 310598401), .lit (.int .u32 607225278), .lit (.int .u32 1426881987), .lit (.int .u32 1925078388), .lit (.int .u32 2162078206), .lit (.int .u32 2614888103), .lit (.int .u32 3248222580), .lit (.int .u32 3835390401), .lit (.int .u32 4022224774), .lit (.int .u32 264347078), .lit (.int .u32 604807628), .lit (.int .u32 770255983), .lit (.int .u32 1249150122), .lit (.int .u32 1555081692), .lit (.int .u32 1996064986), .lit (.int .u32 2554220882), .lit (.int .u32 2821834349), .lit (.int .u32 2952996808), .lit (.int .u32 3210313671), .lit (.int .u32 3336571891), .lit (.int .u32 3584528711), .lit (.int .u32 113926993), .lit (.int .u32 338241895), .lit (.int .u32 666307205), .lit (.int .u32 773529912), .lit (.int .u32 1294757372), .lit (.int .u32 1396182291), .lit (.int .u32 1695183700), .lit (.int .u32 1986661051), .lit (.int .u32 2177026350), .lit (.int .u32 2456956037), .lit (.int .u32 2730485921), .lit (.int .u32 2820302411), .lit (.int .u32 3259730800), .lit (.int .u32 3345764771), .lit (.int .u32 3516065817), .lit (.int .u32 3600352804), .lit (.int .u32 4094571909), .lit (.int .u32 275423344), .lit (.int .u32 430227734), .lit (.int .u32 506948616), .lit (.int .u32 659060556), .lit (.int .u32 883997877), .lit (.int .u32 958139571), .lit (.int .u32 1322822218), .lit (.int .u32 1537002063), .lit (.int .u32 1747873779), .lit (.int .u32 1955562222), .lit (.int .u32 2024104815), .lit (.int .u32 2227730452), .lit (.int .u32 2361852424), .lit (.int .u32 2428436474), .lit (.int .u32 2756734187), .lit (.int .u32 3204031479), .lit (.int .u32 3329325298)]
def laid_ordeal_sha_start {H : Type} : DataW H := .agg [.lit (.int .u32 1779033703), .lit (.int .u32 3144134277), .lit (.int .u32 1013904242), .lit (.int .u32 2773480762), .lit (.int .u32 1359893119), .lit (.int .u32 2600822924), .lit (.int .u32 528734635), .lit (.int .u32 1541459225)]

/-- 'ordeallaw07.WalOpens': WHATEVER THE INPUT: true; the input reads as it did. -/
def walOpensSpec : ChangeSpec := { name := "walOpens", fn := fun _ => fun
  | [d1, d2, d3] => { results := [.lit (.bool true)], args := [d1, d2, d3] }
  | _ => none }
def walOpensRow : OpenClaim := { program := "ytmgeaephkagdiaagreatdoor", sum := "a330f390e86c6b0796294208a39436c4346988da876bfea3d0bedad1dc1ccebf", func := "ordeal/ordeallaw07.WalOpens", spec := "walOpens", inPlace := ["internal/bytealg.IndexByteString", "maps.clone"], unfollowed := true, recurses := true, named := ["ordeal/crc.half"], apart := false, laid := [("ordeal/crc.half", laid_ordeal_crc_half)] }
def WalOpensSaid : Prop := walOpensRow.holds Tryz.pinned (OpenSpec.ofChange walOpensSpec)

/-- ITS FALSE NEIGHBOUR: 'it returns false'. Refute it at one input. -/
def walOpensWrong : ChangeSpec := { name := "walOpens", fn := fun _ => fun
  | [d1, d2, d3] => { results := [.lit (.bool false)], args := [d1, d2, d3] }
  | _ => none }
def WalOpensWrongFalsely : Prop := walOpensRow.holds Tryz.pinned (OpenSpec.ofChange walOpensWrong)

/-- 'ordeallaw07.WalWhole': WHATEVER THE INPUT: true; the input reads as it did. -/
def walWholeSpec : ChangeSpec := { name := "walWhole", fn := fun _ => fun
  | [d1, d2, d3] => { results := [.lit (.bool true)], args := [d1, d2, d3] }
  | _ => none }
def walWholeRow : OpenClaim := { program := "ytmgeaephkagdiaagreatdoor", sum := "a330f390e86c6b0796294208a39436c4346988da876bfea3d0bedad1dc1ccebf", func := "ordeal/ordeallaw07.WalWhole", spec := "walWhole", inPlace := ["internal/bytealg.IndexByteString", "maps.clone"], unfollowed := true, recurses := true, named := ["ordeal/crc.half"], apart := false, laid := [("ordeal/crc.half", laid_ordeal_crc_half)] }
def WalWholeSaid : Prop := walWholeRow.holds Tryz.pinned (OpenSpec.ofChange walWholeSpec)

/-- ITS FALSE NEIGHBOUR: 'it returns false'. Refute it at one input. -/
def walWholeWrong : ChangeSpec := { name := "walWhole", fn := fun _ => fun
  | [d1, d2, d3] => { results := [.lit (.bool false)], args := [d1, d2, d3] }
  | _ => none }
def WalWholeWrongFalsely : Prop := walWholeRow.holds Tryz.pinned (OpenSpec.ofChange walWholeWrong)

/-- 'ordeallaw07.WalCrash': WHATEVER THE INPUT: true; the input reads as it did. -/
def walCrashSpec : ChangeSpec := { name := "walCrash", fn := fun _ => fun
  | [d1, d2, d3, d4, d5] => { results := [.lit (.bool true)], args := [d1, d2, d3, d4, d5] }
  | _ => none }
def walCrashRow : OpenClaim := { program := "ytmgeaephkagdiaagreatdoor", sum := "a330f390e86c6b0796294208a39436c4346988da876bfea3d0bedad1dc1ccebf", func := "ordeal/ordeallaw07.WalCrash", spec := "walCrash", inPlace := ["internal/bytealg.IndexByteString", "maps.clone"], unfollowed := true, recurses := true, named := ["ordeal/crc.half"], apart := false, laid := [("ordeal/crc.half", laid_ordeal_crc_half)] }
def WalCrashSaid : Prop := walCrashRow.holds Tryz.pinned (OpenSpec.ofChange walCrashSpec)

/-- ITS FALSE NEIGHBOUR: 'it returns false'. Refute it at one input. -/
def walCrashWrong : ChangeSpec := { name := "walCrash", fn := fun _ => fun
  | [d1, d2, d3, d4, d5] => { results := [.lit (.bool false)], args := [d1, d2, d3, d4, d5] }
  | _ => none }
def WalCrashWrongFalsely : Prop := walCrashRow.holds Tryz.pinned (OpenSpec.ofChange walCrashWrong)

/-- 'ordeallaw07.WalRetired': WHATEVER THE INPUT: true; the input reads as it did. -/
def walRetiredSpec : ChangeSpec := { name := "walRetired", fn := fun _ => fun
  | [d1, d2, d3, d4] => { results := [.lit (.bool true)], args := [d1, d2, d3, d4] }
  | _ => none }
def walRetiredRow : OpenClaim := { program := "ytmgeaephkagdiaagreatdoor", sum := "a330f390e86c6b0796294208a39436c4346988da876bfea3d0bedad1dc1ccebf", func := "ordeal/ordeallaw07.WalRetired", spec := "walRetired", inPlace := ["internal/bytealg.IndexByteString", "maps.clone"], unfollowed := true, recurses := true, named := ["ordeal/crc.half"], apart := false, laid := [("ordeal/crc.half", laid_ordeal_crc_half)] }
def WalRetiredSaid : Prop := walRetiredRow.holds Tryz.pinned (OpenSpec.ofChange walRetiredSpec)

/-- ITS FALSE NEIGHBOUR: 'it returns false'. Refute it at one input. -/
def walRetiredWrong : ChangeSpec := { name := "walRetired", fn := fun _ => fun
  | [d1, d2, d3, d4] => { results := [.lit (.bool false)], args := [d1, d2, d3, d4] }
  | _ => none }
def WalRetiredWrongFalsely : Prop := walRetiredRow.holds Tryz.pinned (OpenSpec.ofChange walRetiredWrong)

/-- 'ordeallaw07.WalPlays': WHATEVER THE INPUT: true; the input reads as it did. -/
def walPlaysSpec : ChangeSpec := { name := "walPlays", fn := fun _ => fun
  | [d1, d2, d3] => { results := [.lit (.bool true)], args := [d1, d2, d3] }
  | _ => none }
def walPlaysRow : OpenClaim := { program := "ytmgeaephkagdiaagreatdoor", sum := "a330f390e86c6b0796294208a39436c4346988da876bfea3d0bedad1dc1ccebf", func := "ordeal/ordeallaw07.WalPlays", spec := "walPlays", inPlace := ["internal/bytealg.IndexByteString", "maps.clone"], unfollowed := true, recurses := true, named := ["ordeal/crc.half"], apart := false, laid := [("ordeal/crc.half", laid_ordeal_crc_half)] }
def WalPlaysSaid : Prop := walPlaysRow.holds Tryz.pinned (OpenSpec.ofChange walPlaysSpec)

/-- ITS FALSE NEIGHBOUR: 'it returns false'. Refute it at one input. -/
def walPlaysWrong : ChangeSpec := { name := "walPlays", fn := fun _ => fun
  | [d1, d2, d3] => { results := [.lit (.bool false)], args := [d1, d2, d3] }
  | _ => none }
def WalPlaysWrongFalsely : Prop := walPlaysRow.holds Tryz.pinned (OpenSpec.ofChange walPlaysWrong)

/-- 'ordeallaw23.CkptLoads': WHATEVER THE INPUT: true; the input reads as it did. -/
def ckptLoadsSpec : ChangeSpec := { name := "ckptLoads", fn := fun _ => fun
  | [d1, d2, d3] => { results := [.lit (.bool true)], args := [d1, d2, d3] }
  | _ => none }
def ckptLoadsRow : OpenClaim := { program := "ytmgeaephkagdiaagreatdoor", sum := "a330f390e86c6b0796294208a39436c4346988da876bfea3d0bedad1dc1ccebf", func := "ordeal/ordeallaw23.CkptLoads", spec := "ckptLoads", inPlace := ["slices.overlaps[ordeal/table.Entry]", "maps.clone"], unfollowed := true, recurses := true, named := ["ordeal/sha.start", "ordeal/sha.rounds"], apart := false, laid := [("ordeal/sha.rounds", laid_ordeal_sha_rounds), ("ordeal/sha.start", laid_ordeal_sha_start)] }
def CkptLoadsSaid : Prop := ckptLoadsRow.holds Tryz.pinned (OpenSpec.ofChange ckptLoadsSpec)

/-- ITS FALSE NEIGHBOUR: 'it returns false'. Refute it at one input. -/
def ckptLoadsWrong : ChangeSpec := { name := "ckptLoads", fn := fun _ => fun
  | [d1, d2, d3] => { results := [.lit (.bool false)], args := [d1, d2, d3] }
  | _ => none }
def CkptLoadsWrongFalsely : Prop := ckptLoadsRow.holds Tryz.pinned (OpenSpec.ofChange ckptLoadsWrong)

/-- 'ordeallaw23.CkptCrash': WHATEVER THE INPUT: true; the input reads as it did. -/
def ckptCrashSpec : ChangeSpec := { name := "ckptCrash", fn := fun _ => fun
  | [d1, d2, d3, d4] => { results := [.lit (.bool true)], args := [d1, d2, d3, d4] }
  | _ => none }
def ckptCrashRow : OpenClaim := { program := "ytmgeaephkagdiaagreatdoor", sum := "a330f390e86c6b0796294208a39436c4346988da876bfea3d0bedad1dc1ccebf", func := "ordeal/ordeallaw23.CkptCrash", spec := "ckptCrash", inPlace := ["slices.overlaps[ordeal/table.Entry]", "maps.clone"], unfollowed := true, recurses := true, named := ["ordeal/sha.start", "ordeal/sha.rounds"], apart := false, laid := [("ordeal/sha.rounds", laid_ordeal_sha_rounds), ("ordeal/sha.start", laid_ordeal_sha_start)] }
def CkptCrashSaid : Prop := ckptCrashRow.holds Tryz.pinned (OpenSpec.ofChange ckptCrashSpec)

/-- ITS FALSE NEIGHBOUR: 'it returns false'. Refute it at one input. -/
def ckptCrashWrong : ChangeSpec := { name := "ckptCrash", fn := fun _ => fun
  | [d1, d2, d3, d4] => { results := [.lit (.bool false)], args := [d1, d2, d3, d4] }
  | _ => none }
def CkptCrashWrongFalsely : Prop := ckptCrashRow.holds Tryz.pinned (OpenSpec.ofChange ckptCrashWrong)

/-- 'ordeallaw23.CkptFull': WHATEVER THE INPUT: true; the input reads as it did. -/
def ckptFullSpec : ChangeSpec := { name := "ckptFull", fn := fun _ => fun
  | [d1, d2, d3, d4] => { results := [.lit (.bool true)], args := [d1, d2, d3, d4] }
  | _ => none }
def ckptFullRow : OpenClaim := { program := "ytmgeaephkagdiaagreatdoor", sum := "a330f390e86c6b0796294208a39436c4346988da876bfea3d0bedad1dc1ccebf", func := "ordeal/ordeallaw23.CkptFull", spec := "ckptFull", inPlace := ["slices.overlaps[ordeal/table.Entry]", "maps.clone"], unfollowed := true, recurses := true, named := ["ordeal/sha.start", "ordeal/sha.rounds"], apart := false, laid := [("ordeal/sha.rounds", laid_ordeal_sha_rounds), ("ordeal/sha.start", laid_ordeal_sha_start)] }
def CkptFullSaid : Prop := ckptFullRow.holds Tryz.pinned (OpenSpec.ofChange ckptFullSpec)

/-- ITS FALSE NEIGHBOUR: 'it returns false'. Refute it at one input. -/
def ckptFullWrong : ChangeSpec := { name := "ckptFull", fn := fun _ => fun
  | [d1, d2, d3, d4] => { results := [.lit (.bool false)], args := [d1, d2, d3, d4] }
  | _ => none }
def CkptFullWrongFalsely : Prop := ckptFullRow.holds Tryz.pinned (OpenSpec.ofChange ckptFullWrong)

/-- 'ordeallaw23.CkptPlays': WHATEVER THE INPUT: true; the input reads as it did. -/
def ckptPlaysSpec : ChangeSpec := { name := "ckptPlays", fn := fun _ => fun
  | [d1, d2] => { results := [.lit (.bool true)], args := [d1, d2] }
  | _ => none }
def ckptPlaysRow : OpenClaim := { program := "ytmgeaephkagdiaagreatdoor", sum := "a330f390e86c6b0796294208a39436c4346988da876bfea3d0bedad1dc1ccebf", func := "ordeal/ordeallaw23.CkptPlays", spec := "ckptPlays", inPlace := ["slices.overlaps[ordeal/table.Entry]", "maps.clone"], unfollowed := true, recurses := true, named := ["ordeal/sha.start", "ordeal/sha.rounds"], apart := false, laid := [("ordeal/sha.rounds", laid_ordeal_sha_rounds), ("ordeal/sha.start", laid_ordeal_sha_start)] }
def CkptPlaysSaid : Prop := ckptPlaysRow.holds Tryz.pinned (OpenSpec.ofChange ckptPlaysSpec)

/-- ITS FALSE NEIGHBOUR: 'it returns false'. Refute it at one input. -/
def ckptPlaysWrong : ChangeSpec := { name := "ckptPlays", fn := fun _ => fun
  | [d1, d2] => { results := [.lit (.bool false)], args := [d1, d2] }
  | _ => none }
def CkptPlaysWrongFalsely : Prop := ckptPlaysRow.holds Tryz.pinned (OpenSpec.ofChange ckptPlaysWrong)

/- THE SECOND FORM. 'bulk': how many values and letters a reading holds, each counted each time it is reached (what is shared counts as often as it is met; a slice's spare places count too). A statement '..UptoSaid' is the law's where the arguments, and the package variables that the reading takes, are together of bulk at most 1048576: NARROWER than '..Said'. Prove '..Said' where nothing that the law and all that it calls make is longer than what came in: it says more and counts as full. Else prove '..UptoSaid'. A law counts once. -/
mutual
def uptoBulk {H : Type} : DataW H → Nat
  | .lit (.string bytes) => bytes.length + 1
  | .lit _ => 1
  | .nil => 1
  | .ptr d => uptoBulk d + 1
  | .slice elems spare => uptoBulkAll elems + uptoBulkAll spare + 1
  | .agg parts => uptoBulkAll parts + 1
  | .iface _ d => uptoBulk d + 1
  | .map entries => uptoBulkEntries entries + 1
  | .held _ => 1
def uptoBulkAll {H : Type} : List (DataW H) → Nat
  | [] => 0
  | d :: r => uptoBulk d + uptoBulkAll r
def uptoBulkEntries {H : Type} : List (Lit × DataW H) → Nat
  | [] => 0
  | x :: r => uptoBulkEntry x + uptoBulkEntries r
def uptoBulkEntry {H : Type} : Lit × DataW H → Nat
  | (.string bytes, d) => bytes.length + uptoBulk d + 1
  | (_, d) => uptoBulk d + 1
 end
def uptoSmall : (H : Type) → List (DataW H) → Bool := fun _ ds => decide (uptoBulkAll ds ≤ 1048576)
def OpenSpec.upto (s : _root_.Go.ChangeSpec) : _root_.Go.OpenSpec := { _root_.Go.OpenSpec.ofChange s with cond := some uptoSmall }

/-- 'ordeallaw07.WalOpens', WHERE WHAT IT READS IS OF BULK AT MOST 1048576: true; the input reads as it did. -/
def walOpensUptoRow : OpenClaim := { program := "ytmgeaephkagdiaagreatdoor", sum := "a330f390e86c6b0796294208a39436c4346988da876bfea3d0bedad1dc1ccebf", func := "ordeal/ordeallaw07.WalOpens", spec := "walOpens", inPlace := ["internal/bytealg.IndexByteString", "maps.clone"], unfollowed := true, recurses := true, named := ["ordeal/crc.half"], apart := false, laid := [("ordeal/crc.half", laid_ordeal_crc_half)], narrowed := true }
def WalOpensUptoSaid : Prop := walOpensUptoRow.holds Tryz.pinned (OpenSpec.upto walOpensSpec)

/-- 'ordeallaw07.WalWhole', WHERE WHAT IT READS IS OF BULK AT MOST 1048576: true; the input reads as it did. -/
def walWholeUptoRow : OpenClaim := { program := "ytmgeaephkagdiaagreatdoor", sum := "a330f390e86c6b0796294208a39436c4346988da876bfea3d0bedad1dc1ccebf", func := "ordeal/ordeallaw07.WalWhole", spec := "walWhole", inPlace := ["internal/bytealg.IndexByteString", "maps.clone"], unfollowed := true, recurses := true, named := ["ordeal/crc.half"], apart := false, laid := [("ordeal/crc.half", laid_ordeal_crc_half)], narrowed := true }
def WalWholeUptoSaid : Prop := walWholeUptoRow.holds Tryz.pinned (OpenSpec.upto walWholeSpec)

/-- 'ordeallaw07.WalCrash', WHERE WHAT IT READS IS OF BULK AT MOST 1048576: true; the input reads as it did. -/
def walCrashUptoRow : OpenClaim := { program := "ytmgeaephkagdiaagreatdoor", sum := "a330f390e86c6b0796294208a39436c4346988da876bfea3d0bedad1dc1ccebf", func := "ordeal/ordeallaw07.WalCrash", spec := "walCrash", inPlace := ["internal/bytealg.IndexByteString", "maps.clone"], unfollowed := true, recurses := true, named := ["ordeal/crc.half"], apart := false, laid := [("ordeal/crc.half", laid_ordeal_crc_half)], narrowed := true }
def WalCrashUptoSaid : Prop := walCrashUptoRow.holds Tryz.pinned (OpenSpec.upto walCrashSpec)

/-- 'ordeallaw07.WalRetired', WHERE WHAT IT READS IS OF BULK AT MOST 1048576: true; the input reads as it did. -/
def walRetiredUptoRow : OpenClaim := { program := "ytmgeaephkagdiaagreatdoor", sum := "a330f390e86c6b0796294208a39436c4346988da876bfea3d0bedad1dc1ccebf", func := "ordeal/ordeallaw07.WalRetired", spec := "walRetired", inPlace := ["internal/bytealg.IndexByteString", "maps.clone"], unfollowed := true, recurses := true, named := ["ordeal/crc.half"], apart := false, laid := [("ordeal/crc.half", laid_ordeal_crc_half)], narrowed := true }
def WalRetiredUptoSaid : Prop := walRetiredUptoRow.holds Tryz.pinned (OpenSpec.upto walRetiredSpec)

/-- 'ordeallaw07.WalPlays', WHERE WHAT IT READS IS OF BULK AT MOST 1048576: true; the input reads as it did. -/
def walPlaysUptoRow : OpenClaim := { program := "ytmgeaephkagdiaagreatdoor", sum := "a330f390e86c6b0796294208a39436c4346988da876bfea3d0bedad1dc1ccebf", func := "ordeal/ordeallaw07.WalPlays", spec := "walPlays", inPlace := ["internal/bytealg.IndexByteString", "maps.clone"], unfollowed := true, recurses := true, named := ["ordeal/crc.half"], apart := false, laid := [("ordeal/crc.half", laid_ordeal_crc_half)], narrowed := true }
def WalPlaysUptoSaid : Prop := walPlaysUptoRow.holds Tryz.pinned (OpenSpec.upto walPlaysSpec)

/-- 'ordeallaw23.CkptLoads', WHERE WHAT IT READS IS OF BULK AT MOST 1048576: true; the input reads as it did. -/
def ckptLoadsUptoRow : OpenClaim := { program := "ytmgeaephkagdiaagreatdoor", sum := "a330f390e86c6b0796294208a39436c4346988da876bfea3d0bedad1dc1ccebf", func := "ordeal/ordeallaw23.CkptLoads", spec := "ckptLoads", inPlace := ["slices.overlaps[ordeal/table.Entry]", "maps.clone"], unfollowed := true, recurses := true, named := ["ordeal/sha.start", "ordeal/sha.rounds"], apart := false, laid := [("ordeal/sha.rounds", laid_ordeal_sha_rounds), ("ordeal/sha.start", laid_ordeal_sha_start)], narrowed := true }
def CkptLoadsUptoSaid : Prop := ckptLoadsUptoRow.holds Tryz.pinned (OpenSpec.upto ckptLoadsSpec)

/-- 'ordeallaw23.CkptCrash', WHERE WHAT IT READS IS OF BULK AT MOST 1048576: true; the input reads as it did. -/
def ckptCrashUptoRow : OpenClaim := { program := "ytmgeaephkagdiaagreatdoor", sum := "a330f390e86c6b0796294208a39436c4346988da876bfea3d0bedad1dc1ccebf", func := "ordeal/ordeallaw23.CkptCrash", spec := "ckptCrash", inPlace := ["slices.overlaps[ordeal/table.Entry]", "maps.clone"], unfollowed := true, recurses := true, named := ["ordeal/sha.start", "ordeal/sha.rounds"], apart := false, laid := [("ordeal/sha.rounds", laid_ordeal_sha_rounds), ("ordeal/sha.start", laid_ordeal_sha_start)], narrowed := true }
def CkptCrashUptoSaid : Prop := ckptCrashUptoRow.holds Tryz.pinned (OpenSpec.upto ckptCrashSpec)

/-- 'ordeallaw23.CkptFull', WHERE WHAT IT READS IS OF BULK AT MOST 1048576: true; the input reads as it did. -/
def ckptFullUptoRow : OpenClaim := { program := "ytmgeaephkagdiaagreatdoor", sum := "a330f390e86c6b0796294208a39436c4346988da876bfea3d0bedad1dc1ccebf", func := "ordeal/ordeallaw23.CkptFull", spec := "ckptFull", inPlace := ["slices.overlaps[ordeal/table.Entry]", "maps.clone"], unfollowed := true, recurses := true, named := ["ordeal/sha.start", "ordeal/sha.rounds"], apart := false, laid := [("ordeal/sha.rounds", laid_ordeal_sha_rounds), ("ordeal/sha.start", laid_ordeal_sha_start)], narrowed := true }
def CkptFullUptoSaid : Prop := ckptFullUptoRow.holds Tryz.pinned (OpenSpec.upto ckptFullSpec)

/-- 'ordeallaw23.CkptPlays', WHERE WHAT IT READS IS OF BULK AT MOST 1048576: true; the input reads as it did. -/
def ckptPlaysUptoRow : OpenClaim := { program := "ytmgeaephkagdiaagreatdoor", sum := "a330f390e86c6b0796294208a39436c4346988da876bfea3d0bedad1dc1ccebf", func := "ordeal/ordeallaw23.CkptPlays", spec := "ckptPlays", inPlace := ["slices.overlaps[ordeal/table.Entry]", "maps.clone"], unfollowed := true, recurses := true, named := ["ordeal/sha.start", "ordeal/sha.rounds"], apart := false, laid := [("ordeal/sha.rounds", laid_ordeal_sha_rounds), ("ordeal/sha.start", laid_ordeal_sha_start)], narrowed := true }
def CkptPlaysUptoSaid : Prop := ckptPlaysUptoRow.holds Tryz.pinned (OpenSpec.upto ckptPlaysSpec)

end Rows
end Go.Proofs.YtmgeaephkagdiaaGreatDoor
