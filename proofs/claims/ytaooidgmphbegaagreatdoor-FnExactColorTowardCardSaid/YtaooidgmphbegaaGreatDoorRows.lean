/-
  NARROWER THAN 'FOR EVERY INPUT', by the rows' own cells (each row's printed sentence says how): FnExactValidAid: laid · FnExactHasLight: laid · FnExactValidCorrection: laid · FnExactValidAids: laid · FnExactNearestAid: laid · FnExactValidEdition: laid · FnExactValidNotice: laid · FnExactColorToward: laid · FnExactValidNotices: laid · FnExactReachOf: laid · FnExactMarksDanger: laid · FnExactNextNumber: laid.
  DERIVED. THE GIVEN ROWS OF THIS SEAT. 12 by the template 'for every input the law returns true; each argument reads behind the call as it read before'; 0 by the template 'total and deterministic' (their statements: YtaooidgmphbegaaGreatDoorTotals.lean).
  GIVEN WITH THE SEED: the statements are not yours to turn. If you find one false, say at which input.
  Laid BY PROGRAM, IN A SANDBOX (cutbox-rows.mjs): the forced cells as the released guide's own fill.sh prints them over the translation 3979e2d14563e925… (all of the seat's roots in one cut). By AI agents, Wed Nov 11 2026. No macro, syntax, notation, axiom, sorry.
-/
import Derived.Test.YtaooidgmphbegaaGreatDoorChecked
import GoSem.Claim
import GoSem.ClaimJoined
import GoSem.ClaimMapViews
import Derived.JoinedTies
import Derived.KernelRfl
namespace Go.Proofs.YtaooidgmphbegaaGreatDoor
/- THE CELL 'sum', in the pinned program and in every row, IS THE sha256 OF THE DUMP (.gsa) THAT YtaooidgmphbegaaGreatDoorProg.lean LOADS. Nothing in Lean hashes anything: it is a label: what it is worth is what the hold of that sum in a sandbox is worth. -/
noncomputable def Tryz.pinned : Pinned := { name := "ytaooidgmphbegaagreatdoor", sum := "3979e2d14563e925e1e241b1812215be8a7bfcd088d404c4a1e1ae2e392599b8", checked := Tryz.checked }
namespace Rows
def none {H : Type} : Left H := { results := [], args := [] }

/- WHAT THE LISTED PACKAGE-LEVEL VARIABLES READ AS WHEN THE CALL BEGINS. Each datum BY PROGRAM (the guide's laid-datum.mjs) off the statement by which the dump's own 'gosem.cut.vars' lays the variable. In a bare row this is a premise. The card (YtaooidgmphbegaaGreatDoorCards.lean) ties it to the program's text. -/
def laid_unicode_White_Space {H : Type} : DataW H := .ptr (.agg [.slice [.agg [.lit (.int .u16 9), .lit (.int .u16 13), .lit (.int .u16 1)], .agg [.lit (.int .u16 32), .lit (.int .u16 133), .lit (.int .u16 101)], .agg [.lit (.int .u16 160), .lit (.int .u16 5760), .lit (.int .u16 5600)], .agg [.lit (.int .u16 8192), .lit (.int .u16 8202), .lit (.int .u16 1)], .agg [.lit (.int .u16 8232), .lit (.int .u16 8233), .lit (.int .u16 1)], .agg [.lit (.int .u16 8239), .lit (.int .u16 8287), .lit (.int .u16 48)], .agg [.lit (.int .u16 12288), .lit (.int .u16 12288), .lit (.int .u16 1)]] [], .nil, .lit (.int .i64 2)])
def laid_strings_asciiSpace {H : Type} : DataW H := .agg [.lit (.int .u8 0), .lit (.int .u8 0), .lit (.int .u8 0), .lit (.int .u8 0), .lit (.int .u8 0), .lit (.int .u8 0), .lit (.int .u8 0), .lit (.int .u8 0), .lit (.int .u8 0), .lit (.int .u8 1), .lit (.int .u8 1), .lit (.int .u8 1), .lit (.int .u8 1), .lit (.int .u8 1), .lit (.int .u8 0), .lit (.int .u8 0), .lit (.int .u8 0), .lit (.int .u8 0), .lit (.int .u8 0), .lit (.int .u8 0), .lit (.int .u8 0), .lit (.int .u8 0), .lit (.int .u8 0), .lit (.int .u8 0), .lit (.int .u8 0), .lit (.int .u8 0), .lit (.int .u8 0), .lit (.int .u8 0), .lit (.int .u8 0), .lit (.int .u8 0), .lit (.int .u8 0), .lit (.int .u8 0), .lit (.int .u8 1), .lit (.int .u8 0), .lit (.int .u8 0), .lit (.int .u8 0), .lit (.int .u8 0), .lit (.int .u8 0), .lit (.int .u8 0), .lit (.int .u8 0), .lit (.int .u8 0), .lit (.int .u8 0), .lit (.int .u8 0), .lit (.int .u8 0), .lit (.int .u8 0), .lit (.int .u8 0), .lit (.int .u8 0), .lit (.int .u8 0), .lit (.int .u8 0), .lit (.int .u8 0), .lit (.int .u8 0), .lit (.int .u8 0), .lit (.int .u8 0), .lit (.int .u8 0), .lit (.int .u8 0), .lit (.int .u8 0), .lit (.int .u8 0), .lit (.int .u8 0), .lit (.int .u8 0), .lit (.int .u8 0), .lit (.int .u8 0), .lit (.int .u8 0), .lit (.int .u8 0), .lit (.int .u8 0), .lit (.int .u8 0), .lit (.int .u8 0), .lit (.int .u8 0), .lit (.int .u8 0), .lit (.int .u8 0), .lit (.int .u8 0), .lit (.int .u8 0), .lit (.int .u8 0), .lit (.int .u8 0), .lit (.int .u8 0), .lit (.int .u8 0), .lit (.int .u8 0), .lit (.int .u8 0), .lit (.int .u8 0), .lit (.int .u8 0), .lit (.int .u8 0), .lit (.int .u8 0), .lit (.int .u8 0), .lit (.int .u8 0), .lit (.int .u8 0), .lit (.int .u8 0), .lit (.int .u8 0), .lit (.int .u8 0), .lit (.int .u8 0), .lit (.int .u8 0), .lit (.int .u8 0), .lit (.int .u8 0), .lit (.int .u8 0), .lit (.int .u8 0), .lit (.int .u8 0), .lit (.int .u8 0), .lit (.int .u8 0), .lit (.int .u8 0), .lit (.int .u8 0), .lit (.int .u8 0), .lit (.int .u8 0), .lit (.int .u8 0), .lit (.int .u8 0), .lit (.int .u8 0), .lit (.int .u8 0), .lit (.int .u8 0), .lit (.int .u8 0), .lit (.int .u8 0), .lit (.int .u8 0), .lit (.int .u8 0), .lit (.int .u8 0), .lit (.int .u8 0), .lit (.int .u8 0), .lit (.int .u8 0), .lit (.int .u8 0), .lit (.int .u8 0), .lit (.int .u8 0), .lit (.int .u8 0), .lit (.int .u8 0), .lit (.int .u8 0), .lit (.int .u8 0), .lit (.int .u8 0), .lit (.int .u8 0), .lit (.int .u8 0), .lit (.int .u8 0), .lit (.int .u8 0), .lit (.int .u8 0), .lit (.int .u8 0), .lit (.int .u8 0), .lit (.int .u8 0), .lit (.int .u8 0), .lit (.int .u8 0), .lit (.int .u8 0), .lit (.int .u8 0), .lit (.int .u8 0), .lit (.int .u8 0), .lit (.int .u8 0), .lit (.int .u8 0), .lit (.int .u8 0), .lit (.int .u8 0), .lit (.int .u8 0), .lit (.int .u8 0), .lit (.int .u8 0), .lit (.int .u8 0), .lit (.int .u8 0), .lit (.int .u8 0), .lit (.int .u8 0), .lit (.int .u8 0), .lit (.int .u8 0), .lit (.int .u8 0), .lit (.int .u8 0), .lit (.int .u8 0), .lit (.int .u8 0), .lit (.int .u8 0), .lit (.int .u8 0), .lit (.int .u8 0), .lit (.int .u8 0), .lit (.int .u8 0), .lit (.int .u8 0), .lit (.int .u8 0), .lit (.int .u8 0), .lit (.int .u8 0), .lit (.int .u8 0), .lit (.int .u8 0), .lit (.int .u8 0), .lit (.int .u8 0), .lit (.int .u8 0), .lit (.int .u8 0), .lit (.int .u8 0), .lit (.int .u8 0), .lit (.int .u8 0), .lit (.int .u8 0), .lit (.int .u8 0), .lit (.int .u8 0), .lit (.int .u8 0), .lit (.int .u8 0), .lit (.int .u8 0), .lit (.int .u8 0), .lit (.int .u8 0), .lit (.int .u8 0), .lit (.int .u8 0), .lit (.int .u8 0), .lit (.int .u8 0), .lit (.int .u8 0), .lit (.int .u8 0), .lit (.int .u8 0), .lit (.int .u8 0), .lit (.int .u8 0), .lit (.int .u8 0), .lit (.int .u8 0), .lit (.int .u8 0), .lit (.int .u8 0), .lit (.int .u8 0), .lit (.int .u8 0), .lit (.int .u8 0), .lit (.int .u8 0), .lit (.int .u8 0), .lit (.int .u8 0), .lit (.int .u8 0), .lit (.int .u8 0), .lit (.int .u8 0), .lit (.int .u8 0), .lit (.int .u8 0), .lit (.int .u8 0), .lit (.int .u8 0), .lit (.int .u8 0), .lit (.int .u8 0), .lit (.int .u8 0), .lit (.int .u8 0), .lit (.int .u8 0), .lit (.int .u8 0), .lit (.int .u8 0), .lit (.int .u8 0), .lit (.int .u8 0), .lit (.int .u8 0), .lit (.int .u8 0), .lit (.int .u8 0), .lit (.int .u8 0), .lit (.int .u8 0), .lit (.int .u8 0), .lit (.int .u8 0), .lit (.int .u8 0), .lit (.int .u8 0), .lit (.int .u8 0), .lit (.int .u8 0), .lit (.int .u8 0), .lit (.int .u8 0), .lit (.int .u8 0), .lit (.int .u8 0), .lit (.int .u8 0), .lit (.int .u8 0), .lit (.int .u8 0), .lit (.int .u8 0), .lit (.int .u8 0), .lit (.int .u8 0), .lit (.int .u8 0), .lit (.int .u8 0), .lit (.int .u8 0), .lit (.int .u8 0), .lit (.int .u8 0), .lit (.int .u8 0), .lit (.int .u8 0), .lit (.int .u8 0), .lit (.int .u8 0), .lit (.int .u8 0), .lit (.int .u8 0), .lit (.int .u8 0), .lit (.int .u8 0), .lit (.int .u8 0), .lit (.int .u8 0), .lit (.int .u8 0), .lit (.int .u8 0), .lit (.int .u8 0), .lit (.int .u8 0), .lit (.int .u8 0), .lit (.int .u8 0), .lit (.int .u8 0)]

/-- 'laws.FnExactValidAid': WHATEVER THE INPUT: true; the input reads as it did. -/
def fnExactValidAidSpec : ChangeSpec := { name := "fnExactValidAid", fn := fun _ => fun
  | [d] => { results := [.lit (.bool true)], args := [d] }
  | _ => none }
def fnExactValidAidRow : OpenClaim := { program := "ytaooidgmphbegaagreatdoor", sum := "3979e2d14563e925e1e241b1812215be8a7bfcd088d404c4a1e1ae2e392599b8", func := "loop.example/g00953/laws.FnExactValidAid", spec := "fnExactValidAid", inPlace := ["internal/bytealg.IndexByteString", "internal/bytealg.IndexString"], unfollowed := true, recurses := true, named := ["strings.asciiSpace", "unicode.White_Space", "internal/bytealg.MaxLen"], apart := false, laid := [("unicode.White_Space", laid_unicode_White_Space), ("strings.asciiSpace", laid_strings_asciiSpace)] }
def FnExactValidAidSaid : Prop := fnExactValidAidRow.holds Tryz.pinned (OpenSpec.ofChange fnExactValidAidSpec)

/-- ITS FALSE NEIGHBOUR: 'it returns false'. Refute it at one input. -/
def fnExactValidAidWrong : ChangeSpec := { name := "fnExactValidAid", fn := fun _ => fun
  | [d] => { results := [.lit (.bool false)], args := [d] }
  | _ => none }
def FnExactValidAidWrongFalsely : Prop := fnExactValidAidRow.holds Tryz.pinned (OpenSpec.ofChange fnExactValidAidWrong)

/-- 'laws.FnExactHasLight': WHATEVER THE INPUT: true; the input reads as it did. -/
def fnExactHasLightSpec : ChangeSpec := { name := "fnExactHasLight", fn := fun _ => fun
  | [d] => { results := [.lit (.bool true)], args := [d] }
  | _ => none }
def fnExactHasLightRow : OpenClaim := { program := "ytaooidgmphbegaagreatdoor", sum := "3979e2d14563e925e1e241b1812215be8a7bfcd088d404c4a1e1ae2e392599b8", func := "loop.example/g00953/laws.FnExactHasLight", spec := "fnExactHasLight", inPlace := ["internal/bytealg.IndexByteString", "internal/bytealg.IndexString"], unfollowed := true, recurses := true, named := ["strings.asciiSpace", "unicode.White_Space", "internal/bytealg.MaxLen"], apart := false, laid := [("unicode.White_Space", laid_unicode_White_Space), ("strings.asciiSpace", laid_strings_asciiSpace)] }
def FnExactHasLightSaid : Prop := fnExactHasLightRow.holds Tryz.pinned (OpenSpec.ofChange fnExactHasLightSpec)

/-- ITS FALSE NEIGHBOUR: 'it returns false'. Refute it at one input. -/
def fnExactHasLightWrong : ChangeSpec := { name := "fnExactHasLight", fn := fun _ => fun
  | [d] => { results := [.lit (.bool false)], args := [d] }
  | _ => none }
def FnExactHasLightWrongFalsely : Prop := fnExactHasLightRow.holds Tryz.pinned (OpenSpec.ofChange fnExactHasLightWrong)

/-- 'laws.FnExactValidCorrection': WHATEVER THE INPUT: true; the input reads as it did. -/
def fnExactValidCorrectionSpec : ChangeSpec := { name := "fnExactValidCorrection", fn := fun _ => fun
  | [d] => { results := [.lit (.bool true)], args := [d] }
  | _ => none }
def fnExactValidCorrectionRow : OpenClaim := { program := "ytaooidgmphbegaagreatdoor", sum := "3979e2d14563e925e1e241b1812215be8a7bfcd088d404c4a1e1ae2e392599b8", func := "loop.example/g00953/laws.FnExactValidCorrection", spec := "fnExactValidCorrection", inPlace := ["internal/bytealg.IndexByteString", "internal/bytealg.IndexString"], unfollowed := true, recurses := true, named := ["strings.asciiSpace", "unicode.White_Space", "internal/bytealg.MaxLen"], apart := false, laid := [("unicode.White_Space", laid_unicode_White_Space), ("strings.asciiSpace", laid_strings_asciiSpace)] }
def FnExactValidCorrectionSaid : Prop := fnExactValidCorrectionRow.holds Tryz.pinned (OpenSpec.ofChange fnExactValidCorrectionSpec)

/-- ITS FALSE NEIGHBOUR: 'it returns false'. Refute it at one input. -/
def fnExactValidCorrectionWrong : ChangeSpec := { name := "fnExactValidCorrection", fn := fun _ => fun
  | [d] => { results := [.lit (.bool false)], args := [d] }
  | _ => none }
def FnExactValidCorrectionWrongFalsely : Prop := fnExactValidCorrectionRow.holds Tryz.pinned (OpenSpec.ofChange fnExactValidCorrectionWrong)

/-- 'laws.FnExactValidAids': WHATEVER THE INPUT: true; the input reads as it did. -/
def fnExactValidAidsSpec : ChangeSpec := { name := "fnExactValidAids", fn := fun _ => fun
  | [d] => { results := [.lit (.bool true)], args := [d] }
  | _ => none }
def fnExactValidAidsRow : OpenClaim := { program := "ytaooidgmphbegaagreatdoor", sum := "3979e2d14563e925e1e241b1812215be8a7bfcd088d404c4a1e1ae2e392599b8", func := "loop.example/g00953/laws.FnExactValidAids", spec := "fnExactValidAids", inPlace := ["internal/bytealg.IndexByteString", "internal/bytealg.IndexString"], unfollowed := true, recurses := true, named := ["strings.asciiSpace", "unicode.White_Space", "internal/bytealg.MaxLen"], apart := false, laid := [("unicode.White_Space", laid_unicode_White_Space), ("strings.asciiSpace", laid_strings_asciiSpace)] }
def FnExactValidAidsSaid : Prop := fnExactValidAidsRow.holds Tryz.pinned (OpenSpec.ofChange fnExactValidAidsSpec)

/-- ITS FALSE NEIGHBOUR: 'it returns false'. Refute it at one input. -/
def fnExactValidAidsWrong : ChangeSpec := { name := "fnExactValidAids", fn := fun _ => fun
  | [d] => { results := [.lit (.bool false)], args := [d] }
  | _ => none }
def FnExactValidAidsWrongFalsely : Prop := fnExactValidAidsRow.holds Tryz.pinned (OpenSpec.ofChange fnExactValidAidsWrong)

/-- 'laws.FnExactNearestAid': WHATEVER THE INPUT: true; the input reads as it did. -/
def fnExactNearestAidSpec : ChangeSpec := { name := "fnExactNearestAid", fn := fun _ => fun
  | [d1, d2] => { results := [.lit (.bool true)], args := [d1, d2] }
  | _ => none }
def fnExactNearestAidRow : OpenClaim := { program := "ytaooidgmphbegaagreatdoor", sum := "3979e2d14563e925e1e241b1812215be8a7bfcd088d404c4a1e1ae2e392599b8", func := "loop.example/g00953/laws.FnExactNearestAid", spec := "fnExactNearestAid", inPlace := ["internal/bytealg.IndexByteString", "internal/bytealg.IndexString"], unfollowed := true, recurses := true, named := ["strings.asciiSpace", "unicode.White_Space", "internal/bytealg.MaxLen"], apart := false, laid := [("unicode.White_Space", laid_unicode_White_Space), ("strings.asciiSpace", laid_strings_asciiSpace)] }
def FnExactNearestAidSaid : Prop := fnExactNearestAidRow.holds Tryz.pinned (OpenSpec.ofChange fnExactNearestAidSpec)

/-- ITS FALSE NEIGHBOUR: 'it returns false'. Refute it at one input. -/
def fnExactNearestAidWrong : ChangeSpec := { name := "fnExactNearestAid", fn := fun _ => fun
  | [d1, d2] => { results := [.lit (.bool false)], args := [d1, d2] }
  | _ => none }
def FnExactNearestAidWrongFalsely : Prop := fnExactNearestAidRow.holds Tryz.pinned (OpenSpec.ofChange fnExactNearestAidWrong)

/-- 'laws.FnExactValidEdition': WHATEVER THE INPUT: true; the input reads as it did. -/
def fnExactValidEditionSpec : ChangeSpec := { name := "fnExactValidEdition", fn := fun _ => fun
  | [d] => { results := [.lit (.bool true)], args := [d] }
  | _ => none }
def fnExactValidEditionRow : OpenClaim := { program := "ytaooidgmphbegaagreatdoor", sum := "3979e2d14563e925e1e241b1812215be8a7bfcd088d404c4a1e1ae2e392599b8", func := "loop.example/g00953/laws.FnExactValidEdition", spec := "fnExactValidEdition", inPlace := ["internal/bytealg.IndexByteString", "internal/bytealg.IndexString"], unfollowed := true, recurses := true, named := ["strings.asciiSpace", "unicode.White_Space", "internal/bytealg.MaxLen"], apart := false, laid := [("unicode.White_Space", laid_unicode_White_Space), ("strings.asciiSpace", laid_strings_asciiSpace)] }
def FnExactValidEditionSaid : Prop := fnExactValidEditionRow.holds Tryz.pinned (OpenSpec.ofChange fnExactValidEditionSpec)

/-- ITS FALSE NEIGHBOUR: 'it returns false'. Refute it at one input. -/
def fnExactValidEditionWrong : ChangeSpec := { name := "fnExactValidEdition", fn := fun _ => fun
  | [d] => { results := [.lit (.bool false)], args := [d] }
  | _ => none }
def FnExactValidEditionWrongFalsely : Prop := fnExactValidEditionRow.holds Tryz.pinned (OpenSpec.ofChange fnExactValidEditionWrong)

/-- 'laws.FnExactValidNotice': WHATEVER THE INPUT: true; the input reads as it did. -/
def fnExactValidNoticeSpec : ChangeSpec := { name := "fnExactValidNotice", fn := fun _ => fun
  | [d] => { results := [.lit (.bool true)], args := [d] }
  | _ => none }
def fnExactValidNoticeRow : OpenClaim := { program := "ytaooidgmphbegaagreatdoor", sum := "3979e2d14563e925e1e241b1812215be8a7bfcd088d404c4a1e1ae2e392599b8", func := "loop.example/g00953/laws.FnExactValidNotice", spec := "fnExactValidNotice", inPlace := ["internal/bytealg.IndexByteString", "internal/bytealg.IndexString"], unfollowed := true, recurses := true, named := ["strings.asciiSpace", "unicode.White_Space", "internal/bytealg.MaxLen"], apart := false, laid := [("unicode.White_Space", laid_unicode_White_Space), ("strings.asciiSpace", laid_strings_asciiSpace)] }
def FnExactValidNoticeSaid : Prop := fnExactValidNoticeRow.holds Tryz.pinned (OpenSpec.ofChange fnExactValidNoticeSpec)

/-- ITS FALSE NEIGHBOUR: 'it returns false'. Refute it at one input. -/
def fnExactValidNoticeWrong : ChangeSpec := { name := "fnExactValidNotice", fn := fun _ => fun
  | [d] => { results := [.lit (.bool false)], args := [d] }
  | _ => none }
def FnExactValidNoticeWrongFalsely : Prop := fnExactValidNoticeRow.holds Tryz.pinned (OpenSpec.ofChange fnExactValidNoticeWrong)

/-- 'laws.FnExactColorToward': WHATEVER THE INPUT: true; the input reads as it did. -/
def fnExactColorTowardSpec : ChangeSpec := { name := "fnExactColorToward", fn := fun _ => fun
  | [d1, d2] => { results := [.lit (.bool true)], args := [d1, d2] }
  | _ => none }
def fnExactColorTowardRow : OpenClaim := { program := "ytaooidgmphbegaagreatdoor", sum := "3979e2d14563e925e1e241b1812215be8a7bfcd088d404c4a1e1ae2e392599b8", func := "loop.example/g00953/laws.FnExactColorToward", spec := "fnExactColorToward", inPlace := ["internal/bytealg.IndexByteString", "internal/bytealg.IndexString"], unfollowed := true, recurses := true, named := ["strings.asciiSpace", "unicode.White_Space", "internal/bytealg.MaxLen"], apart := false, laid := [("unicode.White_Space", laid_unicode_White_Space), ("strings.asciiSpace", laid_strings_asciiSpace)] }
def FnExactColorTowardSaid : Prop := fnExactColorTowardRow.holds Tryz.pinned (OpenSpec.ofChange fnExactColorTowardSpec)

/-- ITS FALSE NEIGHBOUR: 'it returns false'. Refute it at one input. -/
def fnExactColorTowardWrong : ChangeSpec := { name := "fnExactColorToward", fn := fun _ => fun
  | [d1, d2] => { results := [.lit (.bool false)], args := [d1, d2] }
  | _ => none }
def FnExactColorTowardWrongFalsely : Prop := fnExactColorTowardRow.holds Tryz.pinned (OpenSpec.ofChange fnExactColorTowardWrong)

/-- 'laws.FnExactValidNotices': WHATEVER THE INPUT: true; the input reads as it did. -/
def fnExactValidNoticesSpec : ChangeSpec := { name := "fnExactValidNotices", fn := fun _ => fun
  | [d] => { results := [.lit (.bool true)], args := [d] }
  | _ => none }
def fnExactValidNoticesRow : OpenClaim := { program := "ytaooidgmphbegaagreatdoor", sum := "3979e2d14563e925e1e241b1812215be8a7bfcd088d404c4a1e1ae2e392599b8", func := "loop.example/g00953/laws.FnExactValidNotices", spec := "fnExactValidNotices", inPlace := ["internal/bytealg.IndexByteString", "internal/bytealg.IndexString"], unfollowed := true, recurses := true, named := ["strings.asciiSpace", "unicode.White_Space", "internal/bytealg.MaxLen"], apart := false, laid := [("unicode.White_Space", laid_unicode_White_Space), ("strings.asciiSpace", laid_strings_asciiSpace)] }
def FnExactValidNoticesSaid : Prop := fnExactValidNoticesRow.holds Tryz.pinned (OpenSpec.ofChange fnExactValidNoticesSpec)

/-- ITS FALSE NEIGHBOUR: 'it returns false'. Refute it at one input. -/
def fnExactValidNoticesWrong : ChangeSpec := { name := "fnExactValidNotices", fn := fun _ => fun
  | [d] => { results := [.lit (.bool false)], args := [d] }
  | _ => none }
def FnExactValidNoticesWrongFalsely : Prop := fnExactValidNoticesRow.holds Tryz.pinned (OpenSpec.ofChange fnExactValidNoticesWrong)

/-- 'laws.FnExactReachOf': WHATEVER THE INPUT: true; the input reads as it did. -/
def fnExactReachOfSpec : ChangeSpec := { name := "fnExactReachOf", fn := fun _ => fun
  | [d1, d2] => { results := [.lit (.bool true)], args := [d1, d2] }
  | _ => none }
def fnExactReachOfRow : OpenClaim := { program := "ytaooidgmphbegaagreatdoor", sum := "3979e2d14563e925e1e241b1812215be8a7bfcd088d404c4a1e1ae2e392599b8", func := "loop.example/g00953/laws.FnExactReachOf", spec := "fnExactReachOf", inPlace := ["internal/bytealg.IndexByteString", "internal/bytealg.IndexString"], unfollowed := true, recurses := true, named := ["strings.asciiSpace", "unicode.White_Space", "internal/bytealg.MaxLen"], apart := false, laid := [("unicode.White_Space", laid_unicode_White_Space), ("strings.asciiSpace", laid_strings_asciiSpace)] }
def FnExactReachOfSaid : Prop := fnExactReachOfRow.holds Tryz.pinned (OpenSpec.ofChange fnExactReachOfSpec)

/-- ITS FALSE NEIGHBOUR: 'it returns false'. Refute it at one input. -/
def fnExactReachOfWrong : ChangeSpec := { name := "fnExactReachOf", fn := fun _ => fun
  | [d1, d2] => { results := [.lit (.bool false)], args := [d1, d2] }
  | _ => none }
def FnExactReachOfWrongFalsely : Prop := fnExactReachOfRow.holds Tryz.pinned (OpenSpec.ofChange fnExactReachOfWrong)

/-- 'laws.FnExactMarksDanger': WHATEVER THE INPUT: true; the input reads as it did. -/
def fnExactMarksDangerSpec : ChangeSpec := { name := "fnExactMarksDanger", fn := fun _ => fun
  | [d1, d2, d3] => { results := [.lit (.bool true)], args := [d1, d2, d3] }
  | _ => none }
def fnExactMarksDangerRow : OpenClaim := { program := "ytaooidgmphbegaagreatdoor", sum := "3979e2d14563e925e1e241b1812215be8a7bfcd088d404c4a1e1ae2e392599b8", func := "loop.example/g00953/laws.FnExactMarksDanger", spec := "fnExactMarksDanger", inPlace := ["internal/bytealg.IndexByteString", "internal/bytealg.IndexString"], unfollowed := true, recurses := true, named := ["strings.asciiSpace", "unicode.White_Space", "internal/bytealg.MaxLen"], apart := false, laid := [("unicode.White_Space", laid_unicode_White_Space), ("strings.asciiSpace", laid_strings_asciiSpace)] }
def FnExactMarksDangerSaid : Prop := fnExactMarksDangerRow.holds Tryz.pinned (OpenSpec.ofChange fnExactMarksDangerSpec)

/-- ITS FALSE NEIGHBOUR: 'it returns false'. Refute it at one input. -/
def fnExactMarksDangerWrong : ChangeSpec := { name := "fnExactMarksDanger", fn := fun _ => fun
  | [d1, d2, d3] => { results := [.lit (.bool false)], args := [d1, d2, d3] }
  | _ => none }
def FnExactMarksDangerWrongFalsely : Prop := fnExactMarksDangerRow.holds Tryz.pinned (OpenSpec.ofChange fnExactMarksDangerWrong)

/-- 'laws.FnExactNextNumber': WHATEVER THE INPUT: true; the input reads as it did. -/
def fnExactNextNumberSpec : ChangeSpec := { name := "fnExactNextNumber", fn := fun _ => fun
  | [d] => { results := [.lit (.bool true)], args := [d] }
  | _ => none }
def fnExactNextNumberRow : OpenClaim := { program := "ytaooidgmphbegaagreatdoor", sum := "3979e2d14563e925e1e241b1812215be8a7bfcd088d404c4a1e1ae2e392599b8", func := "loop.example/g00953/laws.FnExactNextNumber", spec := "fnExactNextNumber", inPlace := ["internal/bytealg.IndexByteString", "internal/bytealg.IndexString"], unfollowed := true, recurses := true, named := ["strings.asciiSpace", "unicode.White_Space", "internal/bytealg.MaxLen"], apart := false, laid := [("unicode.White_Space", laid_unicode_White_Space), ("strings.asciiSpace", laid_strings_asciiSpace)] }
def FnExactNextNumberSaid : Prop := fnExactNextNumberRow.holds Tryz.pinned (OpenSpec.ofChange fnExactNextNumberSpec)

/-- ITS FALSE NEIGHBOUR: 'it returns false'. Refute it at one input. -/
def fnExactNextNumberWrong : ChangeSpec := { name := "fnExactNextNumber", fn := fun _ => fun
  | [d] => { results := [.lit (.bool false)], args := [d] }
  | _ => none }
def FnExactNextNumberWrongFalsely : Prop := fnExactNextNumberRow.holds Tryz.pinned (OpenSpec.ofChange fnExactNextNumberWrong)

/- THE SECOND FORM. 'bulk': how many values and letters a reading holds, each counted each time it is reached (what is shared counts as often as it is met; a slice's spare places count too). A statement '..UptoSaid' is the law's where the arguments, and the package variables that the reading takes, are together of bulk at most 1048576: NARROWER than '..Said'. Prove '..Said' where nothing that the law and all that it calls make is longer than what came in: it says more and counts as full. Else prove '..UptoSaid'. A law counts once. -/
mutual
def uptoBulk {H : Type} : DataW H → Nat
  | .lit (.string bytes) => bytes.length + 1
  | .lit _ => 1
  | .nil => 1
  | .ptr d => uptoBulk d + 1
  | .slice elems spare => uptoBulkAll elems + uptoBulkAll spare + 1
  | .agg parts => uptoBulkAll parts + 1
  | .iface _ d => uptoBulk d + 1
  | .map entries => uptoBulkEntries entries + 1
  | .held _ => 1
def uptoBulkAll {H : Type} : List (DataW H) → Nat
  | [] => 0
  | d :: r => uptoBulk d + uptoBulkAll r
def uptoBulkEntries {H : Type} : List (Lit × DataW H) → Nat
  | [] => 0
  | x :: r => uptoBulkEntry x + uptoBulkEntries r
def uptoBulkEntry {H : Type} : Lit × DataW H → Nat
  | (.string bytes, d) => bytes.length + uptoBulk d + 1
  | (_, d) => uptoBulk d + 1
 end
def uptoSmall : (H : Type) → List (DataW H) → Bool := fun _ ds => decide (uptoBulkAll ds ≤ 1048576)
def OpenSpec.upto (s : _root_.Go.ChangeSpec) : _root_.Go.OpenSpec := { _root_.Go.OpenSpec.ofChange s with cond := some uptoSmall }

/-- 'laws.FnExactValidAid', WHERE WHAT IT READS IS OF BULK AT MOST 1048576: true; the input reads as it did. -/
def fnExactValidAidUptoRow : OpenClaim := { program := "ytaooidgmphbegaagreatdoor", sum := "3979e2d14563e925e1e241b1812215be8a7bfcd088d404c4a1e1ae2e392599b8", func := "loop.example/g00953/laws.FnExactValidAid", spec := "fnExactValidAid", inPlace := ["internal/bytealg.IndexByteString", "internal/bytealg.IndexString"], unfollowed := true, recurses := true, named := ["strings.asciiSpace", "unicode.White_Space", "internal/bytealg.MaxLen"], apart := false, laid := [("unicode.White_Space", laid_unicode_White_Space), ("strings.asciiSpace", laid_strings_asciiSpace)], narrowed := true }
def FnExactValidAidUptoSaid : Prop := fnExactValidAidUptoRow.holds Tryz.pinned (OpenSpec.upto fnExactValidAidSpec)

/-- 'laws.FnExactHasLight', WHERE WHAT IT READS IS OF BULK AT MOST 1048576: true; the input reads as it did. -/
def fnExactHasLightUptoRow : OpenClaim := { program := "ytaooidgmphbegaagreatdoor", sum := "3979e2d14563e925e1e241b1812215be8a7bfcd088d404c4a1e1ae2e392599b8", func := "loop.example/g00953/laws.FnExactHasLight", spec := "fnExactHasLight", inPlace := ["internal/bytealg.IndexByteString", "internal/bytealg.IndexString"], unfollowed := true, recurses := true, named := ["strings.asciiSpace", "unicode.White_Space", "internal/bytealg.MaxLen"], apart := false, laid := [("unicode.White_Space", laid_unicode_White_Space), ("strings.asciiSpace", laid_strings_asciiSpace)], narrowed := true }
def FnExactHasLightUptoSaid : Prop := fnExactHasLightUptoRow.holds Tryz.pinned (OpenSpec.upto fnExactHasLightSpec)

/-- 'laws.FnExactValidCorrection', WHERE WHAT IT READS IS OF BULK AT MOST 1048576: true; the input reads as it did. -/
def fnExactValidCorrectionUptoRow : OpenClaim := { program := "ytaooidgmphbegaagreatdoor", sum := "3979e2d14563e925e1e241b1812215be8a7bfcd088d404c4a1e1ae2e392599b8", func := "loop.example/g00953/laws.FnExactValidCorrection", spec := "fnExactValidCorrection", inPlace := ["internal/bytealg.IndexByteString", "internal/bytealg.IndexString"], unfollowed := true, recurses := true, named := ["strings.asciiSpace", "unicode.White_Space", "internal/bytealg.MaxLen"], apart := false, laid := [("unicode.White_Space", laid_unicode_White_Space), ("strings.asciiSpace", laid_strings_asciiSpace)], narrowed := true }
def FnExactValidCorrectionUptoSaid : Prop := fnExactValidCorrectionUptoRow.holds Tryz.pinned (OpenSpec.upto fnExactValidCorrectionSpec)

/-- 'laws.FnExactValidAids', WHERE WHAT IT READS IS OF BULK AT MOST 1048576: true; the input reads as it did. -/
def fnExactValidAidsUptoRow : OpenClaim := { program := "ytaooidgmphbegaagreatdoor", sum := "3979e2d14563e925e1e241b1812215be8a7bfcd088d404c4a1e1ae2e392599b8", func := "loop.example/g00953/laws.FnExactValidAids", spec := "fnExactValidAids", inPlace := ["internal/bytealg.IndexByteString", "internal/bytealg.IndexString"], unfollowed := true, recurses := true, named := ["strings.asciiSpace", "unicode.White_Space", "internal/bytealg.MaxLen"], apart := false, laid := [("unicode.White_Space", laid_unicode_White_Space), ("strings.asciiSpace", laid_strings_asciiSpace)], narrowed := true }
def FnExactValidAidsUptoSaid : Prop := fnExactValidAidsUptoRow.holds Tryz.pinned (OpenSpec.upto fnExactValidAidsSpec)

/-- 'laws.FnExactNearestAid', WHERE WHAT IT READS IS OF BULK AT MOST 1048576: true; the input reads as it did. -/
def fnExactNearestAidUptoRow : OpenClaim := { program := "ytaooidgmphbegaagreatdoor", sum := "3979e2d14563e925e1e241b1812215be8a7bfcd088d404c4a1e1ae2e392599b8", func := "loop.example/g00953/laws.FnExactNearestAid", spec := "fnExactNearestAid", inPlace := ["internal/bytealg.IndexByteString", "internal/bytealg.IndexString"], unfollowed := true, recurses := true, named := ["strings.asciiSpace", "unicode.White_Space", "internal/bytealg.MaxLen"], apart := false, laid := [("unicode.White_Space", laid_unicode_White_Space), ("strings.asciiSpace", laid_strings_asciiSpace)], narrowed := true }
def FnExactNearestAidUptoSaid : Prop := fnExactNearestAidUptoRow.holds Tryz.pinned (OpenSpec.upto fnExactNearestAidSpec)

/-- 'laws.FnExactValidEdition', WHERE WHAT IT READS IS OF BULK AT MOST 1048576: true; the input reads as it did. -/
def fnExactValidEditionUptoRow : OpenClaim := { program := "ytaooidgmphbegaagreatdoor", sum := "3979e2d14563e925e1e241b1812215be8a7bfcd088d404c4a1e1ae2e392599b8", func := "loop.example/g00953/laws.FnExactValidEdition", spec := "fnExactValidEdition", inPlace := ["internal/bytealg.IndexByteString", "internal/bytealg.IndexString"], unfollowed := true, recurses := true, named := ["strings.asciiSpace", "unicode.White_Space", "internal/bytealg.MaxLen"], apart := false, laid := [("unicode.White_Space", laid_unicode_White_Space), ("strings.asciiSpace", laid_strings_asciiSpace)], narrowed := true }
def FnExactValidEditionUptoSaid : Prop := fnExactValidEditionUptoRow.holds Tryz.pinned (OpenSpec.upto fnExactValidEditionSpec)

/-- 'laws.FnExactValidNotice', WHERE WHAT IT READS IS OF BULK AT MOST 1048576: true; the input reads as it did. -/
def fnExactValidNoticeUptoRow : OpenClaim := { program := "ytaooidgmphbegaagreatdoor", sum := "3979e2d14563e925e1e241b1812215be8a7bfcd088d404c4a1e1ae2e392599b8", func := "loop.example/g00953/laws.FnExactValidNotice", spec := "fnExactValidNotice", inPlace := ["internal/bytealg.IndexByteString", "internal/bytealg.IndexString"], unfollowed := true, recurses := true, named := ["strings.asciiSpace", "unicode.White_Space", "internal/bytealg.MaxLen"], apart := false, laid := [("unicode.White_Space", laid_unicode_White_Space), ("strings.asciiSpace", laid_strings_asciiSpace)], narrowed := true }
def FnExactValidNoticeUptoSaid : Prop := fnExactValidNoticeUptoRow.holds Tryz.pinned (OpenSpec.upto fnExactValidNoticeSpec)

/-- 'laws.FnExactColorToward', WHERE WHAT IT READS IS OF BULK AT MOST 1048576: true; the input reads as it did. -/
def fnExactColorTowardUptoRow : OpenClaim := { program := "ytaooidgmphbegaagreatdoor", sum := "3979e2d14563e925e1e241b1812215be8a7bfcd088d404c4a1e1ae2e392599b8", func := "loop.example/g00953/laws.FnExactColorToward", spec := "fnExactColorToward", inPlace := ["internal/bytealg.IndexByteString", "internal/bytealg.IndexString"], unfollowed := true, recurses := true, named := ["strings.asciiSpace", "unicode.White_Space", "internal/bytealg.MaxLen"], apart := false, laid := [("unicode.White_Space", laid_unicode_White_Space), ("strings.asciiSpace", laid_strings_asciiSpace)], narrowed := true }
def FnExactColorTowardUptoSaid : Prop := fnExactColorTowardUptoRow.holds Tryz.pinned (OpenSpec.upto fnExactColorTowardSpec)

/-- 'laws.FnExactValidNotices', WHERE WHAT IT READS IS OF BULK AT MOST 1048576: true; the input reads as it did. -/
def fnExactValidNoticesUptoRow : OpenClaim := { program := "ytaooidgmphbegaagreatdoor", sum := "3979e2d14563e925e1e241b1812215be8a7bfcd088d404c4a1e1ae2e392599b8", func := "loop.example/g00953/laws.FnExactValidNotices", spec := "fnExactValidNotices", inPlace := ["internal/bytealg.IndexByteString", "internal/bytealg.IndexString"], unfollowed := true, recurses := true, named := ["strings.asciiSpace", "unicode.White_Space", "internal/bytealg.MaxLen"], apart := false, laid := [("unicode.White_Space", laid_unicode_White_Space), ("strings.asciiSpace", laid_strings_asciiSpace)], narrowed := true }
def FnExactValidNoticesUptoSaid : Prop := fnExactValidNoticesUptoRow.holds Tryz.pinned (OpenSpec.upto fnExactValidNoticesSpec)

/-- 'laws.FnExactReachOf', WHERE WHAT IT READS IS OF BULK AT MOST 1048576: true; the input reads as it did. -/
def fnExactReachOfUptoRow : OpenClaim := { program := "ytaooidgmphbegaagreatdoor", sum := "3979e2d14563e925e1e241b1812215be8a7bfcd088d404c4a1e1ae2e392599b8", func := "loop.example/g00953/laws.FnExactReachOf", spec := "fnExactReachOf", inPlace := ["internal/bytealg.IndexByteString", "internal/bytealg.IndexString"], unfollowed := true, recurses := true, named := ["strings.asciiSpace", "unicode.White_Space", "internal/bytealg.MaxLen"], apart := false, laid := [("unicode.White_Space", laid_unicode_White_Space), ("strings.asciiSpace", laid_strings_asciiSpace)], narrowed := true }
def FnExactReachOfUptoSaid : Prop := fnExactReachOfUptoRow.holds Tryz.pinned (OpenSpec.upto fnExactReachOfSpec)

/-- 'laws.FnExactMarksDanger', WHERE WHAT IT READS IS OF BULK AT MOST 1048576: true; the input reads as it did. -/
def fnExactMarksDangerUptoRow : OpenClaim := { program := "ytaooidgmphbegaagreatdoor", sum := "3979e2d14563e925e1e241b1812215be8a7bfcd088d404c4a1e1ae2e392599b8", func := "loop.example/g00953/laws.FnExactMarksDanger", spec := "fnExactMarksDanger", inPlace := ["internal/bytealg.IndexByteString", "internal/bytealg.IndexString"], unfollowed := true, recurses := true, named := ["strings.asciiSpace", "unicode.White_Space", "internal/bytealg.MaxLen"], apart := false, laid := [("unicode.White_Space", laid_unicode_White_Space), ("strings.asciiSpace", laid_strings_asciiSpace)], narrowed := true }
def FnExactMarksDangerUptoSaid : Prop := fnExactMarksDangerUptoRow.holds Tryz.pinned (OpenSpec.upto fnExactMarksDangerSpec)

/-- 'laws.FnExactNextNumber', WHERE WHAT IT READS IS OF BULK AT MOST 1048576: true; the input reads as it did. -/
def fnExactNextNumberUptoRow : OpenClaim := { program := "ytaooidgmphbegaagreatdoor", sum := "3979e2d14563e925e1e241b1812215be8a7bfcd088d404c4a1e1ae2e392599b8", func := "loop.example/g00953/laws.FnExactNextNumber", spec := "fnExactNextNumber", inPlace := ["internal/bytealg.IndexByteString", "internal/bytealg.IndexString"], unfollowed := true, recurses := true, named := ["strings.asciiSpace", "unicode.White_Space", "internal/bytealg.MaxLen"], apart := false, laid := [("unicode.White_Space", laid_unicode_White_Space), ("strings.asciiSpace", laid_strings_asciiSpace)], narrowed := true }
def FnExactNextNumberUptoSaid : Prop := fnExactNextNumberUptoRow.holds Tryz.pinned (OpenSpec.upto fnExactNextNumberSpec)

end Rows
end Go.Proofs.YtaooidgmphbegaaGreatDoor
