/-
  NARROWER THAN 'FOR EVERY INPUT', by the rows' own cells (each row's printed sentence says how): CarrierDerivesMatchReference: laid · CarrierOrder: laid · CarrierLies: laid · CarrierReads: laid · CarrierMatchesReference: laid · CarrierLearns: laid · CarrierReopens: laid · CarrierHolds: laid · CarrierOnce: laid · CarrierCrashes: laid.
  DERIVED. THE GIVEN ROWS OF THIS SEAT. 10 by the template 'for every input the law returns true; each argument reads behind the call as it read before'; 0 by the template 'total and deterministic' (their statements: YtoadhpnmbchgcaaGreatDoorTotals.lean).
  GIVEN WITH THE SEED: the statements are not yours to turn. If you find one false, say at which input.
  Laid BY PROGRAM, IN A SANDBOX (cutbox-rows.mjs): the forced cells as the released guide's own fill.sh prints them over the translation a8b2b0f645359fec… (all of the seat's roots in one cut). By AI agents, Wed Nov 11 2026. No macro, syntax, notation, axiom, sorry.
-/
import Derived.Test.YtoadhpnmbchgcaaGreatDoorChecked
import GoSem.PinnedTables
import GoSem.Claim
import GoSem.ClaimJoined
import GoSem.ClaimMapViews
import Derived.JoinedTies
import Derived.KernelRfl
namespace Go.Proofs.YtoadhpnmbchgcaaGreatDoor
/- THE CELL 'sum', in the pinned program and in every row, IS THE sha256 OF THE DUMP (.gsa) THAT YtoadhpnmbchgcaaGreatDoorProg.lean LOADS. Nothing in Lean hashes anything: it is a label: what it is worth is what the hold of that sum in a sandbox is worth. -/
noncomputable def Tryz.pinned : Pinned := { name := "ytoadhpnmbchgcaagreatdoor", sum := "a8b2b0f645359fece84ce6f0870901332b0481bc9f71edb892e9dc70b327730e", checked := Tryz.checked }
namespace Rows
def none {H : Type} : Left H := { results := [], args := [] }

/- WHAT THE LISTED PACKAGE-LEVEL VARIABLES READ AS WHEN THE CALL BEGINS. Each datum BY PROGRAM (the guide's laid-datum.mjs) off the statement by which the dump's own 'gosem.cut.vars' lays the variable. In a bare row this is a premise. The card (YtoadhpnmbchgcaaGreatDoorCards.lean) ties it to the program's text. -/
def laid_unicode_utf8_acceptRanges {H : Type} : DataW H := .agg [.agg [.lit (.int .u8 128), .lit (.int .u8 191)], .agg [.lit (.int .u8 160), .lit (.int .u8 191)], .agg [.lit (.int .u8 128), .lit (.int .u8 159)], .agg [.lit (.int .u8 144), .lit (.int .u8 191)], .agg [.lit (.int .u8 128), .lit (.int .u8 143)], .agg [.lit (.int .u8 0), .lit (.int .u8 0)], .agg [.lit (.int .u8 0), .lit (.int .u8 0)], .agg [.lit (.int .u8 0), .lit (.int .u8 0)], .agg [.lit (.int .u8 0), .lit (.int .u8 0)], .agg [.lit (.int .u8 0), .lit (.int .u8 0)], .agg [.lit (.int .u8 0), .lit (.int .u8 0)], .agg [.lit (.int .u8 0), .lit (.int .u8 0)], .agg [.lit (.int .u8 0), .lit (.int .u8 0)], .agg [.lit (.int .u8 0), .lit (.int .u8 0)], .agg [.lit (.int .u8 0), .lit (.int .u8 0)], .agg [.lit (.int .u8 0), .lit (.int .u8 0)]]
def laid_dialtone_digest_round {H : Type} : DataW H := .agg [.lit (.int .u32 1116352408), .lit (.int .u32 1899447441), .lit (.int .u32 3049323471), .lit (.int .u32 3921009573), .lit (.int .u32 961987163), .lit (.int .u32 1508970993), .lit (.int .u32 2453635748), .lit (.int .u32 2870763221), .lit (.int .u32 3624381080), .lit (.int .u32 310598401), .lit (.int .u32 607225278), .lit (.int .u32 1426881987), .lit (.int .u32 1925078388), .lit (.int .u32 2162078206), .lit (.int .u32 2614888103), .lit (.int .u32 3248222580), .lit (.int .u32 3835390401), .lit (.int .u32 4022224774), .lit (.int .u32 264347078), .lit (.int .u32 604807628), .lit (.int .u32 770255983), .lit (.int .u32 1249150122), .lit (.int .u32 1555081692), .lit (.int .u32 1996064986), .lit (.int .u32 2554220882), .lit (.int .u32 2821834349), .lit (.int .u32 2952996808), .lit (.int .u32 3210313671), .lit (.int .u32 3336571891), .lit (.int .u32 3584528711), .lit (.int .u32 113926993), .lit (.int .u32 338241895), .lit (.int .u32 666307205), .lit (.int .u32 773529912), .lit (.int .u32 1294757372), .lit (.int .u32 1396182291), .lit (.int .u32 1695183700), .lit (.int .u32 1986661051), .lit (.int .u32 2177026350), .lit (.int .u32 2456956037), .lit (.int .u32 2730485921), .lit (.int .u32 2820302411), .lit (.int .u32 3259730800), .lit (.int .u32 3345764771), .lit (.int .u32 3516065817), .lit (.int .u32 3600352804), .lit (.int .u32 4094571909), .lit (.int .u32 275423344), .lit (.int .u32 430227734), .lit (.int .u32 506948616), .lit (.int .u32 659060556), .lit (.int .u32 883997877), .lit (.int .u32 958139571), .lit (.int .u32 1322822218), .lit (.int .u32 1537002063), .lit (.int .u32 1747873779), .lit (.int .u32 1955562222), .lit (.int .u32 2024104815), .lit (.int .u32 2227730452), .lit (.int .u32 2361852424), .lit (.int .u32 2428436474), .lit (.int .u32 2756734187), .lit (.int .u32 3204031479), .lit (.int .u32 3329325298)]
def laid_dialtone_journal_errDamaged {H : Type} : DataW H := .iface "*errors.errorString" (.ptr (.agg [.lit (.string [100, 97, 109, 97, 103, 101, 100])]))
/-- One of Go's own tables, pinned by name: the form's constant. -/
def laid_unicode_utf8_first : DataW Unit := Go.Pinned.utf8First

/-- 'dialtonelaw43.CarrierDerivesMatchReference': WHATEVER THE INPUT: true; the input reads as it did. -/
def carrierDerivesMatchReferenceSpec : ChangeSpec := { name := "carrierDerivesMatchReference", fn := fun _ => fun
  | [d1, d2, d3, d4, d5, d6, d7, d8, d9] => { results := [.lit (.bool true)], args := [d1, d2, d3, d4, d5, d6, d7, d8, d9] }
  | _ => none }
def carrierDerivesMatchReferenceRow : OpenClaim := { program := "ytoadhpnmbchgcaagreatdoor", sum := "a8b2b0f645359fece84ce6f0870901332b0481bc9f71edb892e9dc70b327730e", func := "dialtone/dialtonelaw43.CarrierDerivesMatchReference", spec := "carrierDerivesMatchReference", inPlace := ["internal/reflectlite.TypeOf", "internal/abi.NoEscape", "internal/bytealg.MakeNoZero", "internal/bytealg.IndexByteString", "internal/bytealg.IndexString"], unfollowed := true, recurses := true, named := ["dialtone/journal.errDamaged", "dialtone/digest.round", "unicode/utf8.first", "unicode/utf8.acceptRanges", "internal/bytealg.MaxLen"], plainKeys := false, apart := false, laid := [("unicode/utf8.acceptRanges", laid_unicode_utf8_acceptRanges), ("dialtone/digest.round", laid_dialtone_digest_round), ("dialtone/journal.errDamaged", laid_dialtone_journal_errDamaged), ("unicode/utf8.first", laid_unicode_utf8_first)] }
def CarrierDerivesMatchReferenceSaid : Prop := carrierDerivesMatchReferenceRow.holds Tryz.pinned (OpenSpec.ofChange carrierDerivesMatchReferenceSpec)

/-- ITS FALSE NEIGHBOUR: 'it returns false'. Refute it at one input. -/
def carrierDerivesMatchReferenceWrong : ChangeSpec := { name := "carrierDerivesMatchReference", fn := fun _ => fun
  | [d1, d2, d3, d4, d5, d6, d7, d8, d9] => { results := [.lit (.bool false)], args := [d1, d2, d3, d4, d5, d6, d7, d8, d9] }
  | _ => none }
def CarrierDerivesMatchReferenceWrongFalsely : Prop := carrierDerivesMatchReferenceRow.holds Tryz.pinned (OpenSpec.ofChange carrierDerivesMatchReferenceWrong)

/-- 'dialtonelaw43.CarrierOrder': WHATEVER THE INPUT: true; the input reads as it did. -/
def carrierOrderSpec : ChangeSpec := { name := "carrierOrder", fn := fun _ => fun
  | [d1, d2, d3, d4, d5] => { results := [.lit (.bool true)], args := [d1, d2, d3, d4, d5] }
  | _ => none }
def carrierOrderRow : OpenClaim := { program := "ytoadhpnmbchgcaagreatdoor", sum := "a8b2b0f645359fece84ce6f0870901332b0481bc9f71edb892e9dc70b327730e", func := "dialtone/dialtonelaw43.CarrierOrder", spec := "carrierOrder", inPlace := ["internal/reflectlite.TypeOf", "internal/abi.NoEscape", "internal/bytealg.MakeNoZero", "internal/bytealg.IndexByteString", "internal/bytealg.IndexString"], unfollowed := true, recurses := true, named := ["dialtone/journal.errDamaged", "dialtone/digest.round", "unicode/utf8.first", "unicode/utf8.acceptRanges", "internal/bytealg.MaxLen"], plainKeys := false, apart := false, laid := [("unicode/utf8.acceptRanges", laid_unicode_utf8_acceptRanges), ("dialtone/digest.round", laid_dialtone_digest_round), ("dialtone/journal.errDamaged", laid_dialtone_journal_errDamaged), ("unicode/utf8.first", laid_unicode_utf8_first)] }
def CarrierOrderSaid : Prop := carrierOrderRow.holds Tryz.pinned (OpenSpec.ofChange carrierOrderSpec)

/-- ITS FALSE NEIGHBOUR: 'it returns false'. Refute it at one input. -/
def carrierOrderWrong : ChangeSpec := { name := "carrierOrder", fn := fun _ => fun
  | [d1, d2, d3, d4, d5] => { results := [.lit (.bool false)], args := [d1, d2, d3, d4, d5] }
  | _ => none }
def CarrierOrderWrongFalsely : Prop := carrierOrderRow.holds Tryz.pinned (OpenSpec.ofChange carrierOrderWrong)

/-- 'dialtonelaw43.CarrierLies': WHATEVER THE INPUT: true; the input reads as it did. -/
def carrierLiesSpec : ChangeSpec := { name := "carrierLies", fn := fun _ => fun
  | [d1, d2, d3, d4] => { results := [.lit (.bool true)], args := [d1, d2, d3, d4] }
  | _ => none }
def carrierLiesRow : OpenClaim := { program := "ytoadhpnmbchgcaagreatdoor", sum := "a8b2b0f645359fece84ce6f0870901332b0481bc9f71edb892e9dc70b327730e", func := "dialtone/dialtonelaw43.CarrierLies", spec := "carrierLies", inPlace := ["internal/reflectlite.TypeOf", "internal/abi.NoEscape", "internal/bytealg.MakeNoZero", "internal/bytealg.IndexByteString", "internal/bytealg.IndexString"], unfollowed := true, recurses := true, named := ["dialtone/journal.errDamaged", "dialtone/digest.round", "unicode/utf8.first", "unicode/utf8.acceptRanges", "internal/bytealg.MaxLen"], plainKeys := false, apart := false, laid := [("unicode/utf8.acceptRanges", laid_unicode_utf8_acceptRanges), ("dialtone/digest.round", laid_dialtone_digest_round), ("dialtone/journal.errDamaged", laid_dialtone_journal_errDamaged), ("unicode/utf8.first", laid_unicode_utf8_first)] }
def CarrierLiesSaid : Prop := carrierLiesRow.holds Tryz.pinned (OpenSpec.ofChange carrierLiesSpec)

/-- ITS FALSE NEIGHBOUR: 'it returns false'. Refute it at one input. -/
def carrierLiesWrong : ChangeSpec := { name := "carrierLies", fn := fun _ => fun
  | [d1, d2, d3, d4] => { results := [.lit (.bool false)], args := [d1, d2, d3, d4] }
  | _ => none }
def CarrierLiesWrongFalsely : Prop := carrierLiesRow.holds Tryz.pinned (OpenSpec.ofChange carrierLiesWrong)

/-- 'dialtonelaw43.CarrierReads': WHATEVER THE INPUT: true; the input reads as it did. -/
def carrierReadsSpec : ChangeSpec := { name := "carrierReads", fn := fun _ => fun
  | [d1, d2, d3, d4, d5] => { results := [.lit (.bool true)], args := [d1, d2, d3, d4, d5] }
  | _ => none }
def carrierReadsRow : OpenClaim := { program := "ytoadhpnmbchgcaagreatdoor", sum := "a8b2b0f645359fece84ce6f0870901332b0481bc9f71edb892e9dc70b327730e", func := "dialtone/dialtonelaw43.CarrierReads", spec := "carrierReads", inPlace := ["internal/reflectlite.TypeOf", "internal/abi.NoEscape", "internal/bytealg.MakeNoZero", "internal/bytealg.IndexByteString", "internal/bytealg.IndexString"], unfollowed := true, recurses := true, named := ["dialtone/journal.errDamaged", "dialtone/digest.round", "unicode/utf8.first", "unicode/utf8.acceptRanges", "internal/bytealg.MaxLen"], plainKeys := false, apart := false, laid := [("unicode/utf8.acceptRanges", laid_unicode_utf8_acceptRanges), ("dialtone/digest.round", laid_dialtone_digest_round), ("dialtone/journal.errDamaged", laid_dialtone_journal_errDamaged), ("unicode/utf8.first", laid_unicode_utf8_first)] }
def CarrierReadsSaid : Prop := carrierReadsRow.holds Tryz.pinned (OpenSpec.ofChange carrierReadsSpec)

/-- ITS FALSE NEIGHBOUR: 'it returns false'. Refute it at one input. -/
def carrierReadsWrong : ChangeSpec := { name := "carrierReads", fn := fun _ => fun
  | [d1, d2, d3, d4, d5] => { results := [.lit (.bool false)], args := [d1, d2, d3, d4, d5] }
  | _ => none }
def CarrierReadsWrongFalsely : Prop := carrierReadsRow.holds Tryz.pinned (OpenSpec.ofChange carrierReadsWrong)

/-- 'dialtonelaw43.CarrierMatchesReference': WHATEVER THE INPUT: true; the input reads as it did. -/
def carrierMatchesReferenceSpec : ChangeSpec := { name := "carrierMatchesReference", fn := fun _ => fun
  | [d1, d2, d3, d4] => { results := [.lit (.bool true)], args := [d1, d2, d3, d4] }
  | _ => none }
def carrierMatchesReferenceRow : OpenClaim := { program := "ytoadhpnmbchgcaagreatdoor", sum := "a8b2b0f645359fece84ce6f0870901332b0481bc9f71edb892e9dc70b327730e", func := "dialtone/dialtonelaw43.CarrierMatchesReference", spec := "carrierMatchesReference", inPlace := ["internal/reflectlite.TypeOf", "internal/abi.NoEscape", "internal/bytealg.MakeNoZero", "internal/bytealg.IndexByteString", "internal/bytealg.IndexString"], unfollowed := true, recurses := true, named := ["dialtone/journal.errDamaged", "dialtone/digest.round", "unicode/utf8.first", "unicode/utf8.acceptRanges", "internal/bytealg.MaxLen"], plainKeys := false, apart := false, laid := [("unicode/utf8.acceptRanges", laid_unicode_utf8_acceptRanges), ("dialtone/digest.round", laid_dialtone_digest_round), ("dialtone/journal.errDamaged", laid_dialtone_journal_errDamaged), ("unicode/utf8.first", laid_unicode_utf8_first)] }
def CarrierMatchesReferenceSaid : Prop := carrierMatchesReferenceRow.holds Tryz.pinned (OpenSpec.ofChange carrierMatchesReferenceSpec)

/-- ITS FALSE NEIGHBOUR: 'it returns false'. Refute it at one input. -/
def carrierMatchesReferenceWrong : ChangeSpec := { name := "carrierMatchesReference", fn := fun _ => fun
  | [d1, d2, d3, d4] => { results := [.lit (.bool false)], args := [d1, d2, d3, d4] }
  | _ => none }
def CarrierMatchesReferenceWrongFalsely : Prop := carrierMatchesReferenceRow.holds Tryz.pinned (OpenSpec.ofChange carrierMatchesReferenceWrong)

/-- 'dialtonelaw43.CarrierLearns': WHATEVER THE INPUT: true; the input reads as it did. -/
def carrierLearnsSpec : ChangeSpec := { name := "carrierLearns", fn := fun _ => fun
  | [d1, d2, d3, d4, d5] => { results := [.lit (.bool true)], args := [d1, d2, d3, d4, d5] }
  | _ => none }
def carrierLearnsRow : OpenClaim := { program := "ytoadhpnmbchgcaagreatdoor", sum := "a8b2b0f645359fece84ce6f0870901332b0481bc9f71edb892e9dc70b327730e", func := "dialtone/dialtonelaw43.CarrierLearns", spec := "carrierLearns", inPlace := ["internal/reflectlite.TypeOf", "internal/abi.NoEscape", "internal/bytealg.MakeNoZero", "internal/bytealg.IndexByteString", "internal/bytealg.IndexString"], unfollowed := true, recurses := true, named := ["dialtone/journal.errDamaged", "dialtone/digest.round", "unicode/utf8.first", "unicode/utf8.acceptRanges", "internal/bytealg.MaxLen"], plainKeys := false, apart := false, laid := [("unicode/utf8.acceptRanges", laid_unicode_utf8_acceptRanges), ("dialtone/digest.round", laid_dialtone_digest_round), ("dialtone/journal.errDamaged", laid_dialtone_journal_errDamaged), ("unicode/utf8.first", laid_unicode_utf8_first)] }
def CarrierLearnsSaid : Prop := carrierLearnsRow.holds Tryz.pinned (OpenSpec.ofChange carrierLearnsSpec)

/-- ITS FALSE NEIGHBOUR: 'it returns false'. Refute it at one input. -/
def carrierLearnsWrong : ChangeSpec := { name := "carrierLearns", fn := fun _ => fun
  | [d1, d2, d3, d4, d5] => { results := [.lit (.bool false)], args := [d1, d2, d3, d4, d5] }
  | _ => none }
def CarrierLearnsWrongFalsely : Prop := carrierLearnsRow.holds Tryz.pinned (OpenSpec.ofChange carrierLearnsWrong)

/-- 'dialtonelaw43.CarrierReopens': WHATEVER THE INPUT: true; the input reads as it did. -/
def carrierReopensSpec : ChangeSpec := { name := "carrierReopens", fn := fun _ => fun
  | [d1, d2, d3] => { results := [.lit (.bool true)], args := [d1, d2, d3] }
  | _ => none }
def carrierReopensRow : OpenClaim := { program := "ytoadhpnmbchgcaagreatdoor", sum := "a8b2b0f645359fece84ce6f0870901332b0481bc9f71edb892e9dc70b327730e", func := "dialtone/dialtonelaw43.CarrierReopens", spec := "carrierReopens", inPlace := ["internal/reflectlite.TypeOf", "internal/abi.NoEscape", "internal/bytealg.MakeNoZero", "internal/bytealg.IndexByteString", "internal/bytealg.IndexString"], unfollowed := true, recurses := true, named := ["dialtone/journal.errDamaged", "dialtone/digest.round", "unicode/utf8.first", "unicode/utf8.acceptRanges", "internal/bytealg.MaxLen"], plainKeys := false, apart := false, laid := [("unicode/utf8.acceptRanges", laid_unicode_utf8_acceptRanges), ("dialtone/digest.round", laid_dialtone_digest_round), ("dialtone/journal.errDamaged", laid_dialtone_journal_errDamaged), ("unicode/utf8.first", laid_unicode_utf8_first)] }
def CarrierReopensSaid : Prop := carrierReopensRow.holds Tryz.pinned (OpenSpec.ofChange carrierReopensSpec)

/-- ITS FALSE NEIGHBOUR: 'it returns false'. Refute it at one input. -/
def carrierReopensWrong : ChangeSpec := { name := "carrierReopens", fn := fun _ => fun
  | [d1, d2, d3] => { results := [.lit (.bool false)], args := [d1, d2, d3] }
  | _ => none }
def CarrierReopensWrongFalsely : Prop := carrierReopensRow.holds Tryz.pinned (OpenSpec.ofChange carrierReopensWrong)

/-- 'dialtonelaw43.CarrierHolds': WHATEVER THE INPUT: true; the input reads as it did. -/
def carrierHoldsSpec : ChangeSpec := { name := "carrierHolds", fn := fun _ => fun
  | [d1, d2, d3, d4, d5] => { results := [.lit (.bool true)], args := [d1, d2, d3, d4, d5] }
  | _ => none }
def carrierHoldsRow : OpenClaim := { program := "ytoadhpnmbchgcaagreatdoor", sum := "a8b2b0f645359fece84ce6f0870901332b0481bc9f71edb892e9dc70b327730e", func := "dialtone/dialtonelaw43.CarrierHolds", spec := "carrierHolds", inPlace := ["internal/reflectlite.TypeOf", "internal/abi.NoEscape", "internal/bytealg.MakeNoZero", "internal/bytealg.IndexByteString", "internal/bytealg.IndexString"], unfollowed := true, recurses := true, named := ["dialtone/journal.errDamaged", "dialtone/digest.round", "unicode/utf8.first", "unicode/utf8.acceptRanges", "internal/bytealg.MaxLen"], plainKeys := false, apart := false, laid := [("unicode/utf8.acceptRanges", laid_unicode_utf8_acceptRanges), ("dialtone/digest.round", laid_dialtone_digest_round), ("dialtone/journal.errDamaged", laid_dialtone_journal_errDamaged), ("unicode/utf8.first", laid_unicode_utf8_first)] }
def CarrierHoldsSaid : Prop := carrierHoldsRow.holds Tryz.pinned (OpenSpec.ofChange carrierHoldsSpec)

/-- ITS FALSE NEIGHBOUR: 'it returns false'. Refute it at one input. -/
def carrierHoldsWrong : ChangeSpec := { name := "carrierHolds", fn := fun _ => fun
  | [d1, d2, d3, d4, d5] => { results := [.lit (.bool false)], args := [d1, d2, d3, d4, d5] }
  | _ => none }
def CarrierHoldsWrongFalsely : Prop := carrierHoldsRow.holds Tryz.pinned (OpenSpec.ofChange carrierHoldsWrong)

/-- 'dialtonelaw43.CarrierOnce': WHATEVER THE INPUT: true; the input reads as it did. -/
def carrierOnceSpec : ChangeSpec := { name := "carrierOnce", fn := fun _ => fun
  | [d1, d2, d3] => { results := [.lit (.bool true)], args := [d1, d2, d3] }
  | _ => none }
def carrierOnceRow : OpenClaim := { program := "ytoadhpnmbchgcaagreatdoor", sum := "a8b2b0f645359fece84ce6f0870901332b0481bc9f71edb892e9dc70b327730e", func := "dialtone/dialtonelaw43.CarrierOnce", spec := "carrierOnce", inPlace := ["internal/reflectlite.TypeOf", "internal/abi.NoEscape", "internal/bytealg.MakeNoZero", "internal/bytealg.IndexByteString", "internal/bytealg.IndexString"], unfollowed := true, recurses := true, named := ["dialtone/journal.errDamaged", "dialtone/digest.round", "unicode/utf8.first", "unicode/utf8.acceptRanges", "internal/bytealg.MaxLen"], plainKeys := false, apart := false, laid := [("unicode/utf8.acceptRanges", laid_unicode_utf8_acceptRanges), ("dialtone/digest.round", laid_dialtone_digest_round), ("dialtone/journal.errDamaged", laid_dialtone_journal_errDamaged), ("unicode/utf8.first", laid_unicode_utf8_first)] }
def CarrierOnceSaid : Prop := carrierOnceRow.holds Tryz.pinned (OpenSpec.ofChange carrierOnceSpec)

/-- ITS FALSE NEIGHBOUR: 'it returns false'. Refute it at one input. -/
def carrierOnceWrong : ChangeSpec := { name := "carrierOnce", fn := fun _ => fun
  | [d1, d2, d3] => { results := [.lit (.bool false)], args := [d1, d2, d3] }
  | _ => none }
def CarrierOnceWrongFalsely : Prop := carrierOnceRow.holds Tryz.pinned (OpenSpec.ofChange carrierOnceWrong)

/-- 'dialtonelaw43.CarrierCrashes': WHATEVER THE INPUT: true; the input reads as it did. -/
def carrierCrashesSpec : ChangeSpec := { name := "carrierCrashes", fn := fun _ => fun
  | [d1, d2, d3, d4, d5] => { results := [.lit (.bool true)], args := [d1, d2, d3, d4, d5] }
  | _ => none }
def carrierCrashesRow : OpenClaim := { program := "ytoadhpnmbchgcaagreatdoor", sum := "a8b2b0f645359fece84ce6f0870901332b0481bc9f71edb892e9dc70b327730e", func := "dialtone/dialtonelaw43.CarrierCrashes", spec := "carrierCrashes", inPlace := ["internal/reflectlite.TypeOf", "internal/abi.NoEscape", "internal/bytealg.MakeNoZero", "internal/bytealg.IndexByteString", "internal/bytealg.IndexString"], unfollowed := true, recurses := true, named := ["dialtone/journal.errDamaged", "dialtone/digest.round", "unicode/utf8.first", "unicode/utf8.acceptRanges", "internal/bytealg.MaxLen"], plainKeys := false, apart := false, laid := [("unicode/utf8.acceptRanges", laid_unicode_utf8_acceptRanges), ("dialtone/digest.round", laid_dialtone_digest_round), ("dialtone/journal.errDamaged", laid_dialtone_journal_errDamaged), ("unicode/utf8.first", laid_unicode_utf8_first)] }
def CarrierCrashesSaid : Prop := carrierCrashesRow.holds Tryz.pinned (OpenSpec.ofChange carrierCrashesSpec)

/-- ITS FALSE NEIGHBOUR: 'it returns false'. Refute it at one input. -/
def carrierCrashesWrong : ChangeSpec := { name := "carrierCrashes", fn := fun _ => fun
  | [d1, d2, d3, d4, d5] => { results := [.lit (.bool false)], args := [d1, d2, d3, d4, d5] }
  | _ => none }
def CarrierCrashesWrongFalsely : Prop := carrierCrashesRow.holds Tryz.pinned (OpenSpec.ofChange carrierCrashesWrong)

/- THE SECOND FORM. 'bulk': how many values and letters a reading holds, each counted each time it is reached (what is shared counts as often as it is met; a slice's spare places count too). A statement '..UptoSaid' is the law's where the arguments, and the package variables that the reading takes, are together of bulk at most 1048576: NARROWER than '..Said'. Prove '..Said' where nothing that the law and all that it calls make is longer than what came in: it says more and counts as full. Else prove '..UptoSaid'. A law counts once. -/
mutual
def uptoBulk {H : Type} : DataW H → Nat
  | .lit (.string bytes) => bytes.length + 1
  | .lit _ => 1
  | .nil => 1
  | .ptr d => uptoBulk d + 1
  | .slice elems spare => uptoBulkAll elems + uptoBulkAll spare + 1
  | .agg parts => uptoBulkAll parts + 1
  | .iface _ d => uptoBulk d + 1
  | .map entries => uptoBulkEntries entries + 1
  | .held _ => 1
def uptoBulkAll {H : Type} : List (DataW H) → Nat
  | [] => 0
  | d :: r => uptoBulk d + uptoBulkAll r
def uptoBulkEntries {H : Type} : List (Lit × DataW H) → Nat
  | [] => 0
  | x :: r => uptoBulkEntry x + uptoBulkEntries r
def uptoBulkEntry {H : Type} : Lit × DataW H → Nat
  | (.string bytes, d) => bytes.length + uptoBulk d + 1
  | (_, d) => uptoBulk d + 1
 end
def uptoSmall : (H : Type) → List (DataW H) → Bool := fun _ ds => decide (uptoBulkAll ds ≤ 1048576)
def OpenSpec.upto (s : _root_.Go.ChangeSpec) : _root_.Go.OpenSpec := { _root_.Go.OpenSpec.ofChange s with cond := some uptoSmall }

/-- 'dialtonelaw43.CarrierDerivesMatchReference', WHERE WHAT IT READS IS OF BULK AT MOST 1048576: true; the input reads as it did. -/
def carrierDerivesMatchReferenceUptoRow : OpenClaim := { program := "ytoadhpnmbchgcaagreatdoor", sum := "a8b2b0f645359fece84ce6f0870901332b0481bc9f71edb892e9dc70b327730e", func := "dialtone/dialtonelaw43.CarrierDerivesMatchReference", spec := "carrierDerivesMatchReference", inPlace := ["internal/reflectlite.TypeOf", "internal/abi.NoEscape", "internal/bytealg.MakeNoZero", "internal/bytealg.IndexByteString", "internal/bytealg.IndexString"], unfollowed := true, recurses := true, named := ["dialtone/journal.errDamaged", "dialtone/digest.round", "unicode/utf8.first", "unicode/utf8.acceptRanges", "internal/bytealg.MaxLen"], plainKeys := false, apart := false, laid := [("unicode/utf8.acceptRanges", laid_unicode_utf8_acceptRanges), ("dialtone/digest.round", laid_dialtone_digest_round), ("dialtone/journal.errDamaged", laid_dialtone_journal_errDamaged), ("unicode/utf8.first", laid_unicode_utf8_first)], narrowed := true }
def CarrierDerivesMatchReferenceUptoSaid : Prop := carrierDerivesMatchReferenceUptoRow.holds Tryz.pinned (OpenSpec.upto carrierDerivesMatchReferenceSpec)

/-- 'dialtonelaw43.CarrierOrder', WHERE WHAT IT READS IS OF BULK AT MOST 1048576: true; the input reads as it did. -/
def carrierOrderUptoRow : OpenClaim := { program := "ytoadhpnmbchgcaagreatdoor", sum := "a8b2b0f645359fece84ce6f0870901332b0481bc9f71edb892e9dc70b327730e", func := "dialtone/dialtonelaw43.CarrierOrder", spec := "carrierOrder", inPlace := ["internal/reflectlite.TypeOf", "internal/abi.NoEscape", "internal/bytealg.MakeNoZero", "internal/bytealg.IndexByteString", "internal/bytealg.IndexString"], unfollowed := true, recurses := true, named := ["dialtone/journal.errDamaged", "dialtone/digest.round", "unicode/utf8.first", "unicode/utf8.acceptRanges", "internal/bytealg.MaxLen"], plainKeys := false, apart := false, laid := [("unicode/utf8.acceptRanges", laid_unicode_utf8_acceptRanges), ("dialtone/digest.round", laid_dialtone_digest_round), ("dialtone/journal.errDamaged", laid_dialtone_journal_errDamaged), ("unicode/utf8.first", laid_unicode_utf8_first)], narrowed := true }
def CarrierOrderUptoSaid : Prop := carrierOrderUptoRow.holds Tryz.pinned (OpenSpec.upto carrierOrderSpec)

/-- 'dialtonelaw43.CarrierLies', WHERE WHAT IT READS IS OF BULK AT MOST 1048576: true; the input reads as it did. -/
def carrierLiesUptoRow : OpenClaim := { program := "ytoadhpnmbchgcaagreatdoor", sum := "a8b2b0f645359fece84ce6f0870901332b0481bc9f71edb892e9dc70b327730e", func := "dialtone/dialtonelaw43.CarrierLies", spec := "carrierLies", inPlace := ["internal/reflectlite.TypeOf", "internal/abi.NoEscape", "internal/bytealg.MakeNoZero", "internal/bytealg.IndexByteString", "internal/bytealg.IndexString"], unfollowed := true, recurses := true, named := ["dialtone/journal.errDamaged", "dialtone/digest.round", "unicode/utf8.first", "unicode/utf8.acceptRanges", "internal/bytealg.MaxLen"], plainKeys := false, apart := false, laid := [("unicode/utf8.acceptRanges", laid_unicode_utf8_acceptRanges), ("dialtone/digest.round", laid_dialtone_digest_round), ("dialtone/journal.errDamaged", laid_dialtone_journal_errDamaged), ("unicode/utf8.first", laid_unicode_utf8_first)], narrowed := true }
def CarrierLiesUptoSaid : Prop := carrierLiesUptoRow.holds Tryz.pinned (OpenSpec.upto carrierLiesSpec)

/-- 'dialtonelaw43.CarrierReads', WHERE WHAT IT READS IS OF BULK AT MOST 1048576: true; the input reads as it did. -/
def carrierReadsUptoRow : OpenClaim := { program := "ytoadhpnmbchgcaagreatdoor", sum := "a8b2b0f645359fece84ce6f0870901332b0481bc9f71edb892e9dc70b327730e", func := "dialtone/dialtonelaw43.CarrierReads", spec := "carrierReads", inPlace := ["internal/reflectlite.TypeOf", "internal/abi.NoEscape", "internal/bytealg.MakeNoZero", "internal/bytealg.IndexByteString", "internal/bytealg.IndexString"], unfollowed := true, recurses := true, named := ["dialtone/journal.errDamaged", "dialtone/digest.round", "unicode/utf8.first", "unicode/utf8.acceptRanges", "internal/bytealg.MaxLen"], plainKeys := false, apart := false, laid := [("unicode/utf8.acceptRanges", laid_unicode_utf8_acceptRanges), ("dialtone/digest.round", laid_dialtone_digest_round), ("dialtone/journal.errDamaged", laid_dialtone_journal_errDamaged), ("unicode/utf8.first", laid_unicode_utf8_first)], narrowed := true }
def CarrierReadsUptoSaid : Prop := carrierReadsUptoRow.holds Tryz.pinned (OpenSpec.upto carrierReadsSpec)

/-- 'dialtonelaw43.CarrierMatchesReference', WHERE WHAT IT READS IS OF BULK AT MOST 1048576: true; the input reads as it did. -/
def carrierMatchesReferenceUptoRow : OpenClaim := { program := "ytoadhpnmbchgcaagreatdoor", sum := "a8b2b0f645359fece84ce6f0870901332b0481bc9f71edb892e9dc70b327730e", func := "dialtone/dialtonelaw43.CarrierMatchesReference", spec := "carrierMatchesReference", inPlace := ["internal/reflectlite.TypeOf", "internal/abi.NoEscape", "internal/bytealg.MakeNoZero", "internal/bytealg.IndexByteString", "internal/bytealg.IndexString"], unfollowed := true, recurses := true, named := ["dialtone/journal.errDamaged", "dialtone/digest.round", "unicode/utf8.first", "unicode/utf8.acceptRanges", "internal/bytealg.MaxLen"], plainKeys := false, apart := false, laid := [("unicode/utf8.acceptRanges", laid_unicode_utf8_acceptRanges), ("dialtone/digest.round", laid_dialtone_digest_round), ("dialtone/journal.errDamaged", laid_dialtone_journal_errDamaged), ("unicode/utf8.first", laid_unicode_utf8_first)], narrowed := true }
def CarrierMatchesReferenceUptoSaid : Prop := carrierMatchesReferenceUptoRow.holds Tryz.pinned (OpenSpec.upto carrierMatchesReferenceSpec)

/-- 'dialtonelaw43.CarrierLearns', WHERE WHAT IT READS IS OF BULK AT MOST 1048576: true; the input reads as it did. -/
def carrierLearnsUptoRow : OpenClaim := { program := "ytoadhpnmbchgcaagreatdoor", sum := "a8b2b0f645359fece84ce6f0870901332b0481bc9f71edb892e9dc70b327730e", func := "dialtone/dialtonelaw43.CarrierLearns", spec := "carrierLearns", inPlace := ["internal/reflectlite.TypeOf", "internal/abi.NoEscape", "internal/bytealg.MakeNoZero", "internal/bytealg.IndexByteString", "internal/bytealg.IndexString"], unfollowed := true, recurses := true, named := ["dialtone/journal.errDamaged", "dialtone/digest.round", "unicode/utf8.first", "unicode/utf8.acceptRanges", "internal/bytealg.MaxLen"], plainKeys := false, apart := false, laid := [("unicode/utf8.acceptRanges", laid_unicode_utf8_acceptRanges), ("dialtone/digest.round", laid_dialtone_digest_round), ("dialtone/journal.errDamaged", laid_dialtone_journal_errDamaged), ("unicode/utf8.first", laid_unicode_utf8_first)], narrowed := true }
def CarrierLearnsUptoSaid : Prop := carrierLearnsUptoRow.holds Tryz.pinned (OpenSpec.upto carrierLearnsSpec)

/-- 'dialtonelaw43.CarrierReopens', WHERE WHAT IT READS IS OF BULK AT MOST 1048576: true; the input reads as it did. -/
def carrierReopensUptoRow : OpenClaim := { program := "ytoadhpnmbchgcaagreatdoor", sum := "a8b2b0f645359fece84ce6f0870901332b0481bc9f71edb892e9dc70b327730e", func := "dialtone/dialtonelaw43.CarrierReopens", spec := "carrierReopens", inPlace := ["internal/reflectlite.TypeOf", "internal/abi.NoEscape", "internal/bytealg.MakeNoZero", "internal/bytealg.IndexByteString", "internal/bytealg.IndexString"], unfollowed := true, recurses := true, named := ["dialtone/journal.errDamaged", "dialtone/digest.round", "unicode/utf8.first", "unicode/utf8.acceptRanges", "internal/bytealg.MaxLen"], plainKeys := false, apart := false, laid := [("unicode/utf8.acceptRanges", laid_unicode_utf8_acceptRanges), ("dialtone/digest.round", laid_dialtone_digest_round), ("dialtone/journal.errDamaged", laid_dialtone_journal_errDamaged), ("unicode/utf8.first", laid_unicode_utf8_first)], narrowed := true }
def CarrierReopensUptoSaid : Prop := carrierReopensUptoRow.holds Tryz.pinned (OpenSpec.upto carrierReopensSpec)

/-- 'dialtonelaw43.CarrierHolds', WHERE WHAT IT READS IS OF BULK AT MOST 1048576: true; the input reads as it did. -/
def carrierHoldsUptoRow : OpenClaim := { program := "ytoadhpnmbchgcaagreatdoor", sum := "a8b2b0f645359fece84ce6f0870901332b0481bc9f71edb892e9dc70b327730e", func := "dialtone/dialtonelaw43.CarrierHolds", spec := "carrierHolds", inPlace := ["internal/reflectlite.TypeOf", "internal/abi.NoEscape", "internal/bytealg.MakeNoZero", "internal/bytealg.IndexByteString", "internal/bytealg.IndexString"], unfollowed := true, recurses := true, named := ["dialtone/journal.errDamaged", "dialtone/digest.round", "unicode/utf8.first", "unicode/utf8.acceptRanges", "internal/bytealg.MaxLen"], plainKeys := false, apart := false, laid := [("unicode/utf8.acceptRanges", laid_unicode_utf8_acceptRanges), ("dialtone/digest.round", laid_dialtone_digest_round), ("dialtone/journal.errDamaged", laid_dialtone_journal_errDamaged), ("unicode/utf8.first", laid_unicode_utf8_first)], narrowed := true }
def CarrierHoldsUptoSaid : Prop := carrierHoldsUptoRow.holds Tryz.pinned (OpenSpec.upto carrierHoldsSpec)

/-- 'dialtonelaw43.CarrierOnce', WHERE WHAT IT READS IS OF BULK AT MOST 1048576: true; the input reads as it did. -/
def carrierOnceUptoRow : OpenClaim := { program := "ytoadhpnmbchgcaagreatdoor", sum := "a8b2b0f645359fece84ce6f0870901332b0481bc9f71edb892e9dc70b327730e", func := "dialtone/dialtonelaw43.CarrierOnce", spec := "carrierOnce", inPlace := ["internal/reflectlite.TypeOf", "internal/abi.NoEscape", "internal/bytealg.MakeNoZero", "internal/bytealg.IndexByteString", "internal/bytealg.IndexString"], unfollowed := true, recurses := true, named := ["dialtone/journal.errDamaged", "dialtone/digest.round", "unicode/utf8.first", "unicode/utf8.acceptRanges", "internal/bytealg.MaxLen"], plainKeys := false, apart := false, laid := [("unicode/utf8.acceptRanges", laid_unicode_utf8_acceptRanges), ("dialtone/digest.round", laid_dialtone_digest_round), ("dialtone/journal.errDamaged", laid_dialtone_journal_errDamaged), ("unicode/utf8.first", laid_unicode_utf8_first)], narrowed := true }
def CarrierOnceUptoSaid : Prop := carrierOnceUptoRow.holds Tryz.pinned (OpenSpec.upto carrierOnceSpec)

/-- 'dialtonelaw43.CarrierCrashes', WHERE WHAT IT READS IS OF BULK AT MOST 1048576: true; the input reads as it did. -/
def carrierCrashesUptoRow : OpenClaim := { program := "ytoadhpnmbchgcaagreatdoor", sum := "a8b2b0f645359fece84ce6f0870901332b0481bc9f71edb892e9dc70b327730e", func := "dialtone/dialtonelaw43.CarrierCrashes", spec := "carrierCrashes", inPlace := ["internal/reflectlite.TypeOf", "internal/abi.NoEscape", "internal/bytealg.MakeNoZero", "internal/bytealg.IndexByteString", "internal/bytealg.IndexString"], unfollowed := true, recurses := true, named := ["dialtone/journal.errDamaged", "dialtone/digest.round", "unicode/utf8.first", "unicode/utf8.acceptRanges", "internal/bytealg.MaxLen"], plainKeys := false, apart := false, laid := [("unicode/utf8.acceptRanges", laid_unicode_utf8_acceptRanges), ("dialtone/digest.round", laid_dialtone_digest_round), ("dialtone/journal.errDamaged", laid_dialtone_journal_errDamaged), ("unicode/utf8.first", laid_unicode_utf8_first)], narrowed := true }
def CarrierCrashesUptoSaid : Prop := carrierCrashesUptoRow.holds Tryz.pinned (OpenSpec.upto carrierCrashesSpec)

end Rows
end Go.Proofs.YtoadhpnmbchgcaaGreatDoor
