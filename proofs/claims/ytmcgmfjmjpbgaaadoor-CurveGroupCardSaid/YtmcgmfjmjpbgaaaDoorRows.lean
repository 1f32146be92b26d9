/-
  NARROWER THAN 'FOR EVERY INPUT', by the rows' own cells (each row's printed sentence says how): NistPoints: laid · NistAgrees: laid · NistMeets: laid · NistGroup: laid · CurveGroup: laid · MsgEncodes: laid · KeysExports: laid · KeysSecrets: laid · KeysDerives: laid · MsgTurns: laid · MsgDecodes: laid · CurveTrue: laid.
  DERIVED. THE GIVEN ROWS OF THIS SEAT. 12 by the template 'for every input the law returns true; each argument reads behind the call as it read before'; 0 by the template 'total and deterministic' (their statements: YtmcgmfjmjpbgaaaDoorTotals.lean).
  GIVEN WITH THE SEED: the statements are not yours to turn. If you find one false, say at which input.
  Laid BY PROGRAM, IN A SANDBOX (cutbox-rows.mjs): the forced cells as the released guide's own fill.sh prints them over the translation 0f60a48b683e9e35… (all of the seat's roots in one cut). By AI agents, Wed Nov 11 2026. No macro, syntax, notation, axiom, sorry.
-/
import Derived.Test.YtmcgmfjmjpbgaaaDoorChecked
import GoSem.Claim
import GoSem.ClaimJoined
import GoSem.ClaimMapViews
import Derived.JoinedTies
import Derived.KernelRfl
namespace Go.Proofs.YtmcgmfjmjpbgaaaDoor
/- THE CELL 'sum', in the pinned program and in every row, IS THE sha256 OF THE DUMP (.gsa) THAT YtmcgmfjmjpbgaaaDoorProg.lean LOADS. Nothing in Lean hashes anything: it is a label: what it is worth is what the hold of that sum in a sandbox is worth. -/
noncomputable def Tryd.pinned : Pinned := { name := "ytmcgmfjmjpbgaaadoor", sum := "0f60a48b683e9e354a1c322271321b892cb1f76c41359bca04cef7db5e89f5fe", checked := Tryd.checked }
namespace Rows
def none {H : Type} : Left H := { results := [], args := [] }

/- WHAT THE LISTED PACKAGE-LEVEL VARIABLES READ AS WHEN THE CALL BEGINS. Each datum BY PROGRAM (the guide's laid-datum.mjs) off the statement by which the dump's own 'gosem.cut.vars' lays the variable. In a bare row this is a premise. The card (YtmcgmfjmjpbgaaaDoorCards.lean) ties it to the program's text. -/
def laid_securelink_mont_moduli {H : Type} : DataW H := .agg [.agg [.agg [.lit (.int .u64 18446744073709551597), .lit (.int .u64 18446744073709551615), .lit (.int .u64 18446744073709551615), .lit (.int .u64 9223372036854775807)], .lit (.int .u64 9708812670373448219), .agg [.lit (.int .u64 38), .lit (.int .u64 0), .lit (.int .u64 0), .lit (.int .u64 0)], .agg [.lit (.int .u64 1444), .lit (.int .u64 0), .lit (.int .u64 0), .lit (.int .u64 0)]], .agg [.agg [.lit (.int .u64 6346243789798364141), .lit (.int .u64 1503914060200516822), .lit (.int .u64 0), .lit (.int .u64 1152921504606846976)], .lit (.int .u64 15183074304973897243), .agg [.lit (.int .u64 15486807595281847581), .lit (.int .u64 14334777244411350896), .lit (.int .u64 18446744073709551614), .lit (.int .u64 1152921504606846975)], .agg [.lit (.int .u64 11819153939886771969), .lit (.int .u64 14991950615390032711), .lit (.int .u64 14910419812499177061), .lit (.int .u64 259310039853996605)]], .agg [.agg [.lit (.int .u64 18446744073709551615), .lit (.int .u64 4294967295), .lit (.int .u64 0), .lit (.int .u64 18446744069414584321)], .lit (.int .u64 1), .agg [.lit (.int .u64 1), .lit (.int .u64 18446744069414584320), .lit (.int .u64 18446744073709551615), .lit (.int .u64 4294967294)], .agg [.lit (.int .u64 3), .lit (.int .u64 18446744056529682431), .lit (.int .u64 18446744073709551614), .lit (.int .u64 21474836477)]], .agg [.agg [.lit (.int .u64 17562291160714782033), .lit (.int .u64 13611842547513532036), .lit (.int .u64 18446744073709551615), .lit (.int .u64 18446744069414584320)], .lit (.int .u64 14758798090332847183), .agg [.lit (.int .u64 884452912994769583), .lit (.int .u64 4834901526196019579), .lit (.int .u64 0), .lit (.int .u64 4294967295)], .agg [.lit (.int .u64 9449762124159643298), .lit (.int .u64 5087230966250696614), .lit (.int .u64 2901921493521525849), .lit (.int .u64 7413256579398063648)]]]
def laid_securelink_msg_codecs {H : Type} : DataW H := .map [(.int .i64 1, .iface "securelink/msg.hello" (.agg [.lit (.bool false)])), (.int .i64 2, .iface "securelink/msg.hello" (.agg [.lit (.bool true)])), (.int .i64 4, .iface "securelink/msg.ticket" (.agg [])), (.int .i64 8, .iface "securelink/msg.plain" (.agg [.lit (.bool false)])), (.int .i64 11, .iface "securelink/msg.certificates" (.agg [])), (.int .i64 13, .iface "securelink/msg.plain" (.agg [.lit (.bool true)])), (.int .i64 15, .iface "securelink/msg.proof" (.agg [])), (.int .i64 20, .iface "securelink/msg.finished" (.agg [])), (.int .i64 24, .iface "securelink/msg.update" (.agg []))]
def laid_securelink_hash_first256 {H : Type} : DataW H := .agg [.lit (.int .u32 1779033703), .lit (.int .u32 3144134277), .lit (.int .u32 1013904242), .lit (.int .u32 2773480762), .lit (.int .u32 1359893119), .lit (.int .u32 2600822924), .lit (.int .u32 528734635), .lit (.int .u32 1541459225)]
def laid_securelink_hash_first384 {H : Type} : DataW H := .agg [.lit (.int .u64 14680500436340154072), .lit (.int .u64 7105036623409894663), .lit (.int .u64 10473403895298186519), .lit (.int .u64 1526699215303891257), .lit (.int .u64 7436329637833083697), .lit (.int .u64 10282925794625328401), .lit (.int .u64 15784041429090275239), .lit (.int .u64 5167115440072839076)]
def laid_securelink_hash_first512 {H : Type} : DataW H := .agg [.lit (.int .u64 7640891576956012808), .lit (.int .u64 13503953896175478587), .lit (.int .u64 4354685564936845355), .lit (.int .u64 11912009170470909681), .lit (.int .u64 5840696475078001361), .lit (.int .u64 11170449401992604703), .lit (.int .u64 2270897969802886507), .lit (.int .u64 6620516959819538809)]
def laid_securelink_hash_sizes {H : Type} : DataW H := .agg [.lit (.int .i64 32), .lit (.int .i64 48), .lit (.int .i64 64)]
def laid_securelink_keys_suites {H : Type} : DataW H := .map [(.int .i64 4865, .agg [.lit (.int .i64 0), .lit (.int .i64 16)]), (.int .i64 4866, .agg [.lit (.int .i64 1), .lit (.int .i64 32)]), (.int .i64 4867, .agg [.lit (.int .i64 0), .lit (.int .i64 32)])]

/-- 'securelinklaw6.NistPoints': WHATEVER THE INPUT: true; the input reads as it did. -/
def nistPointsSpec : ChangeSpec := { name := "nistPoints", fn := fun _ => fun
  | [d1, d2, d3] => { results := [.lit (.bool true)], args := [d1, d2, d3] }
  | _ => none }
def nistPointsRow : OpenClaim := { program := "ytmcgmfjmjpbgaaadoor", sum := "0f60a48b683e9e354a1c322271321b892cb1f76c41359bca04cef7db5e89f5fe", func := "securelink/securelinklaw6.NistPoints", spec := "nistPoints", inPlace := ["math/bits.Add64", "math/bits.Sub64"], unfollowed := true, recurses := true, named := ["securelink/mont.moduli"], apart := false, laid := [("securelink/mont.moduli", laid_securelink_mont_moduli)] }
def NistPointsSaid : Prop := nistPointsRow.holds Tryd.pinned (OpenSpec.ofChange nistPointsSpec)

/-- ITS FALSE NEIGHBOUR: 'it returns false'. Refute it at one input. -/
def nistPointsWrong : ChangeSpec := { name := "nistPoints", fn := fun _ => fun
  | [d1, d2, d3] => { results := [.lit (.bool false)], args := [d1, d2, d3] }
  | _ => none }
def NistPointsWrongFalsely : Prop := nistPointsRow.holds Tryd.pinned (OpenSpec.ofChange nistPointsWrong)

/-- 'securelinklaw6.NistAgrees': WHATEVER THE INPUT: true; the input reads as it did. -/
def nistAgreesSpec : ChangeSpec := { name := "nistAgrees", fn := fun _ => fun
  | [d1, d2] => { results := [.lit (.bool true)], args := [d1, d2] }
  | _ => none }
def nistAgreesRow : OpenClaim := { program := "ytmcgmfjmjpbgaaadoor", sum := "0f60a48b683e9e354a1c322271321b892cb1f76c41359bca04cef7db5e89f5fe", func := "securelink/securelinklaw6.NistAgrees", spec := "nistAgrees", inPlace := ["math/bits.Sub64", "math/bits.Add64"], unfollowed := true, recurses := true, named := ["securelink/mont.moduli"], apart := false, laid := [("securelink/mont.moduli", laid_securelink_mont_moduli)] }
def NistAgreesSaid : Prop := nistAgreesRow.holds Tryd.pinned (OpenSpec.ofChange nistAgreesSpec)

/-- ITS FALSE NEIGHBOUR: 'it returns false'. Refute it at one input. -/
def nistAgreesWrong : ChangeSpec := { name := "nistAgrees", fn := fun _ => fun
  | [d1, d2] => { results := [.lit (.bool false)], args := [d1, d2] }
  | _ => none }
def NistAgreesWrongFalsely : Prop := nistAgreesRow.holds Tryd.pinned (OpenSpec.ofChange nistAgreesWrong)

/-- 'securelinklaw6.NistMeets': WHATEVER THE INPUT: true; the input reads as it did. -/
def nistMeetsSpec : ChangeSpec := { name := "nistMeets", fn := fun _ => fun
  | [d1, d2] => { results := [.lit (.bool true)], args := [d1, d2] }
  | _ => none }
def nistMeetsRow : OpenClaim := { program := "ytmcgmfjmjpbgaaadoor", sum := "0f60a48b683e9e354a1c322271321b892cb1f76c41359bca04cef7db5e89f5fe", func := "securelink/securelinklaw6.NistMeets", spec := "nistMeets", inPlace := ["math/bits.Sub64", "math/bits.Add64"], unfollowed := true, recurses := true, named := ["securelink/mont.moduli"], apart := false, laid := [("securelink/mont.moduli", laid_securelink_mont_moduli)] }
def NistMeetsSaid : Prop := nistMeetsRow.holds Tryd.pinned (OpenSpec.ofChange nistMeetsSpec)

/-- ITS FALSE NEIGHBOUR: 'it returns false'. Refute it at one input. -/
def nistMeetsWrong : ChangeSpec := { name := "nistMeets", fn := fun _ => fun
  | [d1, d2] => { results := [.lit (.bool false)], args := [d1, d2] }
  | _ => none }
def NistMeetsWrongFalsely : Prop := nistMeetsRow.holds Tryd.pinned (OpenSpec.ofChange nistMeetsWrong)

/-- 'securelinklaw6.NistGroup': WHATEVER THE INPUT: true; the input reads as it did. -/
def nistGroupSpec : ChangeSpec := { name := "nistGroup", fn := fun _ => fun
  | [d1, d2, d3] => { results := [.lit (.bool true)], args := [d1, d2, d3] }
  | _ => none }
def nistGroupRow : OpenClaim := { program := "ytmcgmfjmjpbgaaadoor", sum := "0f60a48b683e9e354a1c322271321b892cb1f76c41359bca04cef7db5e89f5fe", func := "securelink/securelinklaw6.NistGroup", spec := "nistGroup", inPlace := ["math/bits.Sub64", "math/bits.Add64"], unfollowed := true, recurses := true, named := ["securelink/mont.moduli"], apart := false, laid := [("securelink/mont.moduli", laid_securelink_mont_moduli)] }
def NistGroupSaid : Prop := nistGroupRow.holds Tryd.pinned (OpenSpec.ofChange nistGroupSpec)

/-- ITS FALSE NEIGHBOUR: 'it returns false'. Refute it at one input. -/
def nistGroupWrong : ChangeSpec := { name := "nistGroup", fn := fun _ => fun
  | [d1, d2, d3] => { results := [.lit (.bool false)], args := [d1, d2, d3] }
  | _ => none }
def NistGroupWrongFalsely : Prop := nistGroupRow.holds Tryd.pinned (OpenSpec.ofChange nistGroupWrong)

/-- 'securelinklaw5.CurveGroup': WHATEVER THE INPUT: true; the input reads as it did. -/
def curveGroupSpec : ChangeSpec := { name := "curveGroup", fn := fun _ => fun
  | [d1, d2, d3] => { results := [.lit (.bool true)], args := [d1, d2, d3] }
  | _ => none }
def curveGroupRow : OpenClaim := { program := "ytmcgmfjmjpbgaaadoor", sum := "0f60a48b683e9e354a1c322271321b892cb1f76c41359bca04cef7db5e89f5fe", func := "securelink/securelinklaw5.CurveGroup", spec := "curveGroup", inPlace := ["math/bits.Add64", "math/bits.Sub64"], named := ["securelink/mont.moduli"], apart := false, laid := [("securelink/mont.moduli", laid_securelink_mont_moduli)] }
def CurveGroupSaid : Prop := curveGroupRow.holds Tryd.pinned (OpenSpec.ofChange curveGroupSpec)

/-- ITS FALSE NEIGHBOUR: 'it returns false'. Refute it at one input. -/
def curveGroupWrong : ChangeSpec := { name := "curveGroup", fn := fun _ => fun
  | [d1, d2, d3] => { results := [.lit (.bool false)], args := [d1, d2, d3] }
  | _ => none }
def CurveGroupWrongFalsely : Prop := curveGroupRow.holds Tryd.pinned (OpenSpec.ofChange curveGroupWrong)

/-- 'securelinklaw10.MsgEncodes': WHATEVER THE INPUT: true; the input reads as it did. -/
def msgEncodesSpec : ChangeSpec := { name := "msgEncodes", fn := fun _ => fun
  | [d] => { results := [.lit (.bool true)], args := [d] }
  | _ => none }
def msgEncodesRow : OpenClaim := { program := "ytmcgmfjmjpbgaaadoor", sum := "0f60a48b683e9e354a1c322271321b892cb1f76c41359bca04cef7db5e89f5fe", func := "securelink/securelinklaw10.MsgEncodes", spec := "msgEncodes", unfollowed := true, recurses := true, named := ["securelink/msg.codecs"], apart := false, laid := [("securelink/msg.codecs", laid_securelink_msg_codecs)] }
def MsgEncodesSaid : Prop := msgEncodesRow.holds Tryd.pinned (OpenSpec.ofChange msgEncodesSpec)

/-- ITS FALSE NEIGHBOUR: 'it returns false'. Refute it at one input. -/
def msgEncodesWrong : ChangeSpec := { name := "msgEncodes", fn := fun _ => fun
  | [d] => { results := [.lit (.bool false)], args := [d] }
  | _ => none }
def MsgEncodesWrongFalsely : Prop := msgEncodesRow.holds Tryd.pinned (OpenSpec.ofChange msgEncodesWrong)

/-- 'securelinklaw11.KeysExports': WHATEVER THE INPUT: true; the input reads as it did. -/
def keysExportsSpec : ChangeSpec := { name := "keysExports", fn := fun _ => fun
  | [d1, d2, d3, d4, d5] => { results := [.lit (.bool true)], args := [d1, d2, d3, d4, d5] }
  | _ => none }
def keysExportsRow : OpenClaim := { program := "ytmcgmfjmjpbgaaadoor", sum := "0f60a48b683e9e354a1c322271321b892cb1f76c41359bca04cef7db5e89f5fe", func := "securelink/securelinklaw11.KeysExports", spec := "keysExports", unfollowed := true, recurses := true, named := ["securelink/keys.suites", "securelink/hash.sizes", "securelink/hash.first256", "securelink/hash.first384", "securelink/hash.first512"], apart := false, laid := [("securelink/hash.first256", laid_securelink_hash_first256), ("securelink/hash.first384", laid_securelink_hash_first384), ("securelink/hash.first512", laid_securelink_hash_first512), ("securelink/hash.sizes", laid_securelink_hash_sizes), ("securelink/keys.suites", laid_securelink_keys_suites)] }
def KeysExportsSaid : Prop := keysExportsRow.holds Tryd.pinned (OpenSpec.ofChange keysExportsSpec)

/-- ITS FALSE NEIGHBOUR: 'it returns false'. Refute it at one input. -/
def keysExportsWrong : ChangeSpec := { name := "keysExports", fn := fun _ => fun
  | [d1, d2, d3, d4, d5] => { results := [.lit (.bool false)], args := [d1, d2, d3, d4, d5] }
  | _ => none }
def KeysExportsWrongFalsely : Prop := keysExportsRow.holds Tryd.pinned (OpenSpec.ofChange keysExportsWrong)

/-- 'securelinklaw11.KeysSecrets': WHATEVER THE INPUT: true; the input reads as it did. -/
def keysSecretsSpec : ChangeSpec := { name := "keysSecrets", fn := fun _ => fun
  | [d1, d2, d3, d4] => { results := [.lit (.bool true)], args := [d1, d2, d3, d4] }
  | _ => none }
def keysSecretsRow : OpenClaim := { program := "ytmcgmfjmjpbgaaadoor", sum := "0f60a48b683e9e354a1c322271321b892cb1f76c41359bca04cef7db5e89f5fe", func := "securelink/securelinklaw11.KeysSecrets", spec := "keysSecrets", unfollowed := true, recurses := true, named := ["securelink/keys.suites", "securelink/hash.sizes", "securelink/hash.first256", "securelink/hash.first384", "securelink/hash.first512"], apart := false, laid := [("securelink/hash.first256", laid_securelink_hash_first256), ("securelink/hash.first384", laid_securelink_hash_first384), ("securelink/hash.first512", laid_securelink_hash_first512), ("securelink/hash.sizes", laid_securelink_hash_sizes), ("securelink/keys.suites", laid_securelink_keys_suites)] }
def KeysSecretsSaid : Prop := keysSecretsRow.holds Tryd.pinned (OpenSpec.ofChange keysSecretsSpec)

/-- ITS FALSE NEIGHBOUR: 'it returns false'. Refute it at one input. -/
def keysSecretsWrong : ChangeSpec := { name := "keysSecrets", fn := fun _ => fun
  | [d1, d2, d3, d4] => { results := [.lit (.bool false)], args := [d1, d2, d3, d4] }
  | _ => none }
def KeysSecretsWrongFalsely : Prop := keysSecretsRow.holds Tryd.pinned (OpenSpec.ofChange keysSecretsWrong)

/-- 'securelinklaw11.KeysDerives': WHATEVER THE INPUT: true; the input reads as it did. -/
def keysDerivesSpec : ChangeSpec := { name := "keysDerives", fn := fun _ => fun
  | [d1, d2, d3, d4] => { results := [.lit (.bool true)], args := [d1, d2, d3, d4] }
  | _ => none }
def keysDerivesRow : OpenClaim := { program := "ytmcgmfjmjpbgaaadoor", sum := "0f60a48b683e9e354a1c322271321b892cb1f76c41359bca04cef7db5e89f5fe", func := "securelink/securelinklaw11.KeysDerives", spec := "keysDerives", unfollowed := true, recurses := true, named := ["securelink/keys.suites", "securelink/hash.sizes", "securelink/hash.first256", "securelink/hash.first384", "securelink/hash.first512"], apart := false, laid := [("securelink/hash.first256", laid_securelink_hash_first256), ("securelink/hash.first384", laid_securelink_hash_first384), ("securelink/hash.first512", laid_securelink_hash_first512), ("securelink/hash.sizes", laid_securelink_hash_sizes), ("securelink/keys.suites", laid_securelink_keys_suites)] }
def KeysDerivesSaid : Prop := keysDerivesRow.holds Tryd.pinned (OpenSpec.ofChange keysDerivesSpec)

/-- ITS FALSE NEIGHBOUR: 'it returns false'. Refute it at one input. -/
def keysDerivesWrong : ChangeSpec := { name := "keysDerives", fn := fun _ => fun
  | [d1, d2, d3, d4] => { results := [.lit (.bool false)], args := [d1, d2, d3, d4] }
  | _ => none }
def KeysDerivesWrongFalsely : Prop := keysDerivesRow.holds Tryd.pinned (OpenSpec.ofChange keysDerivesWrong)

/-- 'securelinklaw10.MsgTurns': WHATEVER THE INPUT: true; the input reads as it did. -/
def msgTurnsSpec : ChangeSpec := { name := "msgTurns", fn := fun _ => fun
  | [d1, d2, d3] => { results := [.lit (.bool true)], args := [d1, d2, d3] }
  | _ => none }
def msgTurnsRow : OpenClaim := { program := "ytmcgmfjmjpbgaaadoor", sum := "0f60a48b683e9e354a1c322271321b892cb1f76c41359bca04cef7db5e89f5fe", func := "securelink/securelinklaw10.MsgTurns", spec := "msgTurns", unfollowed := true, recurses := true, named := ["securelink/msg.codecs"], apart := false, laid := [("securelink/msg.codecs", laid_securelink_msg_codecs)] }
def MsgTurnsSaid : Prop := msgTurnsRow.holds Tryd.pinned (OpenSpec.ofChange msgTurnsSpec)

/-- ITS FALSE NEIGHBOUR: 'it returns false'. Refute it at one input. -/
def msgTurnsWrong : ChangeSpec := { name := "msgTurns", fn := fun _ => fun
  | [d1, d2, d3] => { results := [.lit (.bool false)], args := [d1, d2, d3] }
  | _ => none }
def MsgTurnsWrongFalsely : Prop := msgTurnsRow.holds Tryd.pinned (OpenSpec.ofChange msgTurnsWrong)

/-- 'securelinklaw10.MsgDecodes': WHATEVER THE INPUT: true; the input reads as it did. -/
def msgDecodesSpec : ChangeSpec := { name := "msgDecodes", fn := fun _ => fun
  | [d] => { results := [.lit (.bool true)], args := [d] }
  | _ => none }
def msgDecodesRow : OpenClaim := { program := "ytmcgmfjmjpbgaaadoor", sum := "0f60a48b683e9e354a1c322271321b892cb1f76c41359bca04cef7db5e89f5fe", func := "securelink/securelinklaw10.MsgDecodes", spec := "msgDecodes", unfollowed := true, recurses := true, named := ["securelink/msg.codecs", "securelink/hash.first256", "securelink/hash.first384", "securelink/hash.first512", "securelink/hash.sizes"], apart := false, laid := [("securelink/hash.first256", laid_securelink_hash_first256), ("securelink/hash.first384", laid_securelink_hash_first384), ("securelink/hash.first512", laid_securelink_hash_first512), ("securelink/hash.sizes", laid_securelink_hash_sizes), ("securelink/msg.codecs", laid_securelink_msg_codecs)] }
def MsgDecodesSaid : Prop := msgDecodesRow.holds Tryd.pinned (OpenSpec.ofChange msgDecodesSpec)

/-- ITS FALSE NEIGHBOUR: 'it returns false'. Refute it at one input. -/
def msgDecodesWrong : ChangeSpec := { name := "msgDecodes", fn := fun _ => fun
  | [d] => { results := [.lit (.bool false)], args := [d] }
  | _ => none }
def MsgDecodesWrongFalsely : Prop := msgDecodesRow.holds Tryd.pinned (OpenSpec.ofChange msgDecodesWrong)

/-- 'securelinklaw5.CurveTrue': WHATEVER THE INPUT: true; the input reads as it did. -/
def curveTrueSpec : ChangeSpec := { name := "curveTrue", fn := fun _ => fun
  | [d1, d2] => { results := [.lit (.bool true)], args := [d1, d2] }
  | _ => none }
def curveTrueRow : OpenClaim := { program := "ytmcgmfjmjpbgaaadoor", sum := "0f60a48b683e9e354a1c322271321b892cb1f76c41359bca04cef7db5e89f5fe", func := "securelink/securelinklaw5.CurveTrue", spec := "curveTrue", inPlace := ["math/bits.Add64", "math/bits.Sub64"], unfollowed := true, recurses := true, named := ["securelink/hash.first256", "securelink/hash.first384", "securelink/hash.first512", "securelink/hash.sizes", "securelink/mont.moduli"], apart := false, laid := [("securelink/hash.first256", laid_securelink_hash_first256), ("securelink/hash.first384", laid_securelink_hash_first384), ("securelink/hash.first512", laid_securelink_hash_first512), ("securelink/hash.sizes", laid_securelink_hash_sizes), ("securelink/mont.moduli", laid_securelink_mont_moduli)] }
def CurveTrueSaid : Prop := curveTrueRow.holds Tryd.pinned (OpenSpec.ofChange curveTrueSpec)

/-- ITS FALSE NEIGHBOUR: 'it returns false'. Refute it at one input. -/
def curveTrueWrong : ChangeSpec := { name := "curveTrue", fn := fun _ => fun
  | [d1, d2] => { results := [.lit (.bool false)], args := [d1, d2] }
  | _ => none }
def CurveTrueWrongFalsely : Prop := curveTrueRow.holds Tryd.pinned (OpenSpec.ofChange curveTrueWrong)

/- THE SECOND FORM. 'bulk': how many values and letters a reading holds, each counted each time it is reached (what is shared counts as often as it is met; a slice's spare places count too). A statement '..UptoSaid' is the law's where the arguments, and the package variables that the reading takes, are together of bulk at most 1048576: NARROWER than '..Said'. Prove '..Said' where nothing that the law and all that it calls make is longer than what came in: it says more and counts as full. Else prove '..UptoSaid'. A law counts once. -/
mutual
def uptoBulk {H : Type} : DataW H → Nat
  | .lit (.string bytes) => bytes.length + 1
  | .lit _ => 1
  | .nil => 1
  | .ptr d => uptoBulk d + 1
  | .slice elems spare => uptoBulkAll elems + uptoBulkAll spare + 1
  | .agg parts => uptoBulkAll parts + 1
  | .iface _ d => uptoBulk d + 1
  | .map entries => uptoBulkEntries entries + 1
  | .held _ => 1
def uptoBulkAll {H : Type} : List (DataW H) → Nat
  | [] => 0
  | d :: r => uptoBulk d + uptoBulkAll r
def uptoBulkEntries {H : Type} : List (Lit × DataW H) → Nat
  | [] => 0
  | x :: r => uptoBulkEntry x + uptoBulkEntries r
def uptoBulkEntry {H : Type} : Lit × DataW H → Nat
  | (.string bytes, d) => bytes.length + uptoBulk d + 1
  | (_, d) => uptoBulk d + 1
 end
def uptoSmall : (H : Type) → List (DataW H) → Bool := fun _ ds => decide (uptoBulkAll ds ≤ 1048576)
def OpenSpec.upto (s : _root_.Go.ChangeSpec) : _root_.Go.OpenSpec := { _root_.Go.OpenSpec.ofChange s with cond := some uptoSmall }

/-- 'securelinklaw6.NistPoints', WHERE WHAT IT READS IS OF BULK AT MOST 1048576: true; the input reads as it did. -/
def nistPointsUptoRow : OpenClaim := { program := "ytmcgmfjmjpbgaaadoor", sum := "0f60a48b683e9e354a1c322271321b892cb1f76c41359bca04cef7db5e89f5fe", func := "securelink/securelinklaw6.NistPoints", spec := "nistPoints", inPlace := ["math/bits.Add64", "math/bits.Sub64"], unfollowed := true, recurses := true, named := ["securelink/mont.moduli"], apart := false, laid := [("securelink/mont.moduli", laid_securelink_mont_moduli)], narrowed := true }
def NistPointsUptoSaid : Prop := nistPointsUptoRow.holds Tryd.pinned (OpenSpec.upto nistPointsSpec)

/-- 'securelinklaw6.NistAgrees', WHERE WHAT IT READS IS OF BULK AT MOST 1048576: true; the input reads as it did. -/
def nistAgreesUptoRow : OpenClaim := { program := "ytmcgmfjmjpbgaaadoor", sum := "0f60a48b683e9e354a1c322271321b892cb1f76c41359bca04cef7db5e89f5fe", func := "securelink/securelinklaw6.NistAgrees", spec := "nistAgrees", inPlace := ["math/bits.Sub64", "math/bits.Add64"], unfollowed := true, recurses := true, named := ["securelink/mont.moduli"], apart := false, laid := [("securelink/mont.moduli", laid_securelink_mont_moduli)], narrowed := true }
def NistAgreesUptoSaid : Prop := nistAgreesUptoRow.holds Tryd.pinned (OpenSpec.upto nistAgreesSpec)

/-- 'securelinklaw6.NistMeets', WHERE WHAT IT READS IS OF BULK AT MOST 1048576: true; the input reads as it did. -/
def nistMeetsUptoRow : OpenClaim := { program := "ytmcgmfjmjpbgaaadoor", sum := "0f60a48b683e9e354a1c322271321b892cb1f76c41359bca04cef7db5e89f5fe", func := "securelink/securelinklaw6.NistMeets", spec := "nistMeets", inPlace := ["math/bits.Sub64", "math/bits.Add64"], unfollowed := true, recurses := true, named := ["securelink/mont.moduli"], apart := false, laid := [("securelink/mont.moduli", laid_securelink_mont_moduli)], narrowed := true }
def NistMeetsUptoSaid : Prop := nistMeetsUptoRow.holds Tryd.pinned (OpenSpec.upto nistMeetsSpec)

/-- 'securelinklaw6.NistGroup', WHERE WHAT IT READS IS OF BULK AT MOST 1048576: true; the input reads as it did. -/
def nistGroupUptoRow : OpenClaim := { program := "ytmcgmfjmjpbgaaadoor", sum := "0f60a48b683e9e354a1c322271321b892cb1f76c41359bca04cef7db5e89f5fe", func := "securelink/securelinklaw6.NistGroup", spec := "nistGroup", inPlace := ["math/bits.Sub64", "math/bits.Add64"], unfollowed := true, recurses := true, named := ["securelink/mont.moduli"], apart := false, laid := [("securelink/mont.moduli", laid_securelink_mont_moduli)], narrowed := true }
def NistGroupUptoSaid : Prop := nistGroupUptoRow.holds Tryd.pinned (OpenSpec.upto nistGroupSpec)

/-- 'securelinklaw5.CurveGroup', WHERE WHAT IT READS IS OF BULK AT MOST 1048576: true; the input reads as it did. -/
def curveGroupUptoRow : OpenClaim := { program := "ytmcgmfjmjpbgaaadoor", sum := "0f60a48b683e9e354a1c322271321b892cb1f76c41359bca04cef7db5e89f5fe", func := "securelink/securelinklaw5.CurveGroup", spec := "curveGroup", inPlace := ["math/bits.Add64", "math/bits.Sub64"], named := ["securelink/mont.moduli"], apart := false, laid := [("securelink/mont.moduli", laid_securelink_mont_moduli)], narrowed := true }
def CurveGroupUptoSaid : Prop := curveGroupUptoRow.holds Tryd.pinned (OpenSpec.upto curveGroupSpec)

/-- 'securelinklaw10.MsgEncodes', WHERE WHAT IT READS IS OF BULK AT MOST 1048576: true; the input reads as it did. -/
def msgEncodesUptoRow : OpenClaim := { program := "ytmcgmfjmjpbgaaadoor", sum := "0f60a48b683e9e354a1c322271321b892cb1f76c41359bca04cef7db5e89f5fe", func := "securelink/securelinklaw10.MsgEncodes", spec := "msgEncodes", unfollowed := true, recurses := true, named := ["securelink/msg.codecs"], apart := false, laid := [("securelink/msg.codecs", laid_securelink_msg_codecs)], narrowed := true }
def MsgEncodesUptoSaid : Prop := msgEncodesUptoRow.holds Tryd.pinned (OpenSpec.upto msgEncodesSpec)

/-- 'securelinklaw11.KeysExports', WHERE WHAT IT READS IS OF BULK AT MOST 1048576: true; the input reads as it did. -/
def keysExportsUptoRow : OpenClaim := { program := "ytmcgmfjmjpbgaaadoor", sum := "0f60a48b683e9e354a1c322271321b892cb1f76c41359bca04cef7db5e89f5fe", func := "securelink/securelinklaw11.KeysExports", spec := "keysExports", unfollowed := true, recurses := true, named := ["securelink/keys.suites", "securelink/hash.sizes", "securelink/hash.first256", "securelink/hash.first384", "securelink/hash.first512"], apart := false, laid := [("securelink/hash.first256", laid_securelink_hash_first256), ("securelink/hash.first384", laid_securelink_hash_first384), ("securelink/hash.first512", laid_securelink_hash_first512), ("securelink/hash.sizes", laid_securelink_hash_sizes), ("securelink/keys.suites", laid_securelink_keys_suites)], narrowed := true }
def KeysExportsUptoSaid : Prop := keysExportsUptoRow.holds Tryd.pinned (OpenSpec.upto keysExportsSpec)

/-- 'securelinklaw11.KeysSecrets', WHERE WHAT IT READS IS OF BULK AT MOST 1048576: true; the input reads as it did. -/
def keysSecretsUptoRow : OpenClaim := { program := "ytmcgmfjmjpbgaaadoor", sum := "0f60a48b683e9e354a1c322271321b892cb1f76c41359bca04cef7db5e89f5fe", func := "securelink/securelinklaw11.KeysSecrets", spec := "keysSecrets", unfollowed := true, recurses := true, named := ["securelink/keys.suites", "securelink/hash.sizes", "securelink/hash.first256", "securelink/hash.first384", "securelink/hash.first512"], apart := false, laid := [("securelink/hash.first256", laid_securelink_hash_first256), ("securelink/hash.first384", laid_securelink_hash_first384), ("securelink/hash.first512", laid_securelink_hash_first512), ("securelink/hash.sizes", laid_securelink_hash_sizes), ("securelink/keys.suites", laid_securelink_keys_suites)], narrowed := true }
def KeysSecretsUptoSaid : Prop := keysSecretsUptoRow.holds Tryd.pinned (OpenSpec.upto keysSecretsSpec)

/-- 'securelinklaw11.KeysDerives', WHERE WHAT IT READS IS OF BULK AT MOST 1048576: true; the input reads as it did. -/
def keysDerivesUptoRow : OpenClaim := { program := "ytmcgmfjmjpbgaaadoor", sum := "0f60a48b683e9e354a1c322271321b892cb1f76c41359bca04cef7db5e89f5fe", func := "securelink/securelinklaw11.KeysDerives", spec := "keysDerives", unfollowed := true, recurses := true, named := ["securelink/keys.suites", "securelink/hash.sizes", "securelink/hash.first256", "securelink/hash.first384", "securelink/hash.first512"], apart := false, laid := [("securelink/hash.first256", laid_securelink_hash_first256), ("securelink/hash.first384", laid_securelink_hash_first384), ("securelink/hash.first512", laid_securelink_hash_first512), ("securelink/hash.sizes", laid_securelink_hash_sizes), ("securelink/keys.suites", laid_securelink_keys_suites)], narrowed := true }
def KeysDerivesUptoSaid : Prop := keysDerivesUptoRow.holds Tryd.pinned (OpenSpec.upto keysDerivesSpec)

/-- 'securelinklaw10.MsgTurns', WHERE WHAT IT READS IS OF BULK AT MOST 1048576: true; the input reads as it did. -/
def msgTurnsUptoRow : OpenClaim := { program := "ytmcgmfjmjpbgaaadoor", sum := "0f60a48b683e9e354a1c322271321b892cb1f76c41359bca04cef7db5e89f5fe", func := "securelink/securelinklaw10.MsgTurns", spec := "msgTurns", unfollowed := true, recurses := true, named := ["securelink/msg.codecs"], apart := false, laid := [("securelink/msg.codecs", laid_securelink_msg_codecs)], narrowed := true }
def MsgTurnsUptoSaid : Prop := msgTurnsUptoRow.holds Tryd.pinned (OpenSpec.upto msgTurnsSpec)

/-- 'securelinklaw10.MsgDecodes', WHERE WHAT IT READS IS OF BULK AT MOST 1048576: true; the input reads as it did. -/
def msgDecodesUptoRow : OpenClaim := { program := "ytmcgmfjmjpbgaaadoor", sum := "0f60a48b683e9e354a1c322271321b892cb1f76c41359bca04cef7db5e89f5fe", func := "securelink/securelinklaw10.MsgDecodes", spec := "msgDecodes", unfollowed := true, recurses := true, named := ["securelink/msg.codecs", "securelink/hash.first256", "securelink/hash.first384", "securelink/hash.first512", "securelink/hash.sizes"], apart := false, laid := [("securelink/hash.first256", laid_securelink_hash_first256), ("securelink/hash.first384", laid_securelink_hash_first384), ("securelink/hash.first512", laid_securelink_hash_first512), ("securelink/hash.sizes", laid_securelink_hash_sizes), ("securelink/msg.codecs", laid_securelink_msg_codecs)], narrowed := true }
def MsgDecodesUptoSaid : Prop := msgDecodesUptoRow.holds Tryd.pinned (OpenSpec.upto msgDecodesSpec)

/-- 'securelinklaw5.CurveTrue', WHERE WHAT IT READS IS OF BULK AT MOST 1048576: true; the input reads as it did. -/
def curveTrueUptoRow : OpenClaim := { program := "ytmcgmfjmjpbgaaadoor", sum := "0f60a48b683e9e354a1c322271321b892cb1f76c41359bca04cef7db5e89f5fe", func := "securelink/securelinklaw5.CurveTrue", spec := "curveTrue", inPlace := ["math/bits.Add64", "math/bits.Sub64"], unfollowed := true, recurses := true, named := ["securelink/hash.first256", "securelink/hash.first384", "securelink/hash.first512", "securelink/hash.sizes", "securelink/mont.moduli"], apart := false, laid := [("securelink/hash.first256", laid_securelink_hash_first256), ("securelink/hash.first384", laid_securelink_hash_first384), ("securelink/hash.first512", laid_securelink_hash_first512), ("securelink/hash.sizes", laid_securelink_hash_sizes), ("securelink/mont.moduli", laid_securelink_mont_moduli)], narrowed := true }
def CurveTrueUptoSaid : Prop := curveTrueUptoRow.holds Tryd.pinned (OpenSpec.upto curveTrueSpec)

end Rows
end Go.Proofs.YtmcgmfjmjpbgaaaDoor
