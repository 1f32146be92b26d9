/-
  DERIVED. GIVEN WITH THE SEED: THE PROGRAM's TIES (one call each: nine closed facts by the kernel) AND EACH ROW's TIE, after the 31st guide's Derived/Test/Toyas{Tie, Card}.lean. No idea stands in it: it is a product of the set-up. Laid BY PROGRAM, IN A SANDBOX (cutbox-door.mjs). By AI agents, Wed Nov 11 2026. No macro, syntax, notation, axiom, sorry.
-/
import Derived.Test.YtmcgmfjmjpbgaaaDoorRows
import Derived.LaidByTextLater
import Derived.SevenTiedAt
import Derived.LaidSub
import Derived.LaidOnce
namespace Go.Proofs.YtmcgmfjmjpbgaaaDoor
open Go
set_option maxRecDepth 100000
theorem seatTie1 : Tryd.prog.laidByTextLater [("securelink/hash.first256", Rows.laid_securelink_hash_first256), ("securelink/hash.first384", Rows.laid_securelink_hash_first384), ("securelink/hash.first512", Rows.laid_securelink_hash_first512), ("securelink/hash.sizes", Rows.laid_securelink_hash_sizes), ("securelink/mont.moduli", Rows.laid_securelink_mont_moduli), ("securelink/keys.suites", Rows.laid_securelink_keys_suites), ("securelink/msg.codecs", Rows.laid_securelink_msg_codecs)] [.data, .data, .data, .data, .data, .mapped, .mapped] true :=
  Program.laidByTextLater_by_one 141 8 53 (by kernel_rfl) (by kernel_rfl) (by kernel_rfl) (by kernel_rfl) (by kernel_rfl) (by kernel_rfl) (fun _ _ => by kernel_rfl)
theorem noOwnUnsafe : Tryd.pinned.checked.prog.headLifts.contains "ownunsafe" = false := by kernel_rfl
theorem tie : Tryd.prog.laidByTextLater [("securelink/mont.moduli", Rows.laid_securelink_mont_moduli)] [.data] true :=
  Program.laidByTextLater.sub seatTie1 ["securelink/mont.moduli"] (by kernel_rfl) (by kernel_rfl)
theorem nistPoints_row_tie : Rows.nistPointsRow.laidByTextAt .later Tryd.pinned [.data] true :=
  OpenClaim.laidByTextAt_later rfl rfl tie noOwnUnsafe
theorem nistAgrees_row_tie : Rows.nistAgreesRow.laidByTextAt .later Tryd.pinned [.data] true :=
  OpenClaim.laidByTextAt_later rfl rfl tie noOwnUnsafe
theorem nistMeets_row_tie : Rows.nistMeetsRow.laidByTextAt .later Tryd.pinned [.data] true :=
  OpenClaim.laidByTextAt_later rfl rfl tie noOwnUnsafe
theorem nistGroup_row_tie : Rows.nistGroupRow.laidByTextAt .later Tryd.pinned [.data] true :=
  OpenClaim.laidByTextAt_later rfl rfl tie noOwnUnsafe
theorem curveGroup_row_tie : Rows.curveGroupRow.laidByTextAt .later Tryd.pinned [.data] true :=
  OpenClaim.laidByTextAt_later rfl rfl tie noOwnUnsafe
theorem tie2 : Tryd.prog.laidByTextLater [("securelink/msg.codecs", Rows.laid_securelink_msg_codecs)] [.mapped] true :=
  Program.laidByTextLater.sub seatTie1 ["securelink/msg.codecs"] (by kernel_rfl) (by kernel_rfl)
theorem msgEncodes_row_tie : Rows.msgEncodesRow.laidByTextAt .later Tryd.pinned [.mapped] true :=
  OpenClaim.laidByTextAt_later rfl rfl tie2 noOwnUnsafe
theorem msgTurns_row_tie : Rows.msgTurnsRow.laidByTextAt .later Tryd.pinned [.mapped] true :=
  OpenClaim.laidByTextAt_later rfl rfl tie2 noOwnUnsafe
theorem tie3 : Tryd.prog.laidByTextLater [("securelink/hash.first256", Rows.laid_securelink_hash_first256), ("securelink/hash.first384", Rows.laid_securelink_hash_first384), ("securelink/hash.first512", Rows.laid_securelink_hash_first512), ("securelink/hash.sizes", Rows.laid_securelink_hash_sizes), ("securelink/keys.suites", Rows.laid_securelink_keys_suites)] [.data, .data, .data, .data, .mapped] true :=
  Program.laidByTextLater.sub seatTie1 ["securelink/hash.first256", "securelink/hash.first384", "securelink/hash.first512", "securelink/hash.sizes", "securelink/keys.suites"] (by kernel_rfl) (by kernel_rfl)
theorem keysExports_row_tie : Rows.keysExportsRow.laidByTextAt .later Tryd.pinned [.data, .data, .data, .data, .mapped] true :=
  OpenClaim.laidByTextAt_later rfl rfl tie3 noOwnUnsafe
theorem keysSecrets_row_tie : Rows.keysSecretsRow.laidByTextAt .later Tryd.pinned [.data, .data, .data, .data, .mapped] true :=
  OpenClaim.laidByTextAt_later rfl rfl tie3 noOwnUnsafe
theorem keysDerives_row_tie : Rows.keysDerivesRow.laidByTextAt .later Tryd.pinned [.data, .data, .data, .data, .mapped] true :=
  OpenClaim.laidByTextAt_later rfl rfl tie3 noOwnUnsafe
theorem tie4 : Tryd.prog.laidByTextLater [("securelink/hash.first256", Rows.laid_securelink_hash_first256), ("securelink/hash.first384", Rows.laid_securelink_hash_first384), ("securelink/hash.first512", Rows.laid_securelink_hash_first512), ("securelink/hash.sizes", Rows.laid_securelink_hash_sizes), ("securelink/msg.codecs", Rows.laid_securelink_msg_codecs)] [.data, .data, .data, .data, .mapped] true :=
  Program.laidByTextLater.sub seatTie1 ["securelink/hash.first256", "securelink/hash.first384", "securelink/hash.first512", "securelink/hash.sizes", "securelink/msg.codecs"] (by kernel_rfl) (by kernel_rfl)
theorem msgDecodes_row_tie : Rows.msgDecodesRow.laidByTextAt .later Tryd.pinned [.data, .data, .data, .data, .mapped] true :=
  OpenClaim.laidByTextAt_later rfl rfl tie4 noOwnUnsafe
theorem tie5 : Tryd.prog.laidByTextLater [("securelink/hash.first256", Rows.laid_securelink_hash_first256), ("securelink/hash.first384", Rows.laid_securelink_hash_first384), ("securelink/hash.first512", Rows.laid_securelink_hash_first512), ("securelink/hash.sizes", Rows.laid_securelink_hash_sizes), ("securelink/mont.moduli", Rows.laid_securelink_mont_moduli)] [.data, .data, .data, .data, .data] true :=
  Program.laidByTextLater.sub seatTie1 ["securelink/hash.first256", "securelink/hash.first384", "securelink/hash.first512", "securelink/hash.sizes", "securelink/mont.moduli"] (by kernel_rfl) (by kernel_rfl)
theorem curveTrue_row_tie : Rows.curveTrueRow.laidByTextAt .later Tryd.pinned [.data, .data, .data, .data, .data] true :=
  OpenClaim.laidByTextAt_later rfl rfl tie5 noOwnUnsafe
theorem nistPointsUpto_row_tie : Rows.nistPointsUptoRow.laidByTextAt .later Tryd.pinned [.data] true :=
  OpenClaim.laidByTextAt_later rfl rfl tie noOwnUnsafe
theorem nistAgreesUpto_row_tie : Rows.nistAgreesUptoRow.laidByTextAt .later Tryd.pinned [.data] true :=
  OpenClaim.laidByTextAt_later rfl rfl tie noOwnUnsafe
theorem nistMeetsUpto_row_tie : Rows.nistMeetsUptoRow.laidByTextAt .later Tryd.pinned [.data] true :=
  OpenClaim.laidByTextAt_later rfl rfl tie noOwnUnsafe
theorem nistGroupUpto_row_tie : Rows.nistGroupUptoRow.laidByTextAt .later Tryd.pinned [.data] true :=
  OpenClaim.laidByTextAt_later rfl rfl tie noOwnUnsafe
theorem curveGroupUpto_row_tie : Rows.curveGroupUptoRow.laidByTextAt .later Tryd.pinned [.data] true :=
  OpenClaim.laidByTextAt_later rfl rfl tie noOwnUnsafe
theorem msgEncodesUpto_row_tie : Rows.msgEncodesUptoRow.laidByTextAt .later Tryd.pinned [.mapped] true :=
  OpenClaim.laidByTextAt_later rfl rfl tie2 noOwnUnsafe
theorem keysExportsUpto_row_tie : Rows.keysExportsUptoRow.laidByTextAt .later Tryd.pinned [.data, .data, .data, .data, .mapped] true :=
  OpenClaim.laidByTextAt_later rfl rfl tie3 noOwnUnsafe
theorem keysSecretsUpto_row_tie : Rows.keysSecretsUptoRow.laidByTextAt .later Tryd.pinned [.data, .data, .data, .data, .mapped] true :=
  OpenClaim.laidByTextAt_later rfl rfl tie3 noOwnUnsafe
theorem keysDerivesUpto_row_tie : Rows.keysDerivesUptoRow.laidByTextAt .later Tryd.pinned [.data, .data, .data, .data, .mapped] true :=
  OpenClaim.laidByTextAt_later rfl rfl tie3 noOwnUnsafe
theorem msgTurnsUpto_row_tie : Rows.msgTurnsUptoRow.laidByTextAt .later Tryd.pinned [.mapped] true :=
  OpenClaim.laidByTextAt_later rfl rfl tie2 noOwnUnsafe
theorem msgDecodesUpto_row_tie : Rows.msgDecodesUptoRow.laidByTextAt .later Tryd.pinned [.data, .data, .data, .data, .mapped] true :=
  OpenClaim.laidByTextAt_later rfl rfl tie4 noOwnUnsafe
theorem curveTrueUpto_row_tie : Rows.curveTrueUptoRow.laidByTextAt .later Tryd.pinned [.data, .data, .data, .data, .data] true :=
  OpenClaim.laidByTextAt_later rfl rfl tie5 noOwnUnsafe
end Go.Proofs.YtmcgmfjmjpbgaaaDoor
