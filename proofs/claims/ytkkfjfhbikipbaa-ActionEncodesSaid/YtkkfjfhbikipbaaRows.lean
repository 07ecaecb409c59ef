/-
  No cell of these rows narrows 'for every input' (looked for: loops, veiled, ifaces, maps, wideKeys, modest, calm, conditions, laid).
  DERIVED. THE GIVEN ROWS OF THIS SEAT. 21 by the template 'for every input the law returns true; each argument reads behind the call as it read before'; 0 by the template 'total and deterministic' (their statements: YtkkfjfhbikipbaaTotals.lean).
  GIVEN WITH THE SEED: the statements are not yours to turn. If you find one false, say at which input.
  Laid BY PROGRAM, IN A SANDBOX (cutbox-rows.mjs): the forced cells as the released guide's own fill.sh prints them over the translation 87c972eec745b70a… (all of the seat's roots in one cut). By AI agents, Wed Nov 11 2026. No macro, syntax, notation, axiom, sorry.
-/
import Derived.Test.YtkkfjfhbikipbaaChecked
import GoSem.Claim
import GoSem.ClaimJoined
import GoSem.ClaimMapViews
import Derived.JoinedTies
import Derived.KernelRfl
namespace Go.Proofs.Ytkkfjfhbikipbaa
/- THE CELL 'sum', in the pinned program and in every row, IS THE sha256 OF THE DUMP (.gsa) THAT YtkkfjfhbikipbaaProg.lean LOADS. Nothing in Lean hashes anything: it is a label: what it is worth is what the hold of that sum in a sandbox is worth. -/
noncomputable def Try.pinned : Pinned := { name := "ytkkfjfhbikipbaa", sum := "87c972eec745b70a99d2a20556575a7c81ccbfa36132535c4e7072c783576e43", checked := Try.checked }
namespace Rows
def none {H : Type} : Left H := { results := [], args := [] }

/-- 'appleloftlaw.WordBytes': WHATEVER THE INPUT: true; the input reads as it did. -/
def wordBytesSpec : ChangeSpec := { name := "wordBytes", fn := fun _ => fun
  | [d1, d2] => { results := [.lit (.bool true)], args := [d1, d2] }
  | _ => none }
def wordBytesRow : OpenClaim := { program := "ytkkfjfhbikipbaa", sum := "87c972eec745b70a99d2a20556575a7c81ccbfa36132535c4e7072c783576e43", func := "appleloft/appleloftlaw.WordBytes", spec := "wordBytes", apart := false }
def WordBytesSaid : Prop := wordBytesRow.holds Try.pinned (OpenSpec.ofChange wordBytesSpec)

/-- ITS FALSE NEIGHBOUR: 'it returns false'. Refute it at one input. -/
def wordBytesWrong : ChangeSpec := { name := "wordBytes", fn := fun _ => fun
  | [d1, d2] => { results := [.lit (.bool false)], args := [d1, d2] }
  | _ => none }
def WordBytesWrongFalsely : Prop := wordBytesRow.holds Try.pinned (OpenSpec.ofChange wordBytesWrong)

/-- 'appleloftlaw.HexTexts': WHATEVER THE INPUT: true; the input reads as it did. -/
def hexTextsSpec : ChangeSpec := { name := "hexTexts", fn := fun _ => fun
  | [d1, d2] => { results := [.lit (.bool true)], args := [d1, d2] }
  | _ => none }
def hexTextsRow : OpenClaim := { program := "ytkkfjfhbikipbaa", sum := "87c972eec745b70a99d2a20556575a7c81ccbfa36132535c4e7072c783576e43", func := "appleloft/appleloftlaw.HexTexts", spec := "hexTexts", inPlace := ["internal/abi.NoEscape", "internal/bytealg.IndexByteString"], apart := false }
def HexTextsSaid : Prop := hexTextsRow.holds Try.pinned (OpenSpec.ofChange hexTextsSpec)

/-- ITS FALSE NEIGHBOUR: 'it returns false'. Refute it at one input. -/
def hexTextsWrong : ChangeSpec := { name := "hexTexts", fn := fun _ => fun
  | [d1, d2] => { results := [.lit (.bool false)], args := [d1, d2] }
  | _ => none }
def HexTextsWrongFalsely : Prop := hexTextsRow.holds Try.pinned (OpenSpec.ofChange hexTextsWrong)

/-- 'appleloftlaw.ShaPads': WHATEVER THE INPUT: true; the input reads as it did. -/
def shaPadsSpec : ChangeSpec := { name := "shaPads", fn := fun _ => fun
  | [d] => { results := [.lit (.bool true)], args := [d] }
  | _ => none }
def shaPadsRow : OpenClaim := { program := "ytkkfjfhbikipbaa", sum := "87c972eec745b70a99d2a20556575a7c81ccbfa36132535c4e7072c783576e43", func := "appleloft/appleloftlaw.ShaPads", spec := "shaPads", inPlace := ["math/bits.Add64"], apart := false }
def ShaPadsSaid : Prop := shaPadsRow.holds Try.pinned (OpenSpec.ofChange shaPadsSpec)

/-- ITS FALSE NEIGHBOUR: 'it returns false'. Refute it at one input. -/
def shaPadsWrong : ChangeSpec := { name := "shaPads", fn := fun _ => fun
  | [d] => { results := [.lit (.bool false)], args := [d] }
  | _ => none }
def ShaPadsWrongFalsely : Prop := shaPadsRow.holds Try.pinned (OpenSpec.ofChange shaPadsWrong)

/-- 'appleloftlaw.ManifestChecks': WHATEVER THE INPUT: true; the input reads as it did. -/
def manifestChecksSpec : ChangeSpec := { name := "manifestChecks", fn := fun _ => fun
  | [d1, d2] => { results := [.lit (.bool true)], args := [d1, d2] }
  | _ => none }
def manifestChecksRow : OpenClaim := { program := "ytkkfjfhbikipbaa", sum := "87c972eec745b70a99d2a20556575a7c81ccbfa36132535c4e7072c783576e43", func := "appleloft/appleloftlaw.ManifestChecks", spec := "manifestChecks", inPlace := ["internal/bytealg.IndexByteString"], apart := false }
def ManifestChecksSaid : Prop := manifestChecksRow.holds Try.pinned (OpenSpec.ofChange manifestChecksSpec)

/-- ITS FALSE NEIGHBOUR: 'it returns false'. Refute it at one input. -/
def manifestChecksWrong : ChangeSpec := { name := "manifestChecks", fn := fun _ => fun
  | [d1, d2] => { results := [.lit (.bool false)], args := [d1, d2] }
  | _ => none }
def ManifestChecksWrongFalsely : Prop := manifestChecksRow.holds Try.pinned (OpenSpec.ofChange manifestChecksWrong)

/-- 'appleloftlaw.IndexChecks': WHATEVER THE INPUT: true; the input reads as it did. -/
def indexChecksSpec : ChangeSpec := { name := "indexChecks", fn := fun _ => fun
  | [d] => { results := [.lit (.bool true)], args := [d] }
  | _ => none }
def indexChecksRow : OpenClaim := { program := "ytkkfjfhbikipbaa", sum := "87c972eec745b70a99d2a20556575a7c81ccbfa36132535c4e7072c783576e43", func := "appleloft/appleloftlaw.IndexChecks", spec := "indexChecks", inPlace := ["internal/bytealg.IndexByteString"], apart := false }
def IndexChecksSaid : Prop := indexChecksRow.holds Try.pinned (OpenSpec.ofChange indexChecksSpec)

/-- ITS FALSE NEIGHBOUR: 'it returns false'. Refute it at one input. -/
def indexChecksWrong : ChangeSpec := { name := "indexChecks", fn := fun _ => fun
  | [d] => { results := [.lit (.bool false)], args := [d] }
  | _ => none }
def IndexChecksWrongFalsely : Prop := indexChecksRow.holds Try.pinned (OpenSpec.ofChange indexChecksWrong)

/-- 'appleloftlaw.ShaSteps': WHATEVER THE INPUT: true; the input reads as it did. -/
def shaStepsSpec : ChangeSpec := { name := "shaSteps", fn := fun _ => fun
  | [d1, d2] => { results := [.lit (.bool true)], args := [d1, d2] }
  | _ => none }
def shaStepsRow : OpenClaim := { program := "ytkkfjfhbikipbaa", sum := "87c972eec745b70a99d2a20556575a7c81ccbfa36132535c4e7072c783576e43", func := "appleloft/appleloftlaw.ShaSteps", spec := "shaSteps", inPlace := ["math/bits.Add64"], apart := false }
def ShaStepsSaid : Prop := shaStepsRow.holds Try.pinned (OpenSpec.ofChange shaStepsSpec)

/-- ITS FALSE NEIGHBOUR: 'it returns false'. Refute it at one input. -/
def shaStepsWrong : ChangeSpec := { name := "shaSteps", fn := fun _ => fun
  | [d1, d2] => { results := [.lit (.bool false)], args := [d1, d2] }
  | _ => none }
def ShaStepsWrongFalsely : Prop := shaStepsRow.holds Try.pinned (OpenSpec.ofChange shaStepsWrong)

/-- 'appleloftlaw.ManifestEncodes': WHATEVER THE INPUT: true; the input reads as it did. -/
def manifestEncodesSpec : ChangeSpec := { name := "manifestEncodes", fn := fun _ => fun
  | [d] => { results := [.lit (.bool true)], args := [d] }
  | _ => none }
def manifestEncodesRow : OpenClaim := { program := "ytkkfjfhbikipbaa", sum := "87c972eec745b70a99d2a20556575a7c81ccbfa36132535c4e7072c783576e43", func := "appleloft/appleloftlaw.ManifestEncodes", spec := "manifestEncodes", inPlace := ["internal/bytealg.IndexByteString"], unfollowed := true, recurses := true, apart := false }
def ManifestEncodesSaid : Prop := manifestEncodesRow.holds Try.pinned (OpenSpec.ofChange manifestEncodesSpec)

/-- ITS FALSE NEIGHBOUR: 'it returns false'. Refute it at one input. -/
def manifestEncodesWrong : ChangeSpec := { name := "manifestEncodes", fn := fun _ => fun
  | [d] => { results := [.lit (.bool false)], args := [d] }
  | _ => none }
def ManifestEncodesWrongFalsely : Prop := manifestEncodesRow.holds Try.pinned (OpenSpec.ofChange manifestEncodesWrong)

/-- 'appleloftlaw.FlightChecks': WHATEVER THE INPUT: true; the input reads as it did. -/
def flightChecksSpec : ChangeSpec := { name := "flightChecks", fn := fun _ => fun
  | [d1, d2] => { results := [.lit (.bool true)], args := [d1, d2] }
  | _ => none }
def flightChecksRow : OpenClaim := { program := "ytkkfjfhbikipbaa", sum := "87c972eec745b70a99d2a20556575a7c81ccbfa36132535c4e7072c783576e43", func := "appleloft/appleloftlaw.FlightChecks", spec := "flightChecks", inPlace := ["internal/bytealg.IndexByteString"], unfollowed := true, recurses := true, apart := false }
def FlightChecksSaid : Prop := flightChecksRow.holds Try.pinned (OpenSpec.ofChange flightChecksSpec)

/-- ITS FALSE NEIGHBOUR: 'it returns false'. Refute it at one input. -/
def flightChecksWrong : ChangeSpec := { name := "flightChecks", fn := fun _ => fun
  | [d1, d2] => { results := [.lit (.bool false)], args := [d1, d2] }
  | _ => none }
def FlightChecksWrongFalsely : Prop := flightChecksRow.holds Try.pinned (OpenSpec.ofChange flightChecksWrong)

/-- 'appleloftlaw.ShaSums': WHATEVER THE INPUT: true; the input reads as it did. -/
def shaSumsSpec : ChangeSpec := { name := "shaSums", fn := fun _ => fun
  | [d] => { results := [.lit (.bool true)], args := [d] }
  | _ => none }
def shaSumsRow : OpenClaim := { program := "ytkkfjfhbikipbaa", sum := "87c972eec745b70a99d2a20556575a7c81ccbfa36132535c4e7072c783576e43", func := "appleloft/appleloftlaw.ShaSums", spec := "shaSums", inPlace := ["internal/abi.NoEscape"], apart := false }
def ShaSumsSaid : Prop := shaSumsRow.holds Try.pinned (OpenSpec.ofChange shaSumsSpec)

/-- ITS FALSE NEIGHBOUR: 'it returns false'. Refute it at one input. -/
def shaSumsWrong : ChangeSpec := { name := "shaSums", fn := fun _ => fun
  | [d] => { results := [.lit (.bool false)], args := [d] }
  | _ => none }
def ShaSumsWrongFalsely : Prop := shaSumsRow.holds Try.pinned (OpenSpec.ofChange shaSumsWrong)

/-- 'appleloftlaw.FlightLands': WHATEVER THE INPUT: true; the input reads as it did. -/
def flightLandsSpec : ChangeSpec := { name := "flightLands", fn := fun _ => fun
  | [d1, d2] => { results := [.lit (.bool true)], args := [d1, d2] }
  | _ => none }
def flightLandsRow : OpenClaim := { program := "ytkkfjfhbikipbaa", sum := "87c972eec745b70a99d2a20556575a7c81ccbfa36132535c4e7072c783576e43", func := "appleloft/appleloftlaw.FlightLands", spec := "flightLands", inPlace := ["internal/bytealg.IndexByteString"], unfollowed := true, recurses := true, apart := false }
def FlightLandsSaid : Prop := flightLandsRow.holds Try.pinned (OpenSpec.ofChange flightLandsSpec)

/-- ITS FALSE NEIGHBOUR: 'it returns false'. Refute it at one input. -/
def flightLandsWrong : ChangeSpec := { name := "flightLands", fn := fun _ => fun
  | [d1, d2] => { results := [.lit (.bool false)], args := [d1, d2] }
  | _ => none }
def FlightLandsWrongFalsely : Prop := flightLandsRow.holds Try.pinned (OpenSpec.ofChange flightLandsWrong)

/-- 'appleloftlaw.ActionEncodes': WHATEVER THE INPUT: true; the input reads as it did. -/
def actionEncodesSpec : ChangeSpec := { name := "actionEncodes", fn := fun _ => fun
  | [d] => { results := [.lit (.bool true)], args := [d] }
  | _ => none }
def actionEncodesRow : OpenClaim := { program := "ytkkfjfhbikipbaa", sum := "87c972eec745b70a99d2a20556575a7c81ccbfa36132535c4e7072c783576e43", func := "appleloft/appleloftlaw.ActionEncodes", spec := "actionEncodes", inPlace := ["internal/bytealg.IndexByteString", "internal/bytealg.MakeNoZero"], unfollowed := true, recurses := true, apart := false }
def ActionEncodesSaid : Prop := actionEncodesRow.holds Try.pinned (OpenSpec.ofChange actionEncodesSpec)

/-- ITS FALSE NEIGHBOUR: 'it returns false'. Refute it at one input. -/
def actionEncodesWrong : ChangeSpec := { name := "actionEncodes", fn := fun _ => fun
  | [d] => { results := [.lit (.bool false)], args := [d] }
  | _ => none }
def ActionEncodesWrongFalsely : Prop := actionEncodesRow.holds Try.pinned (OpenSpec.ofChange actionEncodesWrong)

/-- 'appleloftlaw.FlightJoins': WHATEVER THE INPUT: true; the input reads as it did. -/
def flightJoinsSpec : ChangeSpec := { name := "flightJoins", fn := fun _ => fun
  | [d1, d2, d3] => { results := [.lit (.bool true)], args := [d1, d2, d3] }
  | _ => none }
def flightJoinsRow : OpenClaim := { program := "ytkkfjfhbikipbaa", sum := "87c972eec745b70a99d2a20556575a7c81ccbfa36132535c4e7072c783576e43", func := "appleloft/appleloftlaw.FlightJoins", spec := "flightJoins", inPlace := ["internal/bytealg.IndexByteString"], unfollowed := true, recurses := true, apart := false }
def FlightJoinsSaid : Prop := flightJoinsRow.holds Try.pinned (OpenSpec.ofChange flightJoinsSpec)

/-- ITS FALSE NEIGHBOUR: 'it returns false'. Refute it at one input. -/
def flightJoinsWrong : ChangeSpec := { name := "flightJoins", fn := fun _ => fun
  | [d1, d2, d3] => { results := [.lit (.bool false)], args := [d1, d2, d3] }
  | _ => none }
def FlightJoinsWrongFalsely : Prop := flightJoinsRow.holds Try.pinned (OpenSpec.ofChange flightJoinsWrong)

/-- 'appleloftlaw.OrderEncodes': WHATEVER THE INPUT: true; the input reads as it did. -/
def orderEncodesSpec : ChangeSpec := { name := "orderEncodes", fn := fun _ => fun
  | [d] => { results := [.lit (.bool true)], args := [d] }
  | _ => none }
def orderEncodesRow : OpenClaim := { program := "ytkkfjfhbikipbaa", sum := "87c972eec745b70a99d2a20556575a7c81ccbfa36132535c4e7072c783576e43", func := "appleloft/appleloftlaw.OrderEncodes", spec := "orderEncodes", inPlace := ["internal/bytealg.IndexByteString"], unfollowed := true, recurses := true, apart := false }
def OrderEncodesSaid : Prop := orderEncodesRow.holds Try.pinned (OpenSpec.ofChange orderEncodesSpec)

/-- ITS FALSE NEIGHBOUR: 'it returns false'. Refute it at one input. -/
def orderEncodesWrong : ChangeSpec := { name := "orderEncodes", fn := fun _ => fun
  | [d] => { results := [.lit (.bool false)], args := [d] }
  | _ => none }
def OrderEncodesWrongFalsely : Prop := orderEncodesRow.holds Try.pinned (OpenSpec.ofChange orderEncodesWrong)

/-- 'appleloftlaw.IndexDrops': WHATEVER THE INPUT: true; the input reads as it did. -/
def indexDropsSpec : ChangeSpec := { name := "indexDrops", fn := fun _ => fun
  | [d1, d2] => { results := [.lit (.bool true)], args := [d1, d2] }
  | _ => none }
def indexDropsRow : OpenClaim := { program := "ytkkfjfhbikipbaa", sum := "87c972eec745b70a99d2a20556575a7c81ccbfa36132535c4e7072c783576e43", func := "appleloft/appleloftlaw.IndexDrops", spec := "indexDrops", inPlace := ["internal/bytealg.IndexByteString"], unfollowed := true, recurses := true, apart := false }
def IndexDropsSaid : Prop := indexDropsRow.holds Try.pinned (OpenSpec.ofChange indexDropsSpec)

/-- ITS FALSE NEIGHBOUR: 'it returns false'. Refute it at one input. -/
def indexDropsWrong : ChangeSpec := { name := "indexDrops", fn := fun _ => fun
  | [d1, d2] => { results := [.lit (.bool false)], args := [d1, d2] }
  | _ => none }
def IndexDropsWrongFalsely : Prop := indexDropsRow.holds Try.pinned (OpenSpec.ofChange indexDropsWrong)

/-- 'appleloftlaw.ManifestDecodes': WHATEVER THE INPUT: true; the input reads as it did. -/
def manifestDecodesSpec : ChangeSpec := { name := "manifestDecodes", fn := fun _ => fun
  | [d] => { results := [.lit (.bool true)], args := [d] }
  | _ => none }
def manifestDecodesRow : OpenClaim := { program := "ytkkfjfhbikipbaa", sum := "87c972eec745b70a99d2a20556575a7c81ccbfa36132535c4e7072c783576e43", func := "appleloft/appleloftlaw.ManifestDecodes", spec := "manifestDecodes", inPlace := ["internal/abi.NoEscape", "internal/bytealg.IndexByteString"], apart := false }
def ManifestDecodesSaid : Prop := manifestDecodesRow.holds Try.pinned (OpenSpec.ofChange manifestDecodesSpec)

/-- ITS FALSE NEIGHBOUR: 'it returns false'. Refute it at one input. -/
def manifestDecodesWrong : ChangeSpec := { name := "manifestDecodes", fn := fun _ => fun
  | [d] => { results := [.lit (.bool false)], args := [d] }
  | _ => none }
def ManifestDecodesWrongFalsely : Prop := manifestDecodesRow.holds Try.pinned (OpenSpec.ofChange manifestDecodesWrong)

/-- 'appleloftlaw.BlobChecks': WHATEVER THE INPUT: true; the input reads as it did. -/
def blobChecksSpec : ChangeSpec := { name := "blobChecks", fn := fun _ => fun
  | [d1, d2] => { results := [.lit (.bool true)], args := [d1, d2] }
  | _ => none }
def blobChecksRow : OpenClaim := { program := "ytkkfjfhbikipbaa", sum := "87c972eec745b70a99d2a20556575a7c81ccbfa36132535c4e7072c783576e43", func := "appleloft/appleloftlaw.BlobChecks", spec := "blobChecks", inPlace := ["internal/bytealg.IndexByteString", "internal/abi.NoEscape"], apart := false }
def BlobChecksSaid : Prop := blobChecksRow.holds Try.pinned (OpenSpec.ofChange blobChecksSpec)

/-- ITS FALSE NEIGHBOUR: 'it returns false'. Refute it at one input. -/
def blobChecksWrong : ChangeSpec := { name := "blobChecks", fn := fun _ => fun
  | [d1, d2] => { results := [.lit (.bool false)], args := [d1, d2] }
  | _ => none }
def BlobChecksWrongFalsely : Prop := blobChecksRow.holds Try.pinned (OpenSpec.ofChange blobChecksWrong)

/-- 'appleloftlaw.ReachParts': WHATEVER THE INPUT: true; the input reads as it did. -/
def reachPartsSpec : ChangeSpec := { name := "reachParts", fn := fun _ => fun
  | [d] => { results := [.lit (.bool true)], args := [d] }
  | _ => none }
def reachPartsRow : OpenClaim := { program := "ytkkfjfhbikipbaa", sum := "87c972eec745b70a99d2a20556575a7c81ccbfa36132535c4e7072c783576e43", func := "appleloft/appleloftlaw.ReachParts", spec := "reachParts", inPlace := ["internal/abi.NoEscape", "internal/bytealg.IndexByteString"], apart := false }
def ReachPartsSaid : Prop := reachPartsRow.holds Try.pinned (OpenSpec.ofChange reachPartsSpec)

/-- ITS FALSE NEIGHBOUR: 'it returns false'. Refute it at one input. -/
def reachPartsWrong : ChangeSpec := { name := "reachParts", fn := fun _ => fun
  | [d] => { results := [.lit (.bool false)], args := [d] }
  | _ => none }
def ReachPartsWrongFalsely : Prop := reachPartsRow.holds Try.pinned (OpenSpec.ofChange reachPartsWrong)

/-- 'appleloftlaw.ActionDecodes': WHATEVER THE INPUT: true; the input reads as it did. -/
def actionDecodesSpec : ChangeSpec := { name := "actionDecodes", fn := fun _ => fun
  | [d] => { results := [.lit (.bool true)], args := [d] }
  | _ => none }
def actionDecodesRow : OpenClaim := { program := "ytkkfjfhbikipbaa", sum := "87c972eec745b70a99d2a20556575a7c81ccbfa36132535c4e7072c783576e43", func := "appleloft/appleloftlaw.ActionDecodes", spec := "actionDecodes", inPlace := ["internal/abi.NoEscape", "internal/bytealg.IndexByteString"], unfollowed := true, recurses := true, apart := false }
def ActionDecodesSaid : Prop := actionDecodesRow.holds Try.pinned (OpenSpec.ofChange actionDecodesSpec)

/-- ITS FALSE NEIGHBOUR: 'it returns false'. Refute it at one input. -/
def actionDecodesWrong : ChangeSpec := { name := "actionDecodes", fn := fun _ => fun
  | [d] => { results := [.lit (.bool false)], args := [d] }
  | _ => none }
def ActionDecodesWrongFalsely : Prop := actionDecodesRow.holds Try.pinned (OpenSpec.ofChange actionDecodesWrong)

/-- 'appleloftlaw.BlobDrops': WHATEVER THE INPUT: true; the input reads as it did. -/
def blobDropsSpec : ChangeSpec := { name := "blobDrops", fn := fun _ => fun
  | [d1, d2] => { results := [.lit (.bool true)], args := [d1, d2] }
  | _ => none }
def blobDropsRow : OpenClaim := { program := "ytkkfjfhbikipbaa", sum := "87c972eec745b70a99d2a20556575a7c81ccbfa36132535c4e7072c783576e43", func := "appleloft/appleloftlaw.BlobDrops", spec := "blobDrops", inPlace := ["internal/bytealg.IndexByteString", "internal/abi.NoEscape"], unfollowed := true, recurses := true, apart := false }
def BlobDropsSaid : Prop := blobDropsRow.holds Try.pinned (OpenSpec.ofChange blobDropsSpec)

/-- ITS FALSE NEIGHBOUR: 'it returns false'. Refute it at one input. -/
def blobDropsWrong : ChangeSpec := { name := "blobDrops", fn := fun _ => fun
  | [d1, d2] => { results := [.lit (.bool false)], args := [d1, d2] }
  | _ => none }
def BlobDropsWrongFalsely : Prop := blobDropsRow.holds Try.pinned (OpenSpec.ofChange blobDropsWrong)

/-- 'appleloftlaw.IndexPuts': WHATEVER THE INPUT: true; the input reads as it did. -/
def indexPutsSpec : ChangeSpec := { name := "indexPuts", fn := fun _ => fun
  | [d1, d2] => { results := [.lit (.bool true)], args := [d1, d2] }
  | _ => none }
def indexPutsRow : OpenClaim := { program := "ytkkfjfhbikipbaa", sum := "87c972eec745b70a99d2a20556575a7c81ccbfa36132535c4e7072c783576e43", func := "appleloft/appleloftlaw.IndexPuts", spec := "indexPuts", inPlace := ["internal/bytealg.IndexByteString", "internal/bytealg.abigen_runtime_cmpstring", "slices.overlaps[appleloft/api.Entry]"], unfollowed := true, recurses := true, apart := false }
def IndexPutsSaid : Prop := indexPutsRow.holds Try.pinned (OpenSpec.ofChange indexPutsSpec)

/-- ITS FALSE NEIGHBOUR: 'it returns false'. Refute it at one input. -/
def indexPutsWrong : ChangeSpec := { name := "indexPuts", fn := fun _ => fun
  | [d1, d2] => { results := [.lit (.bool false)], args := [d1, d2] }
  | _ => none }
def IndexPutsWrongFalsely : Prop := indexPutsRow.holds Try.pinned (OpenSpec.ofChange indexPutsWrong)

/-- 'appleloftlaw.OrderDecodes': WHATEVER THE INPUT: true; the input reads as it did. -/
def orderDecodesSpec : ChangeSpec := { name := "orderDecodes", fn := fun _ => fun
  | [d] => { results := [.lit (.bool true)], args := [d] }
  | _ => none }
def orderDecodesRow : OpenClaim := { program := "ytkkfjfhbikipbaa", sum := "87c972eec745b70a99d2a20556575a7c81ccbfa36132535c4e7072c783576e43", func := "appleloft/appleloftlaw.OrderDecodes", spec := "orderDecodes", inPlace := ["internal/abi.NoEscape", "internal/bytealg.IndexByteString"], unfollowed := true, recurses := true, apart := false }
def OrderDecodesSaid : Prop := orderDecodesRow.holds Try.pinned (OpenSpec.ofChange orderDecodesSpec)

/-- ITS FALSE NEIGHBOUR: 'it returns false'. Refute it at one input. -/
def orderDecodesWrong : ChangeSpec := { name := "orderDecodes", fn := fun _ => fun
  | [d] => { results := [.lit (.bool false)], args := [d] }
  | _ => none }
def OrderDecodesWrongFalsely : Prop := orderDecodesRow.holds Try.pinned (OpenSpec.ofChange orderDecodesWrong)

/- THE SECOND FORM. 'bulk': how many values and letters a reading holds, each counted each time it is reached (what is shared counts as often as it is met; a slice's spare places count too). A statement '..UptoSaid' is the law's where the arguments, and the package variables that the reading takes, are together of bulk at most 1048576: NARROWER than '..Said'. Prove '..Said' where nothing that the law and all that it calls make is longer than what came in: it says more and counts as full. Else prove '..UptoSaid'. A law counts once. -/
mutual
def uptoBulk {H : Type} : DataW H → Nat
  | .lit (.string bytes) => bytes.length + 1
  | .lit _ => 1
  | .nil => 1
  | .ptr d => uptoBulk d + 1
  | .slice elems spare => uptoBulkAll elems + uptoBulkAll spare + 1
  | .agg parts => uptoBulkAll parts + 1
  | .iface _ d => uptoBulk d + 1
  | .map entries => uptoBulkEntries entries + 1
  | .held _ => 1
def uptoBulkAll {H : Type} : List (DataW H) → Nat
  | [] => 0
  | d :: r => uptoBulk d + uptoBulkAll r
def uptoBulkEntries {H : Type} : List (Lit × DataW H) → Nat
  | [] => 0
  | x :: r => uptoBulkEntry x + uptoBulkEntries r
def uptoBulkEntry {H : Type} : Lit × DataW H → Nat
  | (.string bytes, d) => bytes.length + uptoBulk d + 1
  | (_, d) => uptoBulk d + 1
 end
def uptoSmall : (H : Type) → List (DataW H) → Bool := fun _ ds => decide (uptoBulkAll ds ≤ 1048576)
def OpenSpec.upto (s : _root_.Go.ChangeSpec) : _root_.Go.OpenSpec := { _root_.Go.OpenSpec.ofChange s with cond := some uptoSmall }

/-- 'appleloftlaw.WordBytes', WHERE WHAT IT READS IS OF BULK AT MOST 1048576: true; the input reads as it did. -/
def wordBytesUptoRow : OpenClaim := { program := "ytkkfjfhbikipbaa", sum := "87c972eec745b70a99d2a20556575a7c81ccbfa36132535c4e7072c783576e43", func := "appleloft/appleloftlaw.WordBytes", spec := "wordBytes", apart := false, narrowed := true }
def WordBytesUptoSaid : Prop := wordBytesUptoRow.holds Try.pinned (OpenSpec.upto wordBytesSpec)

/-- 'appleloftlaw.HexTexts', WHERE WHAT IT READS IS OF BULK AT MOST 1048576: true; the input reads as it did. -/
def hexTextsUptoRow : OpenClaim := { program := "ytkkfjfhbikipbaa", sum := "87c972eec745b70a99d2a20556575a7c81ccbfa36132535c4e7072c783576e43", func := "appleloft/appleloftlaw.HexTexts", spec := "hexTexts", inPlace := ["internal/abi.NoEscape", "internal/bytealg.IndexByteString"], apart := false, narrowed := true }
def HexTextsUptoSaid : Prop := hexTextsUptoRow.holds Try.pinned (OpenSpec.upto hexTextsSpec)

/-- 'appleloftlaw.ShaPads', WHERE WHAT IT READS IS OF BULK AT MOST 1048576: true; the input reads as it did. -/
def shaPadsUptoRow : OpenClaim := { program := "ytkkfjfhbikipbaa", sum := "87c972eec745b70a99d2a20556575a7c81ccbfa36132535c4e7072c783576e43", func := "appleloft/appleloftlaw.ShaPads", spec := "shaPads", inPlace := ["math/bits.Add64"], apart := false, narrowed := true }
def ShaPadsUptoSaid : Prop := shaPadsUptoRow.holds Try.pinned (OpenSpec.upto shaPadsSpec)

/-- 'appleloftlaw.ManifestChecks', WHERE WHAT IT READS IS OF BULK AT MOST 1048576: true; the input reads as it did. -/
def manifestChecksUptoRow : OpenClaim := { program := "ytkkfjfhbikipbaa", sum := "87c972eec745b70a99d2a20556575a7c81ccbfa36132535c4e7072c783576e43", func := "appleloft/appleloftlaw.ManifestChecks", spec := "manifestChecks", inPlace := ["internal/bytealg.IndexByteString"], apart := false, narrowed := true }
def ManifestChecksUptoSaid : Prop := manifestChecksUptoRow.holds Try.pinned (OpenSpec.upto manifestChecksSpec)

/-- 'appleloftlaw.IndexChecks', WHERE WHAT IT READS IS OF BULK AT MOST 1048576: true; the input reads as it did. -/
def indexChecksUptoRow : OpenClaim := { program := "ytkkfjfhbikipbaa", sum := "87c972eec745b70a99d2a20556575a7c81ccbfa36132535c4e7072c783576e43", func := "appleloft/appleloftlaw.IndexChecks", spec := "indexChecks", inPlace := ["internal/bytealg.IndexByteString"], apart := false, narrowed := true }
def IndexChecksUptoSaid : Prop := indexChecksUptoRow.holds Try.pinned (OpenSpec.upto indexChecksSpec)

/-- 'appleloftlaw.ShaSteps', WHERE WHAT IT READS IS OF BULK AT MOST 1048576: true; the input reads as it did. -/
def shaStepsUptoRow : OpenClaim := { program := "ytkkfjfhbikipbaa", sum := "87c972eec745b70a99d2a20556575a7c81ccbfa36132535c4e7072c783576e43", func := "appleloft/appleloftlaw.ShaSteps", spec := "shaSteps", inPlace := ["math/bits.Add64"], apart := false, narrowed := true }
def ShaStepsUptoSaid : Prop := shaStepsUptoRow.holds Try.pinned (OpenSpec.upto shaStepsSpec)

/-- 'appleloftlaw.ManifestEncodes', WHERE WHAT IT READS IS OF BULK AT MOST 1048576: true; the input reads as it did. -/
def manifestEncodesUptoRow : OpenClaim := { program := "ytkkfjfhbikipbaa", sum := "87c972eec745b70a99d2a20556575a7c81ccbfa36132535c4e7072c783576e43", func := "appleloft/appleloftlaw.ManifestEncodes", spec := "manifestEncodes", inPlace := ["internal/bytealg.IndexByteString"], unfollowed := true, recurses := true, apart := false, narrowed := true }
def ManifestEncodesUptoSaid : Prop := manifestEncodesUptoRow.holds Try.pinned (OpenSpec.upto manifestEncodesSpec)

/-- 'appleloftlaw.FlightChecks', WHERE WHAT IT READS IS OF BULK AT MOST 1048576: true; the input reads as it did. -/
def flightChecksUptoRow : OpenClaim := { program := "ytkkfjfhbikipbaa", sum := "87c972eec745b70a99d2a20556575a7c81ccbfa36132535c4e7072c783576e43", func := "appleloft/appleloftlaw.FlightChecks", spec := "flightChecks", inPlace := ["internal/bytealg.IndexByteString"], unfollowed := true, recurses := true, apart := false, narrowed := true }
def FlightChecksUptoSaid : Prop := flightChecksUptoRow.holds Try.pinned (OpenSpec.upto flightChecksSpec)

/-- 'appleloftlaw.ShaSums', WHERE WHAT IT READS IS OF BULK AT MOST 1048576: true; the input reads as it did. -/
def shaSumsUptoRow : OpenClaim := { program := "ytkkfjfhbikipbaa", sum := "87c972eec745b70a99d2a20556575a7c81ccbfa36132535c4e7072c783576e43", func := "appleloft/appleloftlaw.ShaSums", spec := "shaSums", inPlace := ["internal/abi.NoEscape"], apart := false, narrowed := true }
def ShaSumsUptoSaid : Prop := shaSumsUptoRow.holds Try.pinned (OpenSpec.upto shaSumsSpec)

/-- 'appleloftlaw.FlightLands', WHERE WHAT IT READS IS OF BULK AT MOST 1048576: true; the input reads as it did. -/
def flightLandsUptoRow : OpenClaim := { program := "ytkkfjfhbikipbaa", sum := "87c972eec745b70a99d2a20556575a7c81ccbfa36132535c4e7072c783576e43", func := "appleloft/appleloftlaw.FlightLands", spec := "flightLands", inPlace := ["internal/bytealg.IndexByteString"], unfollowed := true, recurses := true, apart := false, narrowed := true }
def FlightLandsUptoSaid : Prop := flightLandsUptoRow.holds Try.pinned (OpenSpec.upto flightLandsSpec)

/-- 'appleloftlaw.ActionEncodes', WHERE WHAT IT READS IS OF BULK AT MOST 1048576: true; the input reads as it did. -/
def actionEncodesUptoRow : OpenClaim := { program := "ytkkfjfhbikipbaa", sum := "87c972eec745b70a99d2a20556575a7c81ccbfa36132535c4e7072c783576e43", func := "appleloft/appleloftlaw.ActionEncodes", spec := "actionEncodes", inPlace := ["internal/bytealg.IndexByteString", "internal/bytealg.MakeNoZero"], unfollowed := true, recurses := true, apart := false, narrowed := true }
def ActionEncodesUptoSaid : Prop := actionEncodesUptoRow.holds Try.pinned (OpenSpec.upto actionEncodesSpec)

/-- 'appleloftlaw.FlightJoins', WHERE WHAT IT READS IS OF BULK AT MOST 1048576: true; the input reads as it did. -/
def flightJoinsUptoRow : OpenClaim := { program := "ytkkfjfhbikipbaa", sum := "87c972eec745b70a99d2a20556575a7c81ccbfa36132535c4e7072c783576e43", func := "appleloft/appleloftlaw.FlightJoins", spec := "flightJoins", inPlace := ["internal/bytealg.IndexByteString"], unfollowed := true, recurses := true, apart := false, narrowed := true }
def FlightJoinsUptoSaid : Prop := flightJoinsUptoRow.holds Try.pinned (OpenSpec.upto flightJoinsSpec)

/-- 'appleloftlaw.OrderEncodes', WHERE WHAT IT READS IS OF BULK AT MOST 1048576: true; the input reads as it did. -/
def orderEncodesUptoRow : OpenClaim := { program := "ytkkfjfhbikipbaa", sum := "87c972eec745b70a99d2a20556575a7c81ccbfa36132535c4e7072c783576e43", func := "appleloft/appleloftlaw.OrderEncodes", spec := "orderEncodes", inPlace := ["internal/bytealg.IndexByteString"], unfollowed := true, recurses := true, apart := false, narrowed := true }
def OrderEncodesUptoSaid : Prop := orderEncodesUptoRow.holds Try.pinned (OpenSpec.upto orderEncodesSpec)

/-- 'appleloftlaw.IndexDrops', WHERE WHAT IT READS IS OF BULK AT MOST 1048576: true; the input reads as it did. -/
def indexDropsUptoRow : OpenClaim := { program := "ytkkfjfhbikipbaa", sum := "87c972eec745b70a99d2a20556575a7c81ccbfa36132535c4e7072c783576e43", func := "appleloft/appleloftlaw.IndexDrops", spec := "indexDrops", inPlace := ["internal/bytealg.IndexByteString"], unfollowed := true, recurses := true, apart := false, narrowed := true }
def IndexDropsUptoSaid : Prop := indexDropsUptoRow.holds Try.pinned (OpenSpec.upto indexDropsSpec)

/-- 'appleloftlaw.ManifestDecodes', WHERE WHAT IT READS IS OF BULK AT MOST 1048576: true; the input reads as it did. -/
def manifestDecodesUptoRow : OpenClaim := { program := "ytkkfjfhbikipbaa", sum := "87c972eec745b70a99d2a20556575a7c81ccbfa36132535c4e7072c783576e43", func := "appleloft/appleloftlaw.ManifestDecodes", spec := "manifestDecodes", inPlace := ["internal/abi.NoEscape", "internal/bytealg.IndexByteString"], apart := false, narrowed := true }
def ManifestDecodesUptoSaid : Prop := manifestDecodesUptoRow.holds Try.pinned (OpenSpec.upto manifestDecodesSpec)

/-- 'appleloftlaw.BlobChecks', WHERE WHAT IT READS IS OF BULK AT MOST 1048576: true; the input reads as it did. -/
def blobChecksUptoRow : OpenClaim := { program := "ytkkfjfhbikipbaa", sum := "87c972eec745b70a99d2a20556575a7c81ccbfa36132535c4e7072c783576e43", func := "appleloft/appleloftlaw.BlobChecks", spec := "blobChecks", inPlace := ["internal/bytealg.IndexByteString", "internal/abi.NoEscape"], apart := false, narrowed := true }
def BlobChecksUptoSaid : Prop := blobChecksUptoRow.holds Try.pinned (OpenSpec.upto blobChecksSpec)

/-- 'appleloftlaw.ReachParts', WHERE WHAT IT READS IS OF BULK AT MOST 1048576: true; the input reads as it did. -/
def reachPartsUptoRow : OpenClaim := { program := "ytkkfjfhbikipbaa", sum := "87c972eec745b70a99d2a20556575a7c81ccbfa36132535c4e7072c783576e43", func := "appleloft/appleloftlaw.ReachParts", spec := "reachParts", inPlace := ["internal/abi.NoEscape", "internal/bytealg.IndexByteString"], apart := false, narrowed := true }
def ReachPartsUptoSaid : Prop := reachPartsUptoRow.holds Try.pinned (OpenSpec.upto reachPartsSpec)

/-- 'appleloftlaw.ActionDecodes', WHERE WHAT IT READS IS OF BULK AT MOST 1048576: true; the input reads as it did. -/
def actionDecodesUptoRow : OpenClaim := { program := "ytkkfjfhbikipbaa", sum := "87c972eec745b70a99d2a20556575a7c81ccbfa36132535c4e7072c783576e43", func := "appleloft/appleloftlaw.ActionDecodes", spec := "actionDecodes", inPlace := ["internal/abi.NoEscape", "internal/bytealg.IndexByteString"], unfollowed := true, recurses := true, apart := false, narrowed := true }
def ActionDecodesUptoSaid : Prop := actionDecodesUptoRow.holds Try.pinned (OpenSpec.upto actionDecodesSpec)

/-- 'appleloftlaw.BlobDrops', WHERE WHAT IT READS IS OF BULK AT MOST 1048576: true; the input reads as it did. -/
def blobDropsUptoRow : OpenClaim := { program := "ytkkfjfhbikipbaa", sum := "87c972eec745b70a99d2a20556575a7c81ccbfa36132535c4e7072c783576e43", func := "appleloft/appleloftlaw.BlobDrops", spec := "blobDrops", inPlace := ["internal/bytealg.IndexByteString", "internal/abi.NoEscape"], unfollowed := true, recurses := true, apart := false, narrowed := true }
def BlobDropsUptoSaid : Prop := blobDropsUptoRow.holds Try.pinned (OpenSpec.upto blobDropsSpec)

/-- 'appleloftlaw.IndexPuts', WHERE WHAT IT READS IS OF BULK AT MOST 1048576: true; the input reads as it did. -/
def indexPutsUptoRow : OpenClaim := { program := "ytkkfjfhbikipbaa", sum := "87c972eec745b70a99d2a20556575a7c81ccbfa36132535c4e7072c783576e43", func := "appleloft/appleloftlaw.IndexPuts", spec := "indexPuts", inPlace := ["internal/bytealg.IndexByteString", "internal/bytealg.abigen_runtime_cmpstring", "slices.overlaps[appleloft/api.Entry]"], unfollowed := true, recurses := true, apart := false, narrowed := true }
def IndexPutsUptoSaid : Prop := indexPutsUptoRow.holds Try.pinned (OpenSpec.upto indexPutsSpec)

/-- 'appleloftlaw.OrderDecodes', WHERE WHAT IT READS IS OF BULK AT MOST 1048576: true; the input reads as it did. -/
def orderDecodesUptoRow : OpenClaim := { program := "ytkkfjfhbikipbaa", sum := "87c972eec745b70a99d2a20556575a7c81ccbfa36132535c4e7072c783576e43", func := "appleloft/appleloftlaw.OrderDecodes", spec := "orderDecodes", inPlace := ["internal/abi.NoEscape", "internal/bytealg.IndexByteString"], unfollowed := true, recurses := true, apart := false, narrowed := true }
def OrderDecodesUptoSaid : Prop := orderDecodesUptoRow.holds Try.pinned (OpenSpec.upto orderDecodesSpec)

end Rows
end Go.Proofs.Ytkkfjfhbikipbaa
