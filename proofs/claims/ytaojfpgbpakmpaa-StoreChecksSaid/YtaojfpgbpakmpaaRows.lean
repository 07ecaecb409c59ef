/-
  No cell of these rows narrows 'for every input' (looked for: loops, veiled, ifaces, maps, wideKeys, modest, calm, conditions, laid).
  DERIVED. THE GIVEN ROWS OF THIS SEAT. 20 by the template 'for every input the law returns true; each argument reads behind the call as it read before'; 0 by the template 'total and deterministic' (their statements: YtaojfpgbpakmpaaTotals.lean).
  GIVEN WITH THE SEED: the statements are not yours to turn. If you find one false, say at which input.
  Laid BY PROGRAM, IN A SANDBOX (cutbox-rows.mjs): the forced cells as the released guide's own fill.sh prints them over the translation c3d8f0d71cb29d67… (all of the seat's roots in one cut). By AI agents, Wed Nov 11 2026. No macro, syntax, notation, axiom, sorry.
-/
import Derived.Test.YtaojfpgbpakmpaaChecked
import GoSem.Claim
import GoSem.ClaimJoined
import GoSem.ClaimMapViews
import Derived.JoinedTies
import Derived.KernelRfl
namespace Go.Proofs.Ytaojfpgbpakmpaa
/- THE CELL 'sum', in the pinned program and in every row, IS THE sha256 OF THE DUMP (.gsa) THAT YtaojfpgbpakmpaaProg.lean LOADS. Nothing in Lean hashes anything: it is a label: what it is worth is what the hold of that sum in a sandbox is worth. -/
noncomputable def Try.pinned : Pinned := { name := "ytaojfpgbpakmpaa", sum := "c3d8f0d71cb29d673bdf143618f64507289835b9311cbf3bc304e1ae3cc68ffc", checked := Try.checked }
namespace Rows
def none {H : Type} : Left H := { results := [], args := [] }

/-- 'appleloftlaw.FlightChecks': WHATEVER THE INPUT: true; the input reads as it did. -/
def flightChecksSpec : ChangeSpec := { name := "flightChecks", fn := fun _ => fun
  | [d1, d2] => { results := [.lit (.bool true)], args := [d1, d2] }
  | _ => none }
def flightChecksRow : OpenClaim := { program := "ytaojfpgbpakmpaa", sum := "c3d8f0d71cb29d673bdf143618f64507289835b9311cbf3bc304e1ae3cc68ffc", func := "appleloft/appleloftlaw.FlightChecks", spec := "flightChecks", inPlace := ["internal/bytealg.IndexByteString"], unfollowed := true, recurses := true, apart := false }
def FlightChecksSaid : Prop := flightChecksRow.holds Try.pinned (OpenSpec.ofChange flightChecksSpec)

/-- ITS FALSE NEIGHBOUR: 'it returns false'. Refute it at one input. -/
def flightChecksWrong : ChangeSpec := { name := "flightChecks", fn := fun _ => fun
  | [d1, d2] => { results := [.lit (.bool false)], args := [d1, d2] }
  | _ => none }
def FlightChecksWrongFalsely : Prop := flightChecksRow.holds Try.pinned (OpenSpec.ofChange flightChecksWrong)

/-- 'appleloftlaw.FlightLands': WHATEVER THE INPUT: true; the input reads as it did. -/
def flightLandsSpec : ChangeSpec := { name := "flightLands", fn := fun _ => fun
  | [d1, d2] => { results := [.lit (.bool true)], args := [d1, d2] }
  | _ => none }
def flightLandsRow : OpenClaim := { program := "ytaojfpgbpakmpaa", sum := "c3d8f0d71cb29d673bdf143618f64507289835b9311cbf3bc304e1ae3cc68ffc", func := "appleloft/appleloftlaw.FlightLands", spec := "flightLands", inPlace := ["internal/bytealg.IndexByteString"], unfollowed := true, recurses := true, apart := false }
def FlightLandsSaid : Prop := flightLandsRow.holds Try.pinned (OpenSpec.ofChange flightLandsSpec)

/-- ITS FALSE NEIGHBOUR: 'it returns false'. Refute it at one input. -/
def flightLandsWrong : ChangeSpec := { name := "flightLands", fn := fun _ => fun
  | [d1, d2] => { results := [.lit (.bool false)], args := [d1, d2] }
  | _ => none }
def FlightLandsWrongFalsely : Prop := flightLandsRow.holds Try.pinned (OpenSpec.ofChange flightLandsWrong)

/-- 'appleloftlaw.FlightJoins': WHATEVER THE INPUT: true; the input reads as it did. -/
def flightJoinsSpec : ChangeSpec := { name := "flightJoins", fn := fun _ => fun
  | [d1, d2, d3] => { results := [.lit (.bool true)], args := [d1, d2, d3] }
  | _ => none }
def flightJoinsRow : OpenClaim := { program := "ytaojfpgbpakmpaa", sum := "c3d8f0d71cb29d673bdf143618f64507289835b9311cbf3bc304e1ae3cc68ffc", func := "appleloft/appleloftlaw.FlightJoins", spec := "flightJoins", inPlace := ["internal/bytealg.IndexByteString"], unfollowed := true, recurses := true, apart := false }
def FlightJoinsSaid : Prop := flightJoinsRow.holds Try.pinned (OpenSpec.ofChange flightJoinsSpec)

/-- ITS FALSE NEIGHBOUR: 'it returns false'. Refute it at one input. -/
def flightJoinsWrong : ChangeSpec := { name := "flightJoins", fn := fun _ => fun
  | [d1, d2, d3] => { results := [.lit (.bool false)], args := [d1, d2, d3] }
  | _ => none }
def FlightJoinsWrongFalsely : Prop := flightJoinsRow.holds Try.pinned (OpenSpec.ofChange flightJoinsWrong)

/-- 'appleloftlaw.OrderEncodes': WHATEVER THE INPUT: true; the input reads as it did. -/
def orderEncodesSpec : ChangeSpec := { name := "orderEncodes", fn := fun _ => fun
  | [d] => { results := [.lit (.bool true)], args := [d] }
  | _ => none }
def orderEncodesRow : OpenClaim := { program := "ytaojfpgbpakmpaa", sum := "c3d8f0d71cb29d673bdf143618f64507289835b9311cbf3bc304e1ae3cc68ffc", func := "appleloft/appleloftlaw.OrderEncodes", spec := "orderEncodes", inPlace := ["internal/bytealg.IndexByteString"], unfollowed := true, recurses := true, apart := false }
def OrderEncodesSaid : Prop := orderEncodesRow.holds Try.pinned (OpenSpec.ofChange orderEncodesSpec)

/-- ITS FALSE NEIGHBOUR: 'it returns false'. Refute it at one input. -/
def orderEncodesWrong : ChangeSpec := { name := "orderEncodes", fn := fun _ => fun
  | [d] => { results := [.lit (.bool false)], args := [d] }
  | _ => none }
def OrderEncodesWrongFalsely : Prop := orderEncodesRow.holds Try.pinned (OpenSpec.ofChange orderEncodesWrong)

/-- 'appleloftlaw.IndexDrops': WHATEVER THE INPUT: true; the input reads as it did. -/
def indexDropsSpec : ChangeSpec := { name := "indexDrops", fn := fun _ => fun
  | [d1, d2] => { results := [.lit (.bool true)], args := [d1, d2] }
  | _ => none }
def indexDropsRow : OpenClaim := { program := "ytaojfpgbpakmpaa", sum := "c3d8f0d71cb29d673bdf143618f64507289835b9311cbf3bc304e1ae3cc68ffc", func := "appleloft/appleloftlaw.IndexDrops", spec := "indexDrops", inPlace := ["internal/bytealg.IndexByteString"], unfollowed := true, recurses := true, apart := false }
def IndexDropsSaid : Prop := indexDropsRow.holds Try.pinned (OpenSpec.ofChange indexDropsSpec)

/-- ITS FALSE NEIGHBOUR: 'it returns false'. Refute it at one input. -/
def indexDropsWrong : ChangeSpec := { name := "indexDrops", fn := fun _ => fun
  | [d1, d2] => { results := [.lit (.bool false)], args := [d1, d2] }
  | _ => none }
def IndexDropsWrongFalsely : Prop := indexDropsRow.holds Try.pinned (OpenSpec.ofChange indexDropsWrong)

/-- 'appleloftlaw.ManifestDecodes': WHATEVER THE INPUT: true; the input reads as it did. -/
def manifestDecodesSpec : ChangeSpec := { name := "manifestDecodes", fn := fun _ => fun
  | [d] => { results := [.lit (.bool true)], args := [d] }
  | _ => none }
def manifestDecodesRow : OpenClaim := { program := "ytaojfpgbpakmpaa", sum := "c3d8f0d71cb29d673bdf143618f64507289835b9311cbf3bc304e1ae3cc68ffc", func := "appleloft/appleloftlaw.ManifestDecodes", spec := "manifestDecodes", inPlace := ["internal/abi.NoEscape", "internal/bytealg.IndexByteString"], apart := false }
def ManifestDecodesSaid : Prop := manifestDecodesRow.holds Try.pinned (OpenSpec.ofChange manifestDecodesSpec)

/-- ITS FALSE NEIGHBOUR: 'it returns false'. Refute it at one input. -/
def manifestDecodesWrong : ChangeSpec := { name := "manifestDecodes", fn := fun _ => fun
  | [d] => { results := [.lit (.bool false)], args := [d] }
  | _ => none }
def ManifestDecodesWrongFalsely : Prop := manifestDecodesRow.holds Try.pinned (OpenSpec.ofChange manifestDecodesWrong)

/-- 'appleloftlaw.ReachParts': WHATEVER THE INPUT: true; the input reads as it did. -/
def reachPartsSpec : ChangeSpec := { name := "reachParts", fn := fun _ => fun
  | [d] => { results := [.lit (.bool true)], args := [d] }
  | _ => none }
def reachPartsRow : OpenClaim := { program := "ytaojfpgbpakmpaa", sum := "c3d8f0d71cb29d673bdf143618f64507289835b9311cbf3bc304e1ae3cc68ffc", func := "appleloft/appleloftlaw.ReachParts", spec := "reachParts", inPlace := ["internal/abi.NoEscape", "internal/bytealg.IndexByteString"], apart := false }
def ReachPartsSaid : Prop := reachPartsRow.holds Try.pinned (OpenSpec.ofChange reachPartsSpec)

/-- ITS FALSE NEIGHBOUR: 'it returns false'. Refute it at one input. -/
def reachPartsWrong : ChangeSpec := { name := "reachParts", fn := fun _ => fun
  | [d] => { results := [.lit (.bool false)], args := [d] }
  | _ => none }
def ReachPartsWrongFalsely : Prop := reachPartsRow.holds Try.pinned (OpenSpec.ofChange reachPartsWrong)

/-- 'appleloftlaw.ActionDecodes': WHATEVER THE INPUT: true; the input reads as it did. -/
def actionDecodesSpec : ChangeSpec := { name := "actionDecodes", fn := fun _ => fun
  | [d] => { results := [.lit (.bool true)], args := [d] }
  | _ => none }
def actionDecodesRow : OpenClaim := { program := "ytaojfpgbpakmpaa", sum := "c3d8f0d71cb29d673bdf143618f64507289835b9311cbf3bc304e1ae3cc68ffc", func := "appleloft/appleloftlaw.ActionDecodes", spec := "actionDecodes", inPlace := ["internal/abi.NoEscape", "internal/bytealg.IndexByteString"], unfollowed := true, recurses := true, apart := false }
def ActionDecodesSaid : Prop := actionDecodesRow.holds Try.pinned (OpenSpec.ofChange actionDecodesSpec)

/-- ITS FALSE NEIGHBOUR: 'it returns false'. Refute it at one input. -/
def actionDecodesWrong : ChangeSpec := { name := "actionDecodes", fn := fun _ => fun
  | [d] => { results := [.lit (.bool false)], args := [d] }
  | _ => none }
def ActionDecodesWrongFalsely : Prop := actionDecodesRow.holds Try.pinned (OpenSpec.ofChange actionDecodesWrong)

/-- 'appleloftlaw.BlobDrops': WHATEVER THE INPUT: true; the input reads as it did. -/
def blobDropsSpec : ChangeSpec := { name := "blobDrops", fn := fun _ => fun
  | [d1, d2] => { results := [.lit (.bool true)], args := [d1, d2] }
  | _ => none }
def blobDropsRow : OpenClaim := { program := "ytaojfpgbpakmpaa", sum := "c3d8f0d71cb29d673bdf143618f64507289835b9311cbf3bc304e1ae3cc68ffc", func := "appleloft/appleloftlaw.BlobDrops", spec := "blobDrops", inPlace := ["internal/bytealg.IndexByteString", "internal/abi.NoEscape"], unfollowed := true, recurses := true, apart := false }
def BlobDropsSaid : Prop := blobDropsRow.holds Try.pinned (OpenSpec.ofChange blobDropsSpec)

/-- ITS FALSE NEIGHBOUR: 'it returns false'. Refute it at one input. -/
def blobDropsWrong : ChangeSpec := { name := "blobDrops", fn := fun _ => fun
  | [d1, d2] => { results := [.lit (.bool false)], args := [d1, d2] }
  | _ => none }
def BlobDropsWrongFalsely : Prop := blobDropsRow.holds Try.pinned (OpenSpec.ofChange blobDropsWrong)

/-- 'appleloftlaw.IndexPuts': WHATEVER THE INPUT: true; the input reads as it did. -/
def indexPutsSpec : ChangeSpec := { name := "indexPuts", fn := fun _ => fun
  | [d1, d2] => { results := [.lit (.bool true)], args := [d1, d2] }
  | _ => none }
def indexPutsRow : OpenClaim := { program := "ytaojfpgbpakmpaa", sum := "c3d8f0d71cb29d673bdf143618f64507289835b9311cbf3bc304e1ae3cc68ffc", func := "appleloft/appleloftlaw.IndexPuts", spec := "indexPuts", inPlace := ["internal/bytealg.IndexByteString", "internal/bytealg.abigen_runtime_cmpstring", "slices.overlaps[appleloft/api.Entry]"], unfollowed := true, recurses := true, apart := false }
def IndexPutsSaid : Prop := indexPutsRow.holds Try.pinned (OpenSpec.ofChange indexPutsSpec)

/-- ITS FALSE NEIGHBOUR: 'it returns false'. Refute it at one input. -/
def indexPutsWrong : ChangeSpec := { name := "indexPuts", fn := fun _ => fun
  | [d1, d2] => { results := [.lit (.bool false)], args := [d1, d2] }
  | _ => none }
def IndexPutsWrongFalsely : Prop := indexPutsRow.holds Try.pinned (OpenSpec.ofChange indexPutsWrong)

/-- 'appleloftlaw.OrderDecodes': WHATEVER THE INPUT: true; the input reads as it did. -/
def orderDecodesSpec : ChangeSpec := { name := "orderDecodes", fn := fun _ => fun
  | [d] => { results := [.lit (.bool true)], args := [d] }
  | _ => none }
def orderDecodesRow : OpenClaim := { program := "ytaojfpgbpakmpaa", sum := "c3d8f0d71cb29d673bdf143618f64507289835b9311cbf3bc304e1ae3cc68ffc", func := "appleloft/appleloftlaw.OrderDecodes", spec := "orderDecodes", inPlace := ["internal/abi.NoEscape", "internal/bytealg.IndexByteString"], unfollowed := true, recurses := true, apart := false }
def OrderDecodesSaid : Prop := orderDecodesRow.holds Try.pinned (OpenSpec.ofChange orderDecodesSpec)

/-- ITS FALSE NEIGHBOUR: 'it returns false'. Refute it at one input. -/
def orderDecodesWrong : ChangeSpec := { name := "orderDecodes", fn := fun _ => fun
  | [d] => { results := [.lit (.bool false)], args := [d] }
  | _ => none }
def OrderDecodesWrongFalsely : Prop := orderDecodesRow.holds Try.pinned (OpenSpec.ofChange orderDecodesWrong)

/-- 'appleloftlaw.ActionKeys': WHATEVER THE INPUT: true; the input reads as it did. -/
def actionKeysSpec : ChangeSpec := { name := "actionKeys", fn := fun _ => fun
  | [d] => { results := [.lit (.bool true)], args := [d] }
  | _ => none }
def actionKeysRow : OpenClaim := { program := "ytaojfpgbpakmpaa", sum := "c3d8f0d71cb29d673bdf143618f64507289835b9311cbf3bc304e1ae3cc68ffc", func := "appleloft/appleloftlaw.ActionKeys", spec := "actionKeys", inPlace := ["internal/bytealg.IndexByteString", "internal/bytealg.MakeNoZero", "internal/abi.NoEscape"], unfollowed := true, recurses := true, apart := false }
def ActionKeysSaid : Prop := actionKeysRow.holds Try.pinned (OpenSpec.ofChange actionKeysSpec)

/-- ITS FALSE NEIGHBOUR: 'it returns false'. Refute it at one input. -/
def actionKeysWrong : ChangeSpec := { name := "actionKeys", fn := fun _ => fun
  | [d] => { results := [.lit (.bool false)], args := [d] }
  | _ => none }
def ActionKeysWrongFalsely : Prop := actionKeysRow.holds Try.pinned (OpenSpec.ofChange actionKeysWrong)

/-- 'appleloftlaw.StoreGetsBlob': WHATEVER THE INPUT: true; the input reads as it did. -/
def storeGetsBlobSpec : ChangeSpec := { name := "storeGetsBlob", fn := fun _ => fun
  | [d1, d2] => { results := [.lit (.bool true)], args := [d1, d2] }
  | _ => none }
def storeGetsBlobRow : OpenClaim := { program := "ytaojfpgbpakmpaa", sum := "c3d8f0d71cb29d673bdf143618f64507289835b9311cbf3bc304e1ae3cc68ffc", func := "appleloft/appleloftlaw.StoreGetsBlob", spec := "storeGetsBlob", inPlace := ["internal/bytealg.IndexByteString", "internal/abi.NoEscape"], unfollowed := true, recurses := true, apart := false }
def StoreGetsBlobSaid : Prop := storeGetsBlobRow.holds Try.pinned (OpenSpec.ofChange storeGetsBlobSpec)

/-- ITS FALSE NEIGHBOUR: 'it returns false'. Refute it at one input. -/
def storeGetsBlobWrong : ChangeSpec := { name := "storeGetsBlob", fn := fun _ => fun
  | [d1, d2] => { results := [.lit (.bool false)], args := [d1, d2] }
  | _ => none }
def StoreGetsBlobWrongFalsely : Prop := storeGetsBlobRow.holds Try.pinned (OpenSpec.ofChange storeGetsBlobWrong)

/-- 'appleloftlaw.StoreChecks': WHATEVER THE INPUT: true; the input reads as it did. -/
def storeChecksSpec : ChangeSpec := { name := "storeChecks", fn := fun _ => fun
  | [d] => { results := [.lit (.bool true)], args := [d] }
  | _ => none }
def storeChecksRow : OpenClaim := { program := "ytaojfpgbpakmpaa", sum := "c3d8f0d71cb29d673bdf143618f64507289835b9311cbf3bc304e1ae3cc68ffc", func := "appleloft/appleloftlaw.StoreChecks", spec := "storeChecks", inPlace := ["internal/bytealg.IndexByteString", "internal/abi.NoEscape"], unfollowed := true, recurses := true, apart := false }
def StoreChecksSaid : Prop := storeChecksRow.holds Try.pinned (OpenSpec.ofChange storeChecksSpec)

/-- ITS FALSE NEIGHBOUR: 'it returns false'. Refute it at one input. -/
def storeChecksWrong : ChangeSpec := { name := "storeChecks", fn := fun _ => fun
  | [d] => { results := [.lit (.bool false)], args := [d] }
  | _ => none }
def StoreChecksWrongFalsely : Prop := storeChecksRow.holds Try.pinned (OpenSpec.ofChange storeChecksWrong)

/-- 'appleloftlaw.BlobPuts': WHATEVER THE INPUT: true; the input reads as it did. -/
def blobPutsSpec : ChangeSpec := { name := "blobPuts", fn := fun _ => fun
  | [d1, d2] => { results := [.lit (.bool true)], args := [d1, d2] }
  | _ => none }
def blobPutsRow : OpenClaim := { program := "ytaojfpgbpakmpaa", sum := "c3d8f0d71cb29d673bdf143618f64507289835b9311cbf3bc304e1ae3cc68ffc", func := "appleloft/appleloftlaw.BlobPuts", spec := "blobPuts", inPlace := ["internal/bytealg.IndexByteString", "internal/abi.NoEscape", "internal/bytealg.abigen_runtime_cmpstring", "slices.overlaps[appleloft/api.Blob]"], unfollowed := true, recurses := true, apart := false }
def BlobPutsSaid : Prop := blobPutsRow.holds Try.pinned (OpenSpec.ofChange blobPutsSpec)

/-- ITS FALSE NEIGHBOUR: 'it returns false'. Refute it at one input. -/
def blobPutsWrong : ChangeSpec := { name := "blobPuts", fn := fun _ => fun
  | [d1, d2] => { results := [.lit (.bool false)], args := [d1, d2] }
  | _ => none }
def BlobPutsWrongFalsely : Prop := blobPutsRow.holds Try.pinned (OpenSpec.ofChange blobPutsWrong)

/-- 'appleloftlaw.StoreGets': WHATEVER THE INPUT: true; the input reads as it did. -/
def storeGetsSpec : ChangeSpec := { name := "storeGets", fn := fun _ => fun
  | [d1, d2] => { results := [.lit (.bool true)], args := [d1, d2] }
  | _ => none }
def storeGetsRow : OpenClaim := { program := "ytaojfpgbpakmpaa", sum := "c3d8f0d71cb29d673bdf143618f64507289835b9311cbf3bc304e1ae3cc68ffc", func := "appleloft/appleloftlaw.StoreGets", spec := "storeGets", inPlace := ["internal/bytealg.IndexByteString", "internal/abi.NoEscape"], unfollowed := true, recurses := true, apart := false }
def StoreGetsSaid : Prop := storeGetsRow.holds Try.pinned (OpenSpec.ofChange storeGetsSpec)

/-- ITS FALSE NEIGHBOUR: 'it returns false'. Refute it at one input. -/
def storeGetsWrong : ChangeSpec := { name := "storeGets", fn := fun _ => fun
  | [d1, d2] => { results := [.lit (.bool false)], args := [d1, d2] }
  | _ => none }
def StoreGetsWrongFalsely : Prop := storeGetsRow.holds Try.pinned (OpenSpec.ofChange storeGetsWrong)

/-- 'appleloftlaw.SweepSteps': WHATEVER THE INPUT: true; the input reads as it did. -/
def sweepStepsSpec : ChangeSpec := { name := "sweepSteps", fn := fun _ => fun
  | [d1, d2] => { results := [.lit (.bool true)], args := [d1, d2] }
  | _ => none }
def sweepStepsRow : OpenClaim := { program := "ytaojfpgbpakmpaa", sum := "c3d8f0d71cb29d673bdf143618f64507289835b9311cbf3bc304e1ae3cc68ffc", func := "appleloft/appleloftlaw.SweepSteps", spec := "sweepSteps", inPlace := ["internal/bytealg.IndexByteString", "internal/abi.NoEscape"], unfollowed := true, recurses := true, apart := false }
def SweepStepsSaid : Prop := sweepStepsRow.holds Try.pinned (OpenSpec.ofChange sweepStepsSpec)

/-- ITS FALSE NEIGHBOUR: 'it returns false'. Refute it at one input. -/
def sweepStepsWrong : ChangeSpec := { name := "sweepSteps", fn := fun _ => fun
  | [d1, d2] => { results := [.lit (.bool false)], args := [d1, d2] }
  | _ => none }
def SweepStepsWrongFalsely : Prop := sweepStepsRow.holds Try.pinned (OpenSpec.ofChange sweepStepsWrong)

/-- 'appleloftlaw.StoreHolds': WHATEVER THE INPUT: true; the input reads as it did. -/
def storeHoldsSpec : ChangeSpec := { name := "storeHolds", fn := fun _ => fun
  | [d1, d2, d3] => { results := [.lit (.bool true)], args := [d1, d2, d3] }
  | _ => none }
def storeHoldsRow : OpenClaim := { program := "ytaojfpgbpakmpaa", sum := "c3d8f0d71cb29d673bdf143618f64507289835b9311cbf3bc304e1ae3cc68ffc", func := "appleloft/appleloftlaw.StoreHolds", spec := "storeHolds", inPlace := ["internal/bytealg.IndexByteString", "internal/abi.NoEscape"], unfollowed := true, recurses := true, apart := false }
def StoreHoldsSaid : Prop := storeHoldsRow.holds Try.pinned (OpenSpec.ofChange storeHoldsSpec)

/-- ITS FALSE NEIGHBOUR: 'it returns false'. Refute it at one input. -/
def storeHoldsWrong : ChangeSpec := { name := "storeHolds", fn := fun _ => fun
  | [d1, d2, d3] => { results := [.lit (.bool false)], args := [d1, d2, d3] }
  | _ => none }
def StoreHoldsWrongFalsely : Prop := storeHoldsRow.holds Try.pinned (OpenSpec.ofChange storeHoldsWrong)

/-- 'appleloftlaw.StorePutsBlob': WHATEVER THE INPUT: true; the input reads as it did. -/
def storePutsBlobSpec : ChangeSpec := { name := "storePutsBlob", fn := fun _ => fun
  | [d1, d2] => { results := [.lit (.bool true)], args := [d1, d2] }
  | _ => none }
def storePutsBlobRow : OpenClaim := { program := "ytaojfpgbpakmpaa", sum := "c3d8f0d71cb29d673bdf143618f64507289835b9311cbf3bc304e1ae3cc68ffc", func := "appleloft/appleloftlaw.StorePutsBlob", spec := "storePutsBlob", inPlace := ["internal/bytealg.IndexByteString", "internal/abi.NoEscape", "internal/bytealg.abigen_runtime_cmpstring", "slices.overlaps[appleloft/api.Blob]"], unfollowed := true, recurses := true, apart := false }
def StorePutsBlobSaid : Prop := storePutsBlobRow.holds Try.pinned (OpenSpec.ofChange storePutsBlobSpec)

/-- ITS FALSE NEIGHBOUR: 'it returns false'. Refute it at one input. -/
def storePutsBlobWrong : ChangeSpec := { name := "storePutsBlob", fn := fun _ => fun
  | [d1, d2] => { results := [.lit (.bool false)], args := [d1, d2] }
  | _ => none }
def StorePutsBlobWrongFalsely : Prop := storePutsBlobRow.holds Try.pinned (OpenSpec.ofChange storePutsBlobWrong)

/-- 'appleloftlaw.StorePuts': WHATEVER THE INPUT: true; the input reads as it did. -/
def storePutsSpec : ChangeSpec := { name := "storePuts", fn := fun _ => fun
  | [d1, d2, d3] => { results := [.lit (.bool true)], args := [d1, d2, d3] }
  | _ => none }
def storePutsRow : OpenClaim := { program := "ytaojfpgbpakmpaa", sum := "c3d8f0d71cb29d673bdf143618f64507289835b9311cbf3bc304e1ae3cc68ffc", func := "appleloft/appleloftlaw.StorePuts", spec := "storePuts", inPlace := ["internal/bytealg.IndexByteString", "internal/abi.NoEscape", "internal/bytealg.abigen_runtime_cmpstring", "slices.overlaps[appleloft/api.Entry]"], unfollowed := true, recurses := true, apart := false }
def StorePutsSaid : Prop := storePutsRow.holds Try.pinned (OpenSpec.ofChange storePutsSpec)

/-- ITS FALSE NEIGHBOUR: 'it returns false'. Refute it at one input. -/
def storePutsWrong : ChangeSpec := { name := "storePuts", fn := fun _ => fun
  | [d1, d2, d3] => { results := [.lit (.bool false)], args := [d1, d2, d3] }
  | _ => none }
def StorePutsWrongFalsely : Prop := storePutsRow.holds Try.pinned (OpenSpec.ofChange storePutsWrong)

/- THE SECOND FORM. 'bulk': how many values and letters a reading holds, each counted each time it is reached (what is shared counts as often as it is met; a slice's spare places count too). A statement '..UptoSaid' is the law's where the arguments, and the package variables that the reading takes, are together of bulk at most 1048576: NARROWER than '..Said'. Prove '..Said' where nothing that the law and all that it calls make is longer than what came in: it says more and counts as full. Else prove '..UptoSaid'. A law counts once. -/
mutual
def uptoBulk {H : Type} : DataW H → Nat
  | .lit (.string bytes) => bytes.length + 1
  | .lit _ => 1
  | .nil => 1
  | .ptr d => uptoBulk d + 1
  | .slice elems spare => uptoBulkAll elems + uptoBulkAll spare + 1
  | .agg parts => uptoBulkAll parts + 1
  | .iface _ d => uptoBulk d + 1
  | .map entries => uptoBulkEntries entries + 1
  | .held _ => 1
def uptoBulkAll {H : Type} : List (DataW H) → Nat
  | [] => 0
  | d :: r => uptoBulk d + uptoBulkAll r
def uptoBulkEntries {H : Type} : List (Lit × DataW H) → Nat
  | [] => 0
  | x :: r => uptoBulkEntry x + uptoBulkEntries r
def uptoBulkEntry {H : Type} : Lit × DataW H → Nat
  | (.string bytes, d) => bytes.length + uptoBulk d + 1
  | (_, d) => uptoBulk d + 1
 end
def uptoSmall : (H : Type) → List (DataW H) → Bool := fun _ ds => decide (uptoBulkAll ds ≤ 1048576)
def OpenSpec.upto (s : _root_.Go.ChangeSpec) : _root_.Go.OpenSpec := { _root_.Go.OpenSpec.ofChange s with cond := some uptoSmall }

/-- 'appleloftlaw.FlightChecks', WHERE WHAT IT READS IS OF BULK AT MOST 1048576: true; the input reads as it did. -/
def flightChecksUptoRow : OpenClaim := { program := "ytaojfpgbpakmpaa", sum := "c3d8f0d71cb29d673bdf143618f64507289835b9311cbf3bc304e1ae3cc68ffc", func := "appleloft/appleloftlaw.FlightChecks", spec := "flightChecks", inPlace := ["internal/bytealg.IndexByteString"], unfollowed := true, recurses := true, apart := false, narrowed := true }
def FlightChecksUptoSaid : Prop := flightChecksUptoRow.holds Try.pinned (OpenSpec.upto flightChecksSpec)

/-- 'appleloftlaw.FlightLands', WHERE WHAT IT READS IS OF BULK AT MOST 1048576: true; the input reads as it did. -/
def flightLandsUptoRow : OpenClaim := { program := "ytaojfpgbpakmpaa", sum := "c3d8f0d71cb29d673bdf143618f64507289835b9311cbf3bc304e1ae3cc68ffc", func := "appleloft/appleloftlaw.FlightLands", spec := "flightLands", inPlace := ["internal/bytealg.IndexByteString"], unfollowed := true, recurses := true, apart := false, narrowed := true }
def FlightLandsUptoSaid : Prop := flightLandsUptoRow.holds Try.pinned (OpenSpec.upto flightLandsSpec)

/-- 'appleloftlaw.FlightJoins', WHERE WHAT IT READS IS OF BULK AT MOST 1048576: true; the input reads as it did. -/
def flightJoinsUptoRow : OpenClaim := { program := "ytaojfpgbpakmpaa", sum := "c3d8f0d71cb29d673bdf143618f64507289835b9311cbf3bc304e1ae3cc68ffc", func := "appleloft/appleloftlaw.FlightJoins", spec := "flightJoins", inPlace := ["internal/bytealg.IndexByteString"], unfollowed := true, recurses := true, apart := false, narrowed := true }
def FlightJoinsUptoSaid : Prop := flightJoinsUptoRow.holds Try.pinned (OpenSpec.upto flightJoinsSpec)

/-- 'appleloftlaw.OrderEncodes', WHERE WHAT IT READS IS OF BULK AT MOST 1048576: true; the input reads as it did. -/
def orderEncodesUptoRow : OpenClaim := { program := "ytaojfpgbpakmpaa", sum := "c3d8f0d71cb29d673bdf143618f64507289835b9311cbf3bc304e1ae3cc68ffc", func := "appleloft/appleloftlaw.OrderEncodes", spec := "orderEncodes", inPlace := ["internal/bytealg.IndexByteString"], unfollowed := true, recurses := true, apart := false, narrowed := true }
def OrderEncodesUptoSaid : Prop := orderEncodesUptoRow.holds Try.pinned (OpenSpec.upto orderEncodesSpec)

/-- 'appleloftlaw.IndexDrops', WHERE WHAT IT READS IS OF BULK AT MOST 1048576: true; the input reads as it did. -/
def indexDropsUptoRow : OpenClaim := { program := "ytaojfpgbpakmpaa", sum := "c3d8f0d71cb29d673bdf143618f64507289835b9311cbf3bc304e1ae3cc68ffc", func := "appleloft/appleloftlaw.IndexDrops", spec := "indexDrops", inPlace := ["internal/bytealg.IndexByteString"], unfollowed := true, recurses := true, apart := false, narrowed := true }
def IndexDropsUptoSaid : Prop := indexDropsUptoRow.holds Try.pinned (OpenSpec.upto indexDropsSpec)

/-- 'appleloftlaw.ManifestDecodes', WHERE WHAT IT READS IS OF BULK AT MOST 1048576: true; the input reads as it did. -/
def manifestDecodesUptoRow : OpenClaim := { program := "ytaojfpgbpakmpaa", sum := "c3d8f0d71cb29d673bdf143618f64507289835b9311cbf3bc304e1ae3cc68ffc", func := "appleloft/appleloftlaw.ManifestDecodes", spec := "manifestDecodes", inPlace := ["internal/abi.NoEscape", "internal/bytealg.IndexByteString"], apart := false, narrowed := true }
def ManifestDecodesUptoSaid : Prop := manifestDecodesUptoRow.holds Try.pinned (OpenSpec.upto manifestDecodesSpec)

/-- 'appleloftlaw.ReachParts', WHERE WHAT IT READS IS OF BULK AT MOST 1048576: true; the input reads as it did. -/
def reachPartsUptoRow : OpenClaim := { program := "ytaojfpgbpakmpaa", sum := "c3d8f0d71cb29d673bdf143618f64507289835b9311cbf3bc304e1ae3cc68ffc", func := "appleloft/appleloftlaw.ReachParts", spec := "reachParts", inPlace := ["internal/abi.NoEscape", "internal/bytealg.IndexByteString"], apart := false, narrowed := true }
def ReachPartsUptoSaid : Prop := reachPartsUptoRow.holds Try.pinned (OpenSpec.upto reachPartsSpec)

/-- 'appleloftlaw.ActionDecodes', WHERE WHAT IT READS IS OF BULK AT MOST 1048576: true; the input reads as it did. -/
def actionDecodesUptoRow : OpenClaim := { program := "ytaojfpgbpakmpaa", sum := "c3d8f0d71cb29d673bdf143618f64507289835b9311cbf3bc304e1ae3cc68ffc", func := "appleloft/appleloftlaw.ActionDecodes", spec := "actionDecodes", inPlace := ["internal/abi.NoEscape", "internal/bytealg.IndexByteString"], unfollowed := true, recurses := true, apart := false, narrowed := true }
def ActionDecodesUptoSaid : Prop := actionDecodesUptoRow.holds Try.pinned (OpenSpec.upto actionDecodesSpec)

/-- 'appleloftlaw.BlobDrops', WHERE WHAT IT READS IS OF BULK AT MOST 1048576: true; the input reads as it did. -/
def blobDropsUptoRow : OpenClaim := { program := "ytaojfpgbpakmpaa", sum := "c3d8f0d71cb29d673bdf143618f64507289835b9311cbf3bc304e1ae3cc68ffc", func := "appleloft/appleloftlaw.BlobDrops", spec := "blobDrops", inPlace := ["internal/bytealg.IndexByteString", "internal/abi.NoEscape"], unfollowed := true, recurses := true, apart := false, narrowed := true }
def BlobDropsUptoSaid : Prop := blobDropsUptoRow.holds Try.pinned (OpenSpec.upto blobDropsSpec)

/-- 'appleloftlaw.IndexPuts', WHERE WHAT IT READS IS OF BULK AT MOST 1048576: true; the input reads as it did. -/
def indexPutsUptoRow : OpenClaim := { program := "ytaojfpgbpakmpaa", sum := "c3d8f0d71cb29d673bdf143618f64507289835b9311cbf3bc304e1ae3cc68ffc", func := "appleloft/appleloftlaw.IndexPuts", spec := "indexPuts", inPlace := ["internal/bytealg.IndexByteString", "internal/bytealg.abigen_runtime_cmpstring", "slices.overlaps[appleloft/api.Entry]"], unfollowed := true, recurses := true, apart := false, narrowed := true }
def IndexPutsUptoSaid : Prop := indexPutsUptoRow.holds Try.pinned (OpenSpec.upto indexPutsSpec)

/-- 'appleloftlaw.OrderDecodes', WHERE WHAT IT READS IS OF BULK AT MOST 1048576: true; the input reads as it did. -/
def orderDecodesUptoRow : OpenClaim := { program := "ytaojfpgbpakmpaa", sum := "c3d8f0d71cb29d673bdf143618f64507289835b9311cbf3bc304e1ae3cc68ffc", func := "appleloft/appleloftlaw.OrderDecodes", spec := "orderDecodes", inPlace := ["internal/abi.NoEscape", "internal/bytealg.IndexByteString"], unfollowed := true, recurses := true, apart := false, narrowed := true }
def OrderDecodesUptoSaid : Prop := orderDecodesUptoRow.holds Try.pinned (OpenSpec.upto orderDecodesSpec)

/-- 'appleloftlaw.ActionKeys', WHERE WHAT IT READS IS OF BULK AT MOST 1048576: true; the input reads as it did. -/
def actionKeysUptoRow : OpenClaim := { program := "ytaojfpgbpakmpaa", sum := "c3d8f0d71cb29d673bdf143618f64507289835b9311cbf3bc304e1ae3cc68ffc", func := "appleloft/appleloftlaw.ActionKeys", spec := "actionKeys", inPlace := ["internal/bytealg.IndexByteString", "internal/bytealg.MakeNoZero", "internal/abi.NoEscape"], unfollowed := true, recurses := true, apart := false, narrowed := true }
def ActionKeysUptoSaid : Prop := actionKeysUptoRow.holds Try.pinned (OpenSpec.upto actionKeysSpec)

/-- 'appleloftlaw.StoreGetsBlob', WHERE WHAT IT READS IS OF BULK AT MOST 1048576: true; the input reads as it did. -/
def storeGetsBlobUptoRow : OpenClaim := { program := "ytaojfpgbpakmpaa", sum := "c3d8f0d71cb29d673bdf143618f64507289835b9311cbf3bc304e1ae3cc68ffc", func := "appleloft/appleloftlaw.StoreGetsBlob", spec := "storeGetsBlob", inPlace := ["internal/bytealg.IndexByteString", "internal/abi.NoEscape"], unfollowed := true, recurses := true, apart := false, narrowed := true }
def StoreGetsBlobUptoSaid : Prop := storeGetsBlobUptoRow.holds Try.pinned (OpenSpec.upto storeGetsBlobSpec)

/-- 'appleloftlaw.StoreChecks', WHERE WHAT IT READS IS OF BULK AT MOST 1048576: true; the input reads as it did. -/
def storeChecksUptoRow : OpenClaim := { program := "ytaojfpgbpakmpaa", sum := "c3d8f0d71cb29d673bdf143618f64507289835b9311cbf3bc304e1ae3cc68ffc", func := "appleloft/appleloftlaw.StoreChecks", spec := "storeChecks", inPlace := ["internal/bytealg.IndexByteString", "internal/abi.NoEscape"], unfollowed := true, recurses := true, apart := false, narrowed := true }
def StoreChecksUptoSaid : Prop := storeChecksUptoRow.holds Try.pinned (OpenSpec.upto storeChecksSpec)

/-- 'appleloftlaw.BlobPuts', WHERE WHAT IT READS IS OF BULK AT MOST 1048576: true; the input reads as it did. -/
def blobPutsUptoRow : OpenClaim := { program := "ytaojfpgbpakmpaa", sum := "c3d8f0d71cb29d673bdf143618f64507289835b9311cbf3bc304e1ae3cc68ffc", func := "appleloft/appleloftlaw.BlobPuts", spec := "blobPuts", inPlace := ["internal/bytealg.IndexByteString", "internal/abi.NoEscape", "internal/bytealg.abigen_runtime_cmpstring", "slices.overlaps[appleloft/api.Blob]"], unfollowed := true, recurses := true, apart := false, narrowed := true }
def BlobPutsUptoSaid : Prop := blobPutsUptoRow.holds Try.pinned (OpenSpec.upto blobPutsSpec)

/-- 'appleloftlaw.StoreGets', WHERE WHAT IT READS IS OF BULK AT MOST 1048576: true; the input reads as it did. -/
def storeGetsUptoRow : OpenClaim := { program := "ytaojfpgbpakmpaa", sum := "c3d8f0d71cb29d673bdf143618f64507289835b9311cbf3bc304e1ae3cc68ffc", func := "appleloft/appleloftlaw.StoreGets", spec := "storeGets", inPlace := ["internal/bytealg.IndexByteString", "internal/abi.NoEscape"], unfollowed := true, recurses := true, apart := false, narrowed := true }
def StoreGetsUptoSaid : Prop := storeGetsUptoRow.holds Try.pinned (OpenSpec.upto storeGetsSpec)

/-- 'appleloftlaw.SweepSteps', WHERE WHAT IT READS IS OF BULK AT MOST 1048576: true; the input reads as it did. -/
def sweepStepsUptoRow : OpenClaim := { program := "ytaojfpgbpakmpaa", sum := "c3d8f0d71cb29d673bdf143618f64507289835b9311cbf3bc304e1ae3cc68ffc", func := "appleloft/appleloftlaw.SweepSteps", spec := "sweepSteps", inPlace := ["internal/bytealg.IndexByteString", "internal/abi.NoEscape"], unfollowed := true, recurses := true, apart := false, narrowed := true }
def SweepStepsUptoSaid : Prop := sweepStepsUptoRow.holds Try.pinned (OpenSpec.upto sweepStepsSpec)

/-- 'appleloftlaw.StoreHolds', WHERE WHAT IT READS IS OF BULK AT MOST 1048576: true; the input reads as it did. -/
def storeHoldsUptoRow : OpenClaim := { program := "ytaojfpgbpakmpaa", sum := "c3d8f0d71cb29d673bdf143618f64507289835b9311cbf3bc304e1ae3cc68ffc", func := "appleloft/appleloftlaw.StoreHolds", spec := "storeHolds", inPlace := ["internal/bytealg.IndexByteString", "internal/abi.NoEscape"], unfollowed := true, recurses := true, apart := false, narrowed := true }
def StoreHoldsUptoSaid : Prop := storeHoldsUptoRow.holds Try.pinned (OpenSpec.upto storeHoldsSpec)

/-- 'appleloftlaw.StorePutsBlob', WHERE WHAT IT READS IS OF BULK AT MOST 1048576: true; the input reads as it did. -/
def storePutsBlobUptoRow : OpenClaim := { program := "ytaojfpgbpakmpaa", sum := "c3d8f0d71cb29d673bdf143618f64507289835b9311cbf3bc304e1ae3cc68ffc", func := "appleloft/appleloftlaw.StorePutsBlob", spec := "storePutsBlob", inPlace := ["internal/bytealg.IndexByteString", "internal/abi.NoEscape", "internal/bytealg.abigen_runtime_cmpstring", "slices.overlaps[appleloft/api.Blob]"], unfollowed := true, recurses := true, apart := false, narrowed := true }
def StorePutsBlobUptoSaid : Prop := storePutsBlobUptoRow.holds Try.pinned (OpenSpec.upto storePutsBlobSpec)

/-- 'appleloftlaw.StorePuts', WHERE WHAT IT READS IS OF BULK AT MOST 1048576: true; the input reads as it did. -/
def storePutsUptoRow : OpenClaim := { program := "ytaojfpgbpakmpaa", sum := "c3d8f0d71cb29d673bdf143618f64507289835b9311cbf3bc304e1ae3cc68ffc", func := "appleloft/appleloftlaw.StorePuts", spec := "storePuts", inPlace := ["internal/bytealg.IndexByteString", "internal/abi.NoEscape", "internal/bytealg.abigen_runtime_cmpstring", "slices.overlaps[appleloft/api.Entry]"], unfollowed := true, recurses := true, apart := false, narrowed := true }
def StorePutsUptoSaid : Prop := storePutsUptoRow.holds Try.pinned (OpenSpec.upto storePutsSpec)

end Rows
end Go.Proofs.Ytaojfpgbpakmpaa
