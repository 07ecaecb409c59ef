/-
  No cell of these rows narrows 'for every input' (looked for: loops, veiled, ifaces, maps, wideKeys, modest, calm, conditions, laid).
  DERIVED. THE GIVEN ROWS OF THIS SEAT. 37 by the template 'for every input the law returns true; each argument reads behind the call as it read before'; 0 by the template 'total and deterministic' (their statements: YtamepigaenkidaaTotals.lean).
  GIVEN WITH THE SEED: the statements are not yours to turn. If you find one false, say at which input.
  Laid BY PROGRAM, IN A SANDBOX (cutbox-rows.mjs): the forced cells as the released guide's own fill.sh prints them over the translation 5ea681beb24248ba… (all of the seat's roots in one cut). By AI agents, Wed Nov 11 2026. No macro, syntax, notation, axiom, sorry.
-/
import Derived.Test.YtamepigaenkidaaChecked
import GoSem.Claim
import GoSem.ClaimJoined
import GoSem.ClaimMapViews
import Derived.JoinedTies
import Derived.KernelRfl
namespace Go.Proofs.Ytamepigaenkidaa
/- THE CELL 'sum', in the pinned program and in every row, IS THE sha256 OF THE DUMP (.gsa) THAT YtamepigaenkidaaProg.lean LOADS. Nothing in Lean hashes anything: it is a label: what it is worth is what the hold of that sum in a sandbox is worth. -/
noncomputable def Try.pinned : Pinned := { name := "ytamepigaenkidaa", sum := "5ea681beb24248ba69a2dedcb6a541fe58a5a7a09422175b3262cba60d2ce57f", checked := Try.checked }
namespace Rows
def none {H : Type} : Left H := { results := [], args := [] }

/-- 'appleloftlaw.Names': WHATEVER THE INPUT: true; the input reads as it did. -/
def namesSpec : ChangeSpec := { name := "names", fn := fun _ => fun
  | [] => { results := [.lit (.bool true)], args := [] }
  | _ => none }
def namesRow : OpenClaim := { program := "ytamepigaenkidaa", sum := "5ea681beb24248ba69a2dedcb6a541fe58a5a7a09422175b3262cba60d2ce57f", func := "appleloft/appleloftlaw.Names", spec := "names", apart := false }
def NamesSaid : Prop := namesRow.holds Try.pinned (OpenSpec.ofChange namesSpec)

/-- ITS FALSE NEIGHBOUR: 'it returns false'. Refute it at one input. -/
def namesWrong : ChangeSpec := { name := "names", fn := fun _ => fun
  | [] => { results := [.lit (.bool false)], args := [] }
  | _ => none }
def NamesWrongFalsely : Prop := namesRow.holds Try.pinned (OpenSpec.ofChange namesWrong)

/-- 'appleloftlaw.WordBits': WHATEVER THE INPUT: true; the input reads as it did. -/
def wordBitsSpec : ChangeSpec := { name := "wordBits", fn := fun _ => fun
  | [d1, d2, d3] => { results := [.lit (.bool true)], args := [d1, d2, d3] }
  | _ => none }
def wordBitsRow : OpenClaim := { program := "ytamepigaenkidaa", sum := "5ea681beb24248ba69a2dedcb6a541fe58a5a7a09422175b3262cba60d2ce57f", func := "appleloft/appleloftlaw.WordBits", spec := "wordBits", apart := false }
def WordBitsSaid : Prop := wordBitsRow.holds Try.pinned (OpenSpec.ofChange wordBitsSpec)

/-- ITS FALSE NEIGHBOUR: 'it returns false'. Refute it at one input. -/
def wordBitsWrong : ChangeSpec := { name := "wordBits", fn := fun _ => fun
  | [d1, d2, d3] => { results := [.lit (.bool false)], args := [d1, d2, d3] }
  | _ => none }
def WordBitsWrongFalsely : Prop := wordBitsRow.holds Try.pinned (OpenSpec.ofChange wordBitsWrong)

/-- 'appleloftlaw.WireNumbers': WHATEVER THE INPUT: true; the input reads as it did. -/
def wireNumbersSpec : ChangeSpec := { name := "wireNumbers", fn := fun _ => fun
  | [d] => { results := [.lit (.bool true)], args := [d] }
  | _ => none }
def wireNumbersRow : OpenClaim := { program := "ytamepigaenkidaa", sum := "5ea681beb24248ba69a2dedcb6a541fe58a5a7a09422175b3262cba60d2ce57f", func := "appleloft/appleloftlaw.WireNumbers", spec := "wireNumbers", apart := false }
def WireNumbersSaid : Prop := wireNumbersRow.holds Try.pinned (OpenSpec.ofChange wireNumbersSpec)

/-- ITS FALSE NEIGHBOUR: 'it returns false'. Refute it at one input. -/
def wireNumbersWrong : ChangeSpec := { name := "wireNumbers", fn := fun _ => fun
  | [d] => { results := [.lit (.bool false)], args := [d] }
  | _ => none }
def WireNumbersWrongFalsely : Prop := wireNumbersRow.holds Try.pinned (OpenSpec.ofChange wireNumbersWrong)

/-- 'appleloftlaw.IndexOlds': WHATEVER THE INPUT: true; the input reads as it did. -/
def indexOldsSpec : ChangeSpec := { name := "indexOlds", fn := fun _ => fun
  | [d] => { results := [.lit (.bool true)], args := [d] }
  | _ => none }
def indexOldsRow : OpenClaim := { program := "ytamepigaenkidaa", sum := "5ea681beb24248ba69a2dedcb6a541fe58a5a7a09422175b3262cba60d2ce57f", func := "appleloft/appleloftlaw.IndexOlds", spec := "indexOlds", apart := false }
def IndexOldsSaid : Prop := indexOldsRow.holds Try.pinned (OpenSpec.ofChange indexOldsSpec)

/-- ITS FALSE NEIGHBOUR: 'it returns false'. Refute it at one input. -/
def indexOldsWrong : ChangeSpec := { name := "indexOlds", fn := fun _ => fun
  | [d] => { results := [.lit (.bool false)], args := [d] }
  | _ => none }
def IndexOldsWrongFalsely : Prop := indexOldsRow.holds Try.pinned (OpenSpec.ofChange indexOldsWrong)

/-- 'appleloftlaw.RoomTells': WHATEVER THE INPUT: true; the input reads as it did. -/
def roomTellsSpec : ChangeSpec := { name := "roomTells", fn := fun _ => fun
  | [d1, d2, d3] => { results := [.lit (.bool true)], args := [d1, d2, d3] }
  | _ => none }
def roomTellsRow : OpenClaim := { program := "ytamepigaenkidaa", sum := "5ea681beb24248ba69a2dedcb6a541fe58a5a7a09422175b3262cba60d2ce57f", func := "appleloft/appleloftlaw.RoomTells", spec := "roomTells", apart := false }
def RoomTellsSaid : Prop := roomTellsRow.holds Try.pinned (OpenSpec.ofChange roomTellsSpec)

/-- ITS FALSE NEIGHBOUR: 'it returns false'. Refute it at one input. -/
def roomTellsWrong : ChangeSpec := { name := "roomTells", fn := fun _ => fun
  | [d1, d2, d3] => { results := [.lit (.bool false)], args := [d1, d2, d3] }
  | _ => none }
def RoomTellsWrongFalsely : Prop := roomTellsRow.holds Try.pinned (OpenSpec.ofChange roomTellsWrong)

/-- 'appleloftlaw.PinMoves': WHATEVER THE INPUT: true; the input reads as it did. -/
def pinMovesSpec : ChangeSpec := { name := "pinMoves", fn := fun _ => fun
  | [d1, d2] => { results := [.lit (.bool true)], args := [d1, d2] }
  | _ => none }
def pinMovesRow : OpenClaim := { program := "ytamepigaenkidaa", sum := "5ea681beb24248ba69a2dedcb6a541fe58a5a7a09422175b3262cba60d2ce57f", func := "appleloft/appleloftlaw.PinMoves", spec := "pinMoves", apart := false }
def PinMovesSaid : Prop := pinMovesRow.holds Try.pinned (OpenSpec.ofChange pinMovesSpec)

/-- ITS FALSE NEIGHBOUR: 'it returns false'. Refute it at one input. -/
def pinMovesWrong : ChangeSpec := { name := "pinMoves", fn := fun _ => fun
  | [d1, d2] => { results := [.lit (.bool false)], args := [d1, d2] }
  | _ => none }
def PinMovesWrongFalsely : Prop := pinMovesRow.holds Try.pinned (OpenSpec.ofChange pinMovesWrong)

/-- 'appleloftlaw.WireReads': WHATEVER THE INPUT: true; the input reads as it did. -/
def wireReadsSpec : ChangeSpec := { name := "wireReads", fn := fun _ => fun
  | [d] => { results := [.lit (.bool true)], args := [d] }
  | _ => none }
def wireReadsRow : OpenClaim := { program := "ytamepigaenkidaa", sum := "5ea681beb24248ba69a2dedcb6a541fe58a5a7a09422175b3262cba60d2ce57f", func := "appleloft/appleloftlaw.WireReads", spec := "wireReads", apart := false }
def WireReadsSaid : Prop := wireReadsRow.holds Try.pinned (OpenSpec.ofChange wireReadsSpec)

/-- ITS FALSE NEIGHBOUR: 'it returns false'. Refute it at one input. -/
def wireReadsWrong : ChangeSpec := { name := "wireReads", fn := fun _ => fun
  | [d] => { results := [.lit (.bool false)], args := [d] }
  | _ => none }
def WireReadsWrongFalsely : Prop := wireReadsRow.holds Try.pinned (OpenSpec.ofChange wireReadsWrong)

/-- 'appleloftlaw.RoomFits': WHATEVER THE INPUT: true; the input reads as it did. -/
def roomFitsSpec : ChangeSpec := { name := "roomFits", fn := fun _ => fun
  | [d1, d2, d3] => { results := [.lit (.bool true)], args := [d1, d2, d3] }
  | _ => none }
def roomFitsRow : OpenClaim := { program := "ytamepigaenkidaa", sum := "5ea681beb24248ba69a2dedcb6a541fe58a5a7a09422175b3262cba60d2ce57f", func := "appleloft/appleloftlaw.RoomFits", spec := "roomFits", apart := false }
def RoomFitsSaid : Prop := roomFitsRow.holds Try.pinned (OpenSpec.ofChange roomFitsSpec)

/-- ITS FALSE NEIGHBOUR: 'it returns false'. Refute it at one input. -/
def roomFitsWrong : ChangeSpec := { name := "roomFits", fn := fun _ => fun
  | [d1, d2, d3] => { results := [.lit (.bool false)], args := [d1, d2, d3] }
  | _ => none }
def RoomFitsWrongFalsely : Prop := roomFitsRow.holds Try.pinned (OpenSpec.ofChange roomFitsWrong)

/-- 'appleloftlaw.WordTurns': WHATEVER THE INPUT: true; the input reads as it did. -/
def wordTurnsSpec : ChangeSpec := { name := "wordTurns", fn := fun _ => fun
  | [d1, d2] => { results := [.lit (.bool true)], args := [d1, d2] }
  | _ => none }
def wordTurnsRow : OpenClaim := { program := "ytamepigaenkidaa", sum := "5ea681beb24248ba69a2dedcb6a541fe58a5a7a09422175b3262cba60d2ce57f", func := "appleloft/appleloftlaw.WordTurns", spec := "wordTurns", apart := false }
def WordTurnsSaid : Prop := wordTurnsRow.holds Try.pinned (OpenSpec.ofChange wordTurnsSpec)

/-- ITS FALSE NEIGHBOUR: 'it returns false'. Refute it at one input. -/
def wordTurnsWrong : ChangeSpec := { name := "wordTurns", fn := fun _ => fun
  | [d1, d2] => { results := [.lit (.bool false)], args := [d1, d2] }
  | _ => none }
def WordTurnsWrongFalsely : Prop := wordTurnsRow.holds Try.pinned (OpenSpec.ofChange wordTurnsWrong)

/-- 'appleloftlaw.HexChecks': WHATEVER THE INPUT: true; the input reads as it did. -/
def hexChecksSpec : ChangeSpec := { name := "hexChecks", fn := fun _ => fun
  | [d] => { results := [.lit (.bool true)], args := [d] }
  | _ => none }
def hexChecksRow : OpenClaim := { program := "ytamepigaenkidaa", sum := "5ea681beb24248ba69a2dedcb6a541fe58a5a7a09422175b3262cba60d2ce57f", func := "appleloft/appleloftlaw.HexChecks", spec := "hexChecks", inPlace := ["internal/bytealg.IndexByteString"], apart := false }
def HexChecksSaid : Prop := hexChecksRow.holds Try.pinned (OpenSpec.ofChange hexChecksSpec)

/-- ITS FALSE NEIGHBOUR: 'it returns false'. Refute it at one input. -/
def hexChecksWrong : ChangeSpec := { name := "hexChecks", fn := fun _ => fun
  | [d] => { results := [.lit (.bool false)], args := [d] }
  | _ => none }
def HexChecksWrongFalsely : Prop := hexChecksRow.holds Try.pinned (OpenSpec.ofChange hexChecksWrong)

/-- 'appleloftlaw.WordBytes': WHATEVER THE INPUT: true; the input reads as it did. -/
def wordBytesSpec : ChangeSpec := { name := "wordBytes", fn := fun _ => fun
  | [d1, d2] => { results := [.lit (.bool true)], args := [d1, d2] }
  | _ => none }
def wordBytesRow : OpenClaim := { program := "ytamepigaenkidaa", sum := "5ea681beb24248ba69a2dedcb6a541fe58a5a7a09422175b3262cba60d2ce57f", func := "appleloft/appleloftlaw.WordBytes", spec := "wordBytes", apart := false }
def WordBytesSaid : Prop := wordBytesRow.holds Try.pinned (OpenSpec.ofChange wordBytesSpec)

/-- ITS FALSE NEIGHBOUR: 'it returns false'. Refute it at one input. -/
def wordBytesWrong : ChangeSpec := { name := "wordBytes", fn := fun _ => fun
  | [d1, d2] => { results := [.lit (.bool false)], args := [d1, d2] }
  | _ => none }
def WordBytesWrongFalsely : Prop := wordBytesRow.holds Try.pinned (OpenSpec.ofChange wordBytesWrong)

/-- 'appleloftlaw.HexTexts': WHATEVER THE INPUT: true; the input reads as it did. -/
def hexTextsSpec : ChangeSpec := { name := "hexTexts", fn := fun _ => fun
  | [d1, d2] => { results := [.lit (.bool true)], args := [d1, d2] }
  | _ => none }
def hexTextsRow : OpenClaim := { program := "ytamepigaenkidaa", sum := "5ea681beb24248ba69a2dedcb6a541fe58a5a7a09422175b3262cba60d2ce57f", func := "appleloft/appleloftlaw.HexTexts", spec := "hexTexts", inPlace := ["internal/abi.NoEscape", "internal/bytealg.IndexByteString"], apart := false }
def HexTextsSaid : Prop := hexTextsRow.holds Try.pinned (OpenSpec.ofChange hexTextsSpec)

/-- ITS FALSE NEIGHBOUR: 'it returns false'. Refute it at one input. -/
def hexTextsWrong : ChangeSpec := { name := "hexTexts", fn := fun _ => fun
  | [d1, d2] => { results := [.lit (.bool false)], args := [d1, d2] }
  | _ => none }
def HexTextsWrongFalsely : Prop := hexTextsRow.holds Try.pinned (OpenSpec.ofChange hexTextsWrong)

/-- 'appleloftlaw.ShaPads': WHATEVER THE INPUT: true; the input reads as it did. -/
def shaPadsSpec : ChangeSpec := { name := "shaPads", fn := fun _ => fun
  | [d] => { results := [.lit (.bool true)], args := [d] }
  | _ => none }
def shaPadsRow : OpenClaim := { program := "ytamepigaenkidaa", sum := "5ea681beb24248ba69a2dedcb6a541fe58a5a7a09422175b3262cba60d2ce57f", func := "appleloft/appleloftlaw.ShaPads", spec := "shaPads", inPlace := ["math/bits.Add64"], apart := false }
def ShaPadsSaid : Prop := shaPadsRow.holds Try.pinned (OpenSpec.ofChange shaPadsSpec)

/-- ITS FALSE NEIGHBOUR: 'it returns false'. Refute it at one input. -/
def shaPadsWrong : ChangeSpec := { name := "shaPads", fn := fun _ => fun
  | [d] => { results := [.lit (.bool false)], args := [d] }
  | _ => none }
def ShaPadsWrongFalsely : Prop := shaPadsRow.holds Try.pinned (OpenSpec.ofChange shaPadsWrong)

/-- 'appleloftlaw.WireTexts': WHATEVER THE INPUT: true; the input reads as it did. -/
def wireTextsSpec : ChangeSpec := { name := "wireTexts", fn := fun _ => fun
  | [d1, d2] => { results := [.lit (.bool true)], args := [d1, d2] }
  | _ => none }
def wireTextsRow : OpenClaim := { program := "ytamepigaenkidaa", sum := "5ea681beb24248ba69a2dedcb6a541fe58a5a7a09422175b3262cba60d2ce57f", func := "appleloft/appleloftlaw.WireTexts", spec := "wireTexts", apart := false }
def WireTextsSaid : Prop := wireTextsRow.holds Try.pinned (OpenSpec.ofChange wireTextsSpec)

/-- ITS FALSE NEIGHBOUR: 'it returns false'. Refute it at one input. -/
def wireTextsWrong : ChangeSpec := { name := "wireTexts", fn := fun _ => fun
  | [d1, d2] => { results := [.lit (.bool false)], args := [d1, d2] }
  | _ => none }
def WireTextsWrongFalsely : Prop := wireTextsRow.holds Try.pinned (OpenSpec.ofChange wireTextsWrong)

/-- 'appleloftlaw.ManifestChecks': WHATEVER THE INPUT: true; the input reads as it did. -/
def manifestChecksSpec : ChangeSpec := { name := "manifestChecks", fn := fun _ => fun
  | [d1, d2] => { results := [.lit (.bool true)], args := [d1, d2] }
  | _ => none }
def manifestChecksRow : OpenClaim := { program := "ytamepigaenkidaa", sum := "5ea681beb24248ba69a2dedcb6a541fe58a5a7a09422175b3262cba60d2ce57f", func := "appleloft/appleloftlaw.ManifestChecks", spec := "manifestChecks", inPlace := ["internal/bytealg.IndexByteString"], apart := false }
def ManifestChecksSaid : Prop := manifestChecksRow.holds Try.pinned (OpenSpec.ofChange manifestChecksSpec)

/-- ITS FALSE NEIGHBOUR: 'it returns false'. Refute it at one input. -/
def manifestChecksWrong : ChangeSpec := { name := "manifestChecks", fn := fun _ => fun
  | [d1, d2] => { results := [.lit (.bool false)], args := [d1, d2] }
  | _ => none }
def ManifestChecksWrongFalsely : Prop := manifestChecksRow.holds Try.pinned (OpenSpec.ofChange manifestChecksWrong)

/-- 'appleloftlaw.IndexChecks': WHATEVER THE INPUT: true; the input reads as it did. -/
def indexChecksSpec : ChangeSpec := { name := "indexChecks", fn := fun _ => fun
  | [d] => { results := [.lit (.bool true)], args := [d] }
  | _ => none }
def indexChecksRow : OpenClaim := { program := "ytamepigaenkidaa", sum := "5ea681beb24248ba69a2dedcb6a541fe58a5a7a09422175b3262cba60d2ce57f", func := "appleloft/appleloftlaw.IndexChecks", spec := "indexChecks", inPlace := ["internal/bytealg.IndexByteString"], apart := false }
def IndexChecksSaid : Prop := indexChecksRow.holds Try.pinned (OpenSpec.ofChange indexChecksSpec)

/-- ITS FALSE NEIGHBOUR: 'it returns false'. Refute it at one input. -/
def indexChecksWrong : ChangeSpec := { name := "indexChecks", fn := fun _ => fun
  | [d] => { results := [.lit (.bool false)], args := [d] }
  | _ => none }
def IndexChecksWrongFalsely : Prop := indexChecksRow.holds Try.pinned (OpenSpec.ofChange indexChecksWrong)

/-- 'appleloftlaw.ShaSteps': WHATEVER THE INPUT: true; the input reads as it did. -/
def shaStepsSpec : ChangeSpec := { name := "shaSteps", fn := fun _ => fun
  | [d1, d2] => { results := [.lit (.bool true)], args := [d1, d2] }
  | _ => none }
def shaStepsRow : OpenClaim := { program := "ytamepigaenkidaa", sum := "5ea681beb24248ba69a2dedcb6a541fe58a5a7a09422175b3262cba60d2ce57f", func := "appleloft/appleloftlaw.ShaSteps", spec := "shaSteps", inPlace := ["math/bits.Add64"], apart := false }
def ShaStepsSaid : Prop := shaStepsRow.holds Try.pinned (OpenSpec.ofChange shaStepsSpec)

/-- ITS FALSE NEIGHBOUR: 'it returns false'. Refute it at one input. -/
def shaStepsWrong : ChangeSpec := { name := "shaSteps", fn := fun _ => fun
  | [d1, d2] => { results := [.lit (.bool false)], args := [d1, d2] }
  | _ => none }
def ShaStepsWrongFalsely : Prop := shaStepsRow.holds Try.pinned (OpenSpec.ofChange shaStepsWrong)

/-- 'appleloftlaw.ManifestEncodes': WHATEVER THE INPUT: true; the input reads as it did. -/
def manifestEncodesSpec : ChangeSpec := { name := "manifestEncodes", fn := fun _ => fun
  | [d] => { results := [.lit (.bool true)], args := [d] }
  | _ => none }
def manifestEncodesRow : OpenClaim := { program := "ytamepigaenkidaa", sum := "5ea681beb24248ba69a2dedcb6a541fe58a5a7a09422175b3262cba60d2ce57f", func := "appleloft/appleloftlaw.ManifestEncodes", spec := "manifestEncodes", inPlace := ["internal/bytealg.IndexByteString"], unfollowed := true, recurses := true, apart := false }
def ManifestEncodesSaid : Prop := manifestEncodesRow.holds Try.pinned (OpenSpec.ofChange manifestEncodesSpec)

/-- ITS FALSE NEIGHBOUR: 'it returns false'. Refute it at one input. -/
def manifestEncodesWrong : ChangeSpec := { name := "manifestEncodes", fn := fun _ => fun
  | [d] => { results := [.lit (.bool false)], args := [d] }
  | _ => none }
def ManifestEncodesWrongFalsely : Prop := manifestEncodesRow.holds Try.pinned (OpenSpec.ofChange manifestEncodesWrong)

/-- 'appleloftlaw.FlightChecks': WHATEVER THE INPUT: true; the input reads as it did. -/
def flightChecksSpec : ChangeSpec := { name := "flightChecks", fn := fun _ => fun
  | [d1, d2] => { results := [.lit (.bool true)], args := [d1, d2] }
  | _ => none }
def flightChecksRow : OpenClaim := { program := "ytamepigaenkidaa", sum := "5ea681beb24248ba69a2dedcb6a541fe58a5a7a09422175b3262cba60d2ce57f", func := "appleloft/appleloftlaw.FlightChecks", spec := "flightChecks", inPlace := ["internal/bytealg.IndexByteString"], unfollowed := true, recurses := true, apart := false }
def FlightChecksSaid : Prop := flightChecksRow.holds Try.pinned (OpenSpec.ofChange flightChecksSpec)

/-- ITS FALSE NEIGHBOUR: 'it returns false'. Refute it at one input. -/
def flightChecksWrong : ChangeSpec := { name := "flightChecks", fn := fun _ => fun
  | [d1, d2] => { results := [.lit (.bool false)], args := [d1, d2] }
  | _ => none }
def FlightChecksWrongFalsely : Prop := flightChecksRow.holds Try.pinned (OpenSpec.ofChange flightChecksWrong)

/-- 'appleloftlaw.ShaSums': WHATEVER THE INPUT: true; the input reads as it did. -/
def shaSumsSpec : ChangeSpec := { name := "shaSums", fn := fun _ => fun
  | [d] => { results := [.lit (.bool true)], args := [d] }
  | _ => none }
def shaSumsRow : OpenClaim := { program := "ytamepigaenkidaa", sum := "5ea681beb24248ba69a2dedcb6a541fe58a5a7a09422175b3262cba60d2ce57f", func := "appleloft/appleloftlaw.ShaSums", spec := "shaSums", inPlace := ["internal/abi.NoEscape"], apart := false }
def ShaSumsSaid : Prop := shaSumsRow.holds Try.pinned (OpenSpec.ofChange shaSumsSpec)

/-- ITS FALSE NEIGHBOUR: 'it returns false'. Refute it at one input. -/
def shaSumsWrong : ChangeSpec := { name := "shaSums", fn := fun _ => fun
  | [d] => { results := [.lit (.bool false)], args := [d] }
  | _ => none }
def ShaSumsWrongFalsely : Prop := shaSumsRow.holds Try.pinned (OpenSpec.ofChange shaSumsWrong)

/-- 'appleloftlaw.FlightLands': WHATEVER THE INPUT: true; the input reads as it did. -/
def flightLandsSpec : ChangeSpec := { name := "flightLands", fn := fun _ => fun
  | [d1, d2] => { results := [.lit (.bool true)], args := [d1, d2] }
  | _ => none }
def flightLandsRow : OpenClaim := { program := "ytamepigaenkidaa", sum := "5ea681beb24248ba69a2dedcb6a541fe58a5a7a09422175b3262cba60d2ce57f", func := "appleloft/appleloftlaw.FlightLands", spec := "flightLands", inPlace := ["internal/bytealg.IndexByteString"], unfollowed := true, recurses := true, apart := false }
def FlightLandsSaid : Prop := flightLandsRow.holds Try.pinned (OpenSpec.ofChange flightLandsSpec)

/-- ITS FALSE NEIGHBOUR: 'it returns false'. Refute it at one input. -/
def flightLandsWrong : ChangeSpec := { name := "flightLands", fn := fun _ => fun
  | [d1, d2] => { results := [.lit (.bool false)], args := [d1, d2] }
  | _ => none }
def FlightLandsWrongFalsely : Prop := flightLandsRow.holds Try.pinned (OpenSpec.ofChange flightLandsWrong)

/-- 'appleloftlaw.ActionEncodes': WHATEVER THE INPUT: true; the input reads as it did. -/
def actionEncodesSpec : ChangeSpec := { name := "actionEncodes", fn := fun _ => fun
  | [d] => { results := [.lit (.bool true)], args := [d] }
  | _ => none }
def actionEncodesRow : OpenClaim := { program := "ytamepigaenkidaa", sum := "5ea681beb24248ba69a2dedcb6a541fe58a5a7a09422175b3262cba60d2ce57f", func := "appleloft/appleloftlaw.ActionEncodes", spec := "actionEncodes", inPlace := ["internal/bytealg.IndexByteString", "internal/bytealg.MakeNoZero"], unfollowed := true, recurses := true, apart := false }
def ActionEncodesSaid : Prop := actionEncodesRow.holds Try.pinned (OpenSpec.ofChange actionEncodesSpec)

/-- ITS FALSE NEIGHBOUR: 'it returns false'. Refute it at one input. -/
def actionEncodesWrong : ChangeSpec := { name := "actionEncodes", fn := fun _ => fun
  | [d] => { results := [.lit (.bool false)], args := [d] }
  | _ => none }
def ActionEncodesWrongFalsely : Prop := actionEncodesRow.holds Try.pinned (OpenSpec.ofChange actionEncodesWrong)

/-- 'appleloftlaw.FlightJoins': WHATEVER THE INPUT: true; the input reads as it did. -/
def flightJoinsSpec : ChangeSpec := { name := "flightJoins", fn := fun _ => fun
  | [d1, d2, d3] => { results := [.lit (.bool true)], args := [d1, d2, d3] }
  | _ => none }
def flightJoinsRow : OpenClaim := { program := "ytamepigaenkidaa", sum := "5ea681beb24248ba69a2dedcb6a541fe58a5a7a09422175b3262cba60d2ce57f", func := "appleloft/appleloftlaw.FlightJoins", spec := "flightJoins", inPlace := ["internal/bytealg.IndexByteString"], unfollowed := true, recurses := true, apart := false }
def FlightJoinsSaid : Prop := flightJoinsRow.holds Try.pinned (OpenSpec.ofChange flightJoinsSpec)

/-- ITS FALSE NEIGHBOUR: 'it returns false'. Refute it at one input. -/
def flightJoinsWrong : ChangeSpec := { name := "flightJoins", fn := fun _ => fun
  | [d1, d2, d3] => { results := [.lit (.bool false)], args := [d1, d2, d3] }
  | _ => none }
def FlightJoinsWrongFalsely : Prop := flightJoinsRow.holds Try.pinned (OpenSpec.ofChange flightJoinsWrong)

/-- 'appleloftlaw.OrderEncodes': WHATEVER THE INPUT: true; the input reads as it did. -/
def orderEncodesSpec : ChangeSpec := { name := "orderEncodes", fn := fun _ => fun
  | [d] => { results := [.lit (.bool true)], args := [d] }
  | _ => none }
def orderEncodesRow : OpenClaim := { program := "ytamepigaenkidaa", sum := "5ea681beb24248ba69a2dedcb6a541fe58a5a7a09422175b3262cba60d2ce57f", func := "appleloft/appleloftlaw.OrderEncodes", spec := "orderEncodes", inPlace := ["internal/bytealg.IndexByteString"], unfollowed := true, recurses := true, apart := false }
def OrderEncodesSaid : Prop := orderEncodesRow.holds Try.pinned (OpenSpec.ofChange orderEncodesSpec)

/-- ITS FALSE NEIGHBOUR: 'it returns false'. Refute it at one input. -/
def orderEncodesWrong : ChangeSpec := { name := "orderEncodes", fn := fun _ => fun
  | [d] => { results := [.lit (.bool false)], args := [d] }
  | _ => none }
def OrderEncodesWrongFalsely : Prop := orderEncodesRow.holds Try.pinned (OpenSpec.ofChange orderEncodesWrong)

/-- 'appleloftlaw.IndexDrops': WHATEVER THE INPUT: true; the input reads as it did. -/
def indexDropsSpec : ChangeSpec := { name := "indexDrops", fn := fun _ => fun
  | [d1, d2] => { results := [.lit (.bool true)], args := [d1, d2] }
  | _ => none }
def indexDropsRow : OpenClaim := { program := "ytamepigaenkidaa", sum := "5ea681beb24248ba69a2dedcb6a541fe58a5a7a09422175b3262cba60d2ce57f", func := "appleloft/appleloftlaw.IndexDrops", spec := "indexDrops", inPlace := ["internal/bytealg.IndexByteString"], unfollowed := true, recurses := true, apart := false }
def IndexDropsSaid : Prop := indexDropsRow.holds Try.pinned (OpenSpec.ofChange indexDropsSpec)

/-- ITS FALSE NEIGHBOUR: 'it returns false'. Refute it at one input. -/
def indexDropsWrong : ChangeSpec := { name := "indexDrops", fn := fun _ => fun
  | [d1, d2] => { results := [.lit (.bool false)], args := [d1, d2] }
  | _ => none }
def IndexDropsWrongFalsely : Prop := indexDropsRow.holds Try.pinned (OpenSpec.ofChange indexDropsWrong)

/-- 'appleloftlaw.ManifestDecodes': WHATEVER THE INPUT: true; the input reads as it did. -/
def manifestDecodesSpec : ChangeSpec := { name := "manifestDecodes", fn := fun _ => fun
  | [d] => { results := [.lit (.bool true)], args := [d] }
  | _ => none }
def manifestDecodesRow : OpenClaim := { program := "ytamepigaenkidaa", sum := "5ea681beb24248ba69a2dedcb6a541fe58a5a7a09422175b3262cba60d2ce57f", func := "appleloft/appleloftlaw.ManifestDecodes", spec := "manifestDecodes", inPlace := ["internal/abi.NoEscape", "internal/bytealg.IndexByteString"], apart := false }
def ManifestDecodesSaid : Prop := manifestDecodesRow.holds Try.pinned (OpenSpec.ofChange manifestDecodesSpec)

/-- ITS FALSE NEIGHBOUR: 'it returns false'. Refute it at one input. -/
def manifestDecodesWrong : ChangeSpec := { name := "manifestDecodes", fn := fun _ => fun
  | [d] => { results := [.lit (.bool false)], args := [d] }
  | _ => none }
def ManifestDecodesWrongFalsely : Prop := manifestDecodesRow.holds Try.pinned (OpenSpec.ofChange manifestDecodesWrong)

/-- 'appleloftlaw.BlobChecks': WHATEVER THE INPUT: true; the input reads as it did. -/
def blobChecksSpec : ChangeSpec := { name := "blobChecks", fn := fun _ => fun
  | [d1, d2] => { results := [.lit (.bool true)], args := [d1, d2] }
  | _ => none }
def blobChecksRow : OpenClaim := { program := "ytamepigaenkidaa", sum := "5ea681beb24248ba69a2dedcb6a541fe58a5a7a09422175b3262cba60d2ce57f", func := "appleloft/appleloftlaw.BlobChecks", spec := "blobChecks", inPlace := ["internal/bytealg.IndexByteString", "internal/abi.NoEscape"], apart := false }
def BlobChecksSaid : Prop := blobChecksRow.holds Try.pinned (OpenSpec.ofChange blobChecksSpec)

/-- ITS FALSE NEIGHBOUR: 'it returns false'. Refute it at one input. -/
def blobChecksWrong : ChangeSpec := { name := "blobChecks", fn := fun _ => fun
  | [d1, d2] => { results := [.lit (.bool false)], args := [d1, d2] }
  | _ => none }
def BlobChecksWrongFalsely : Prop := blobChecksRow.holds Try.pinned (OpenSpec.ofChange blobChecksWrong)

/-- 'appleloftlaw.ReachParts': WHATEVER THE INPUT: true; the input reads as it did. -/
def reachPartsSpec : ChangeSpec := { name := "reachParts", fn := fun _ => fun
  | [d] => { results := [.lit (.bool true)], args := [d] }
  | _ => none }
def reachPartsRow : OpenClaim := { program := "ytamepigaenkidaa", sum := "5ea681beb24248ba69a2dedcb6a541fe58a5a7a09422175b3262cba60d2ce57f", func := "appleloft/appleloftlaw.ReachParts", spec := "reachParts", inPlace := ["internal/abi.NoEscape", "internal/bytealg.IndexByteString"], apart := false }
def ReachPartsSaid : Prop := reachPartsRow.holds Try.pinned (OpenSpec.ofChange reachPartsSpec)

/-- ITS FALSE NEIGHBOUR: 'it returns false'. Refute it at one input. -/
def reachPartsWrong : ChangeSpec := { name := "reachParts", fn := fun _ => fun
  | [d] => { results := [.lit (.bool false)], args := [d] }
  | _ => none }
def ReachPartsWrongFalsely : Prop := reachPartsRow.holds Try.pinned (OpenSpec.ofChange reachPartsWrong)

/-- 'appleloftlaw.ActionDecodes': WHATEVER THE INPUT: true; the input reads as it did. -/
def actionDecodesSpec : ChangeSpec := { name := "actionDecodes", fn := fun _ => fun
  | [d] => { results := [.lit (.bool true)], args := [d] }
  | _ => none }
def actionDecodesRow : OpenClaim := { program := "ytamepigaenkidaa", sum := "5ea681beb24248ba69a2dedcb6a541fe58a5a7a09422175b3262cba60d2ce57f", func := "appleloft/appleloftlaw.ActionDecodes", spec := "actionDecodes", inPlace := ["internal/abi.NoEscape", "internal/bytealg.IndexByteString"], unfollowed := true, recurses := true, apart := false }
def ActionDecodesSaid : Prop := actionDecodesRow.holds Try.pinned (OpenSpec.ofChange actionDecodesSpec)

/-- ITS FALSE NEIGHBOUR: 'it returns false'. Refute it at one input. -/
def actionDecodesWrong : ChangeSpec := { name := "actionDecodes", fn := fun _ => fun
  | [d] => { results := [.lit (.bool false)], args := [d] }
  | _ => none }
def ActionDecodesWrongFalsely : Prop := actionDecodesRow.holds Try.pinned (OpenSpec.ofChange actionDecodesWrong)

/-- 'appleloftlaw.BlobDrops': WHATEVER THE INPUT: true; the input reads as it did. -/
def blobDropsSpec : ChangeSpec := { name := "blobDrops", fn := fun _ => fun
  | [d1, d2] => { results := [.lit (.bool true)], args := [d1, d2] }
  | _ => none }
def blobDropsRow : OpenClaim := { program := "ytamepigaenkidaa", sum := "5ea681beb24248ba69a2dedcb6a541fe58a5a7a09422175b3262cba60d2ce57f", func := "appleloft/appleloftlaw.BlobDrops", spec := "blobDrops", inPlace := ["internal/bytealg.IndexByteString", "internal/abi.NoEscape"], unfollowed := true, recurses := true, apart := false }
def BlobDropsSaid : Prop := blobDropsRow.holds Try.pinned (OpenSpec.ofChange blobDropsSpec)

/-- ITS FALSE NEIGHBOUR: 'it returns false'. Refute it at one input. -/
def blobDropsWrong : ChangeSpec := { name := "blobDrops", fn := fun _ => fun
  | [d1, d2] => { results := [.lit (.bool false)], args := [d1, d2] }
  | _ => none }
def BlobDropsWrongFalsely : Prop := blobDropsRow.holds Try.pinned (OpenSpec.ofChange blobDropsWrong)

/-- 'appleloftlaw.IndexPuts': WHATEVER THE INPUT: true; the input reads as it did. -/
def indexPutsSpec : ChangeSpec := { name := "indexPuts", fn := fun _ => fun
  | [d1, d2] => { results := [.lit (.bool true)], args := [d1, d2] }
  | _ => none }
def indexPutsRow : OpenClaim := { program := "ytamepigaenkidaa", sum := "5ea681beb24248ba69a2dedcb6a541fe58a5a7a09422175b3262cba60d2ce57f", func := "appleloft/appleloftlaw.IndexPuts", spec := "indexPuts", inPlace := ["internal/bytealg.IndexByteString", "internal/bytealg.abigen_runtime_cmpstring", "slices.overlaps[appleloft/api.Entry]"], unfollowed := true, recurses := true, apart := false }
def IndexPutsSaid : Prop := indexPutsRow.holds Try.pinned (OpenSpec.ofChange indexPutsSpec)

/-- ITS FALSE NEIGHBOUR: 'it returns false'. Refute it at one input. -/
def indexPutsWrong : ChangeSpec := { name := "indexPuts", fn := fun _ => fun
  | [d1, d2] => { results := [.lit (.bool false)], args := [d1, d2] }
  | _ => none }
def IndexPutsWrongFalsely : Prop := indexPutsRow.holds Try.pinned (OpenSpec.ofChange indexPutsWrong)

/-- 'appleloftlaw.OrderDecodes': WHATEVER THE INPUT: true; the input reads as it did. -/
def orderDecodesSpec : ChangeSpec := { name := "orderDecodes", fn := fun _ => fun
  | [d] => { results := [.lit (.bool true)], args := [d] }
  | _ => none }
def orderDecodesRow : OpenClaim := { program := "ytamepigaenkidaa", sum := "5ea681beb24248ba69a2dedcb6a541fe58a5a7a09422175b3262cba60d2ce57f", func := "appleloft/appleloftlaw.OrderDecodes", spec := "orderDecodes", inPlace := ["internal/abi.NoEscape", "internal/bytealg.IndexByteString"], unfollowed := true, recurses := true, apart := false }
def OrderDecodesSaid : Prop := orderDecodesRow.holds Try.pinned (OpenSpec.ofChange orderDecodesSpec)

/-- ITS FALSE NEIGHBOUR: 'it returns false'. Refute it at one input. -/
def orderDecodesWrong : ChangeSpec := { name := "orderDecodes", fn := fun _ => fun
  | [d] => { results := [.lit (.bool false)], args := [d] }
  | _ => none }
def OrderDecodesWrongFalsely : Prop := orderDecodesRow.holds Try.pinned (OpenSpec.ofChange orderDecodesWrong)

/-- 'appleloftlaw.ActionKeys': WHATEVER THE INPUT: true; the input reads as it did. -/
def actionKeysSpec : ChangeSpec := { name := "actionKeys", fn := fun _ => fun
  | [d] => { results := [.lit (.bool true)], args := [d] }
  | _ => none }
def actionKeysRow : OpenClaim := { program := "ytamepigaenkidaa", sum := "5ea681beb24248ba69a2dedcb6a541fe58a5a7a09422175b3262cba60d2ce57f", func := "appleloft/appleloftlaw.ActionKeys", spec := "actionKeys", inPlace := ["internal/bytealg.IndexByteString", "internal/bytealg.MakeNoZero", "internal/abi.NoEscape"], unfollowed := true, recurses := true, apart := false }
def ActionKeysSaid : Prop := actionKeysRow.holds Try.pinned (OpenSpec.ofChange actionKeysSpec)

/-- ITS FALSE NEIGHBOUR: 'it returns false'. Refute it at one input. -/
def actionKeysWrong : ChangeSpec := { name := "actionKeys", fn := fun _ => fun
  | [d] => { results := [.lit (.bool false)], args := [d] }
  | _ => none }
def ActionKeysWrongFalsely : Prop := actionKeysRow.holds Try.pinned (OpenSpec.ofChange actionKeysWrong)

/-- 'appleloftlaw.StoreGetsBlob': WHATEVER THE INPUT: true; the input reads as it did. -/
def storeGetsBlobSpec : ChangeSpec := { name := "storeGetsBlob", fn := fun _ => fun
  | [d1, d2] => { results := [.lit (.bool true)], args := [d1, d2] }
  | _ => none }
def storeGetsBlobRow : OpenClaim := { program := "ytamepigaenkidaa", sum := "5ea681beb24248ba69a2dedcb6a541fe58a5a7a09422175b3262cba60d2ce57f", func := "appleloft/appleloftlaw.StoreGetsBlob", spec := "storeGetsBlob", inPlace := ["internal/bytealg.IndexByteString", "internal/abi.NoEscape"], unfollowed := true, recurses := true, apart := false }
def StoreGetsBlobSaid : Prop := storeGetsBlobRow.holds Try.pinned (OpenSpec.ofChange storeGetsBlobSpec)

/-- ITS FALSE NEIGHBOUR: 'it returns false'. Refute it at one input. -/
def storeGetsBlobWrong : ChangeSpec := { name := "storeGetsBlob", fn := fun _ => fun
  | [d1, d2] => { results := [.lit (.bool false)], args := [d1, d2] }
  | _ => none }
def StoreGetsBlobWrongFalsely : Prop := storeGetsBlobRow.holds Try.pinned (OpenSpec.ofChange storeGetsBlobWrong)

/-- 'appleloftlaw.StoreChecks': WHATEVER THE INPUT: true; the input reads as it did. -/
def storeChecksSpec : ChangeSpec := { name := "storeChecks", fn := fun _ => fun
  | [d] => { results := [.lit (.bool true)], args := [d] }
  | _ => none }
def storeChecksRow : OpenClaim := { program := "ytamepigaenkidaa", sum := "5ea681beb24248ba69a2dedcb6a541fe58a5a7a09422175b3262cba60d2ce57f", func := "appleloft/appleloftlaw.StoreChecks", spec := "storeChecks", inPlace := ["internal/bytealg.IndexByteString", "internal/abi.NoEscape"], unfollowed := true, recurses := true, apart := false }
def StoreChecksSaid : Prop := storeChecksRow.holds Try.pinned (OpenSpec.ofChange storeChecksSpec)

/-- ITS FALSE NEIGHBOUR: 'it returns false'. Refute it at one input. -/
def storeChecksWrong : ChangeSpec := { name := "storeChecks", fn := fun _ => fun
  | [d] => { results := [.lit (.bool false)], args := [d] }
  | _ => none }
def StoreChecksWrongFalsely : Prop := storeChecksRow.holds Try.pinned (OpenSpec.ofChange storeChecksWrong)

/-- 'appleloftlaw.BlobPuts': WHATEVER THE INPUT: true; the input reads as it did. -/
def blobPutsSpec : ChangeSpec := { name := "blobPuts", fn := fun _ => fun
  | [d1, d2] => { results := [.lit (.bool true)], args := [d1, d2] }
  | _ => none }
def blobPutsRow : OpenClaim := { program := "ytamepigaenkidaa", sum := "5ea681beb24248ba69a2dedcb6a541fe58a5a7a09422175b3262cba60d2ce57f", func := "appleloft/appleloftlaw.BlobPuts", spec := "blobPuts", inPlace := ["internal/bytealg.IndexByteString", "internal/abi.NoEscape", "internal/bytealg.abigen_runtime_cmpstring", "slices.overlaps[appleloft/api.Blob]"], unfollowed := true, recurses := true, apart := false }
def BlobPutsSaid : Prop := blobPutsRow.holds Try.pinned (OpenSpec.ofChange blobPutsSpec)

/-- ITS FALSE NEIGHBOUR: 'it returns false'. Refute it at one input. -/
def blobPutsWrong : ChangeSpec := { name := "blobPuts", fn := fun _ => fun
  | [d1, d2] => { results := [.lit (.bool false)], args := [d1, d2] }
  | _ => none }
def BlobPutsWrongFalsely : Prop := blobPutsRow.holds Try.pinned (OpenSpec.ofChange blobPutsWrong)

/-- 'appleloftlaw.StoreGets': WHATEVER THE INPUT: true; the input reads as it did. -/
def storeGetsSpec : ChangeSpec := { name := "storeGets", fn := fun _ => fun
  | [d1, d2] => { results := [.lit (.bool true)], args := [d1, d2] }
  | _ => none }
def storeGetsRow : OpenClaim := { program := "ytamepigaenkidaa", sum := "5ea681beb24248ba69a2dedcb6a541fe58a5a7a09422175b3262cba60d2ce57f", func := "appleloft/appleloftlaw.StoreGets", spec := "storeGets", inPlace := ["internal/bytealg.IndexByteString", "internal/abi.NoEscape"], unfollowed := true, recurses := true, apart := false }
def StoreGetsSaid : Prop := storeGetsRow.holds Try.pinned (OpenSpec.ofChange storeGetsSpec)

/-- ITS FALSE NEIGHBOUR: 'it returns false'. Refute it at one input. -/
def storeGetsWrong : ChangeSpec := { name := "storeGets", fn := fun _ => fun
  | [d1, d2] => { results := [.lit (.bool false)], args := [d1, d2] }
  | _ => none }
def StoreGetsWrongFalsely : Prop := storeGetsRow.holds Try.pinned (OpenSpec.ofChange storeGetsWrong)

/- THE SECOND FORM. 'bulk': how many values and letters a reading holds, each counted each time it is reached (what is shared counts as often as it is met; a slice's spare places count too). A statement '..UptoSaid' is the law's where the arguments, and the package variables that the reading takes, are together of bulk at most 1048576: NARROWER than '..Said'. Prove '..Said' where nothing that the law and all that it calls make is longer than what came in: it says more and counts as full. Else prove '..UptoSaid'. A law counts once. -/
mutual
def uptoBulk {H : Type} : DataW H → Nat
  | .lit (.string bytes) => bytes.length + 1
  | .lit _ => 1
  | .nil => 1
  | .ptr d => uptoBulk d + 1
  | .slice elems spare => uptoBulkAll elems + uptoBulkAll spare + 1
  | .agg parts => uptoBulkAll parts + 1
  | .iface _ d => uptoBulk d + 1
  | .map entries => uptoBulkEntries entries + 1
  | .held _ => 1
def uptoBulkAll {H : Type} : List (DataW H) → Nat
  | [] => 0
  | d :: r => uptoBulk d + uptoBulkAll r
def uptoBulkEntries {H : Type} : List (Lit × DataW H) → Nat
  | [] => 0
  | x :: r => uptoBulkEntry x + uptoBulkEntries r
def uptoBulkEntry {H : Type} : Lit × DataW H → Nat
  | (.string bytes, d) => bytes.length + uptoBulk d + 1
  | (_, d) => uptoBulk d + 1
 end
def uptoSmall : (H : Type) → List (DataW H) → Bool := fun _ ds => decide (uptoBulkAll ds ≤ 1048576)
def OpenSpec.upto (s : _root_.Go.ChangeSpec) : _root_.Go.OpenSpec := { _root_.Go.OpenSpec.ofChange s with cond := some uptoSmall }

/-- 'appleloftlaw.Names', WHERE WHAT IT READS IS OF BULK AT MOST 1048576: true; the input reads as it did. -/
def namesUptoRow : OpenClaim := { program := "ytamepigaenkidaa", sum := "5ea681beb24248ba69a2dedcb6a541fe58a5a7a09422175b3262cba60d2ce57f", func := "appleloft/appleloftlaw.Names", spec := "names", apart := false, narrowed := true }
def NamesUptoSaid : Prop := namesUptoRow.holds Try.pinned (OpenSpec.upto namesSpec)

/-- 'appleloftlaw.WordBits', WHERE WHAT IT READS IS OF BULK AT MOST 1048576: true; the input reads as it did. -/
def wordBitsUptoRow : OpenClaim := { program := "ytamepigaenkidaa", sum := "5ea681beb24248ba69a2dedcb6a541fe58a5a7a09422175b3262cba60d2ce57f", func := "appleloft/appleloftlaw.WordBits", spec := "wordBits", apart := false, narrowed := true }
def WordBitsUptoSaid : Prop := wordBitsUptoRow.holds Try.pinned (OpenSpec.upto wordBitsSpec)

/-- 'appleloftlaw.WireNumbers', WHERE WHAT IT READS IS OF BULK AT MOST 1048576: true; the input reads as it did. -/
def wireNumbersUptoRow : OpenClaim := { program := "ytamepigaenkidaa", sum := "5ea681beb24248ba69a2dedcb6a541fe58a5a7a09422175b3262cba60d2ce57f", func := "appleloft/appleloftlaw.WireNumbers", spec := "wireNumbers", apart := false, narrowed := true }
def WireNumbersUptoSaid : Prop := wireNumbersUptoRow.holds Try.pinned (OpenSpec.upto wireNumbersSpec)

/-- 'appleloftlaw.IndexOlds', WHERE WHAT IT READS IS OF BULK AT MOST 1048576: true; the input reads as it did. -/
def indexOldsUptoRow : OpenClaim := { program := "ytamepigaenkidaa", sum := "5ea681beb24248ba69a2dedcb6a541fe58a5a7a09422175b3262cba60d2ce57f", func := "appleloft/appleloftlaw.IndexOlds", spec := "indexOlds", apart := false, narrowed := true }
def IndexOldsUptoSaid : Prop := indexOldsUptoRow.holds Try.pinned (OpenSpec.upto indexOldsSpec)

/-- 'appleloftlaw.RoomTells', WHERE WHAT IT READS IS OF BULK AT MOST 1048576: true; the input reads as it did. -/
def roomTellsUptoRow : OpenClaim := { program := "ytamepigaenkidaa", sum := "5ea681beb24248ba69a2dedcb6a541fe58a5a7a09422175b3262cba60d2ce57f", func := "appleloft/appleloftlaw.RoomTells", spec := "roomTells", apart := false, narrowed := true }
def RoomTellsUptoSaid : Prop := roomTellsUptoRow.holds Try.pinned (OpenSpec.upto roomTellsSpec)

/-- 'appleloftlaw.PinMoves', WHERE WHAT IT READS IS OF BULK AT MOST 1048576: true; the input reads as it did. -/
def pinMovesUptoRow : OpenClaim := { program := "ytamepigaenkidaa", sum := "5ea681beb24248ba69a2dedcb6a541fe58a5a7a09422175b3262cba60d2ce57f", func := "appleloft/appleloftlaw.PinMoves", spec := "pinMoves", apart := false, narrowed := true }
def PinMovesUptoSaid : Prop := pinMovesUptoRow.holds Try.pinned (OpenSpec.upto pinMovesSpec)

/-- 'appleloftlaw.WireReads', WHERE WHAT IT READS IS OF BULK AT MOST 1048576: true; the input reads as it did. -/
def wireReadsUptoRow : OpenClaim := { program := "ytamepigaenkidaa", sum := "5ea681beb24248ba69a2dedcb6a541fe58a5a7a09422175b3262cba60d2ce57f", func := "appleloft/appleloftlaw.WireReads", spec := "wireReads", apart := false, narrowed := true }
def WireReadsUptoSaid : Prop := wireReadsUptoRow.holds Try.pinned (OpenSpec.upto wireReadsSpec)

/-- 'appleloftlaw.RoomFits', WHERE WHAT IT READS IS OF BULK AT MOST 1048576: true; the input reads as it did. -/
def roomFitsUptoRow : OpenClaim := { program := "ytamepigaenkidaa", sum := "5ea681beb24248ba69a2dedcb6a541fe58a5a7a09422175b3262cba60d2ce57f", func := "appleloft/appleloftlaw.RoomFits", spec := "roomFits", apart := false, narrowed := true }
def RoomFitsUptoSaid : Prop := roomFitsUptoRow.holds Try.pinned (OpenSpec.upto roomFitsSpec)

/-- 'appleloftlaw.WordTurns', WHERE WHAT IT READS IS OF BULK AT MOST 1048576: true; the input reads as it did. -/
def wordTurnsUptoRow : OpenClaim := { program := "ytamepigaenkidaa", sum := "5ea681beb24248ba69a2dedcb6a541fe58a5a7a09422175b3262cba60d2ce57f", func := "appleloft/appleloftlaw.WordTurns", spec := "wordTurns", apart := false, narrowed := true }
def WordTurnsUptoSaid : Prop := wordTurnsUptoRow.holds Try.pinned (OpenSpec.upto wordTurnsSpec)

/-- 'appleloftlaw.HexChecks', WHERE WHAT IT READS IS OF BULK AT MOST 1048576: true; the input reads as it did. -/
def hexChecksUptoRow : OpenClaim := { program := "ytamepigaenkidaa", sum := "5ea681beb24248ba69a2dedcb6a541fe58a5a7a09422175b3262cba60d2ce57f", func := "appleloft/appleloftlaw.HexChecks", spec := "hexChecks", inPlace := ["internal/bytealg.IndexByteString"], apart := false, narrowed := true }
def HexChecksUptoSaid : Prop := hexChecksUptoRow.holds Try.pinned (OpenSpec.upto hexChecksSpec)

/-- 'appleloftlaw.WordBytes', WHERE WHAT IT READS IS OF BULK AT MOST 1048576: true; the input reads as it did. -/
def wordBytesUptoRow : OpenClaim := { program := "ytamepigaenkidaa", sum := "5ea681beb24248ba69a2dedcb6a541fe58a5a7a09422175b3262cba60d2ce57f", func := "appleloft/appleloftlaw.WordBytes", spec := "wordBytes", apart := false, narrowed := true }
def WordBytesUptoSaid : Prop := wordBytesUptoRow.holds Try.pinned (OpenSpec.upto wordBytesSpec)

/-- 'appleloftlaw.HexTexts', WHERE WHAT IT READS IS OF BULK AT MOST 1048576: true; the input reads as it did. -/
def hexTextsUptoRow : OpenClaim := { program := "ytamepigaenkidaa", sum := "5ea681beb24248ba69a2dedcb6a541fe58a5a7a09422175b3262cba60d2ce57f", func := "appleloft/appleloftlaw.HexTexts", spec := "hexTexts", inPlace := ["internal/abi.NoEscape", "internal/bytealg.IndexByteString"], apart := false, narrowed := true }
def HexTextsUptoSaid : Prop := hexTextsUptoRow.holds Try.pinned (OpenSpec.upto hexTextsSpec)

/-- 'appleloftlaw.ShaPads', WHERE WHAT IT READS IS OF BULK AT MOST 1048576: true; the input reads as it did. -/
def shaPadsUptoRow : OpenClaim := { program := "ytamepigaenkidaa", sum := "5ea681beb24248ba69a2dedcb6a541fe58a5a7a09422175b3262cba60d2ce57f", func := "appleloft/appleloftlaw.ShaPads", spec := "shaPads", inPlace := ["math/bits.Add64"], apart := false, narrowed := true }
def ShaPadsUptoSaid : Prop := shaPadsUptoRow.holds Try.pinned (OpenSpec.upto shaPadsSpec)

/-- 'appleloftlaw.WireTexts', WHERE WHAT IT READS IS OF BULK AT MOST 1048576: true; the input reads as it did. -/
def wireTextsUptoRow : OpenClaim := { program := "ytamepigaenkidaa", sum := "5ea681beb24248ba69a2dedcb6a541fe58a5a7a09422175b3262cba60d2ce57f", func := "appleloft/appleloftlaw.WireTexts", spec := "wireTexts", apart := false, narrowed := true }
def WireTextsUptoSaid : Prop := wireTextsUptoRow.holds Try.pinned (OpenSpec.upto wireTextsSpec)

/-- 'appleloftlaw.ManifestChecks', WHERE WHAT IT READS IS OF BULK AT MOST 1048576: true; the input reads as it did. -/
def manifestChecksUptoRow : OpenClaim := { program := "ytamepigaenkidaa", sum := "5ea681beb24248ba69a2dedcb6a541fe58a5a7a09422175b3262cba60d2ce57f", func := "appleloft/appleloftlaw.ManifestChecks", spec := "manifestChecks", inPlace := ["internal/bytealg.IndexByteString"], apart := false, narrowed := true }
def ManifestChecksUptoSaid : Prop := manifestChecksUptoRow.holds Try.pinned (OpenSpec.upto manifestChecksSpec)

/-- 'appleloftlaw.IndexChecks', WHERE WHAT IT READS IS OF BULK AT MOST 1048576: true; the input reads as it did. -/
def indexChecksUptoRow : OpenClaim := { program := "ytamepigaenkidaa", sum := "5ea681beb24248ba69a2dedcb6a541fe58a5a7a09422175b3262cba60d2ce57f", func := "appleloft/appleloftlaw.IndexChecks", spec := "indexChecks", inPlace := ["internal/bytealg.IndexByteString"], apart := false, narrowed := true }
def IndexChecksUptoSaid : Prop := indexChecksUptoRow.holds Try.pinned (OpenSpec.upto indexChecksSpec)

/-- 'appleloftlaw.ShaSteps', WHERE WHAT IT READS IS OF BULK AT MOST 1048576: true; the input reads as it did. -/
def shaStepsUptoRow : OpenClaim := { program := "ytamepigaenkidaa", sum := "5ea681beb24248ba69a2dedcb6a541fe58a5a7a09422175b3262cba60d2ce57f", func := "appleloft/appleloftlaw.ShaSteps", spec := "shaSteps", inPlace := ["math/bits.Add64"], apart := false, narrowed := true }
def ShaStepsUptoSaid : Prop := shaStepsUptoRow.holds Try.pinned (OpenSpec.upto shaStepsSpec)

/-- 'appleloftlaw.ManifestEncodes', WHERE WHAT IT READS IS OF BULK AT MOST 1048576: true; the input reads as it did. -/
def manifestEncodesUptoRow : OpenClaim := { program := "ytamepigaenkidaa", sum := "5ea681beb24248ba69a2dedcb6a541fe58a5a7a09422175b3262cba60d2ce57f", func := "appleloft/appleloftlaw.ManifestEncodes", spec := "manifestEncodes", inPlace := ["internal/bytealg.IndexByteString"], unfollowed := true, recurses := true, apart := false, narrowed := true }
def ManifestEncodesUptoSaid : Prop := manifestEncodesUptoRow.holds Try.pinned (OpenSpec.upto manifestEncodesSpec)

/-- 'appleloftlaw.FlightChecks', WHERE WHAT IT READS IS OF BULK AT MOST 1048576: true; the input reads as it did. -/
def flightChecksUptoRow : OpenClaim := { program := "ytamepigaenkidaa", sum := "5ea681beb24248ba69a2dedcb6a541fe58a5a7a09422175b3262cba60d2ce57f", func := "appleloft/appleloftlaw.FlightChecks", spec := "flightChecks", inPlace := ["internal/bytealg.IndexByteString"], unfollowed := true, recurses := true, apart := false, narrowed := true }
def FlightChecksUptoSaid : Prop := flightChecksUptoRow.holds Try.pinned (OpenSpec.upto flightChecksSpec)

/-- 'appleloftlaw.ShaSums', WHERE WHAT IT READS IS OF BULK AT MOST 1048576: true; the input reads as it did. -/
def shaSumsUptoRow : OpenClaim := { program := "ytamepigaenkidaa", sum := "5ea681beb24248ba69a2dedcb6a541fe58a5a7a09422175b3262cba60d2ce57f", func := "appleloft/appleloftlaw.ShaSums", spec := "shaSums", inPlace := ["internal/abi.NoEscape"], apart := false, narrowed := true }
def ShaSumsUptoSaid : Prop := shaSumsUptoRow.holds Try.pinned (OpenSpec.upto shaSumsSpec)

/-- 'appleloftlaw.FlightLands', WHERE WHAT IT READS IS OF BULK AT MOST 1048576: true; the input reads as it did. -/
def flightLandsUptoRow : OpenClaim := { program := "ytamepigaenkidaa", sum := "5ea681beb24248ba69a2dedcb6a541fe58a5a7a09422175b3262cba60d2ce57f", func := "appleloft/appleloftlaw.FlightLands", spec := "flightLands", inPlace := ["internal/bytealg.IndexByteString"], unfollowed := true, recurses := true, apart := false, narrowed := true }
def FlightLandsUptoSaid : Prop := flightLandsUptoRow.holds Try.pinned (OpenSpec.upto flightLandsSpec)

/-- 'appleloftlaw.ActionEncodes', WHERE WHAT IT READS IS OF BULK AT MOST 1048576: true; the input reads as it did. -/
def actionEncodesUptoRow : OpenClaim := { program := "ytamepigaenkidaa", sum := "5ea681beb24248ba69a2dedcb6a541fe58a5a7a09422175b3262cba60d2ce57f", func := "appleloft/appleloftlaw.ActionEncodes", spec := "actionEncodes", inPlace := ["internal/bytealg.IndexByteString", "internal/bytealg.MakeNoZero"], unfollowed := true, recurses := true, apart := false, narrowed := true }
def ActionEncodesUptoSaid : Prop := actionEncodesUptoRow.holds Try.pinned (OpenSpec.upto actionEncodesSpec)

/-- 'appleloftlaw.FlightJoins', WHERE WHAT IT READS IS OF BULK AT MOST 1048576: true; the input reads as it did. -/
def flightJoinsUptoRow : OpenClaim := { program := "ytamepigaenkidaa", sum := "5ea681beb24248ba69a2dedcb6a541fe58a5a7a09422175b3262cba60d2ce57f", func := "appleloft/appleloftlaw.FlightJoins", spec := "flightJoins", inPlace := ["internal/bytealg.IndexByteString"], unfollowed := true, recurses := true, apart := false, narrowed := true }
def FlightJoinsUptoSaid : Prop := flightJoinsUptoRow.holds Try.pinned (OpenSpec.upto flightJoinsSpec)

/-- 'appleloftlaw.OrderEncodes', WHERE WHAT IT READS IS OF BULK AT MOST 1048576: true; the input reads as it did. -/
def orderEncodesUptoRow : OpenClaim := { program := "ytamepigaenkidaa", sum := "5ea681beb24248ba69a2dedcb6a541fe58a5a7a09422175b3262cba60d2ce57f", func := "appleloft/appleloftlaw.OrderEncodes", spec := "orderEncodes", inPlace := ["internal/bytealg.IndexByteString"], unfollowed := true, recurses := true, apart := false, narrowed := true }
def OrderEncodesUptoSaid : Prop := orderEncodesUptoRow.holds Try.pinned (OpenSpec.upto orderEncodesSpec)

/-- 'appleloftlaw.IndexDrops', WHERE WHAT IT READS IS OF BULK AT MOST 1048576: true; the input reads as it did. -/
def indexDropsUptoRow : OpenClaim := { program := "ytamepigaenkidaa", sum := "5ea681beb24248ba69a2dedcb6a541fe58a5a7a09422175b3262cba60d2ce57f", func := "appleloft/appleloftlaw.IndexDrops", spec := "indexDrops", inPlace := ["internal/bytealg.IndexByteString"], unfollowed := true, recurses := true, apart := false, narrowed := true }
def IndexDropsUptoSaid : Prop := indexDropsUptoRow.holds Try.pinned (OpenSpec.upto indexDropsSpec)

/-- 'appleloftlaw.ManifestDecodes', WHERE WHAT IT READS IS OF BULK AT MOST 1048576: true; the input reads as it did. -/
def manifestDecodesUptoRow : OpenClaim := { program := "ytamepigaenkidaa", sum := "5ea681beb24248ba69a2dedcb6a541fe58a5a7a09422175b3262cba60d2ce57f", func := "appleloft/appleloftlaw.ManifestDecodes", spec := "manifestDecodes", inPlace := ["internal/abi.NoEscape", "internal/bytealg.IndexByteString"], apart := false, narrowed := true }
def ManifestDecodesUptoSaid : Prop := manifestDecodesUptoRow.holds Try.pinned (OpenSpec.upto manifestDecodesSpec)

/-- 'appleloftlaw.BlobChecks', WHERE WHAT IT READS IS OF BULK AT MOST 1048576: true; the input reads as it did. -/
def blobChecksUptoRow : OpenClaim := { program := "ytamepigaenkidaa", sum := "5ea681beb24248ba69a2dedcb6a541fe58a5a7a09422175b3262cba60d2ce57f", func := "appleloft/appleloftlaw.BlobChecks", spec := "blobChecks", inPlace := ["internal/bytealg.IndexByteString", "internal/abi.NoEscape"], apart := false, narrowed := true }
def BlobChecksUptoSaid : Prop := blobChecksUptoRow.holds Try.pinned (OpenSpec.upto blobChecksSpec)

/-- 'appleloftlaw.ReachParts', WHERE WHAT IT READS IS OF BULK AT MOST 1048576: true; the input reads as it did. -/
def reachPartsUptoRow : OpenClaim := { program := "ytamepigaenkidaa", sum := "5ea681beb24248ba69a2dedcb6a541fe58a5a7a09422175b3262cba60d2ce57f", func := "appleloft/appleloftlaw.ReachParts", spec := "reachParts", inPlace := ["internal/abi.NoEscape", "internal/bytealg.IndexByteString"], apart := false, narrowed := true }
def ReachPartsUptoSaid : Prop := reachPartsUptoRow.holds Try.pinned (OpenSpec.upto reachPartsSpec)

/-- 'appleloftlaw.ActionDecodes', WHERE WHAT IT READS IS OF BULK AT MOST 1048576: true; the input reads as it did. -/
def actionDecodesUptoRow : OpenClaim := { program := "ytamepigaenkidaa", sum := "5ea681beb24248ba69a2dedcb6a541fe58a5a7a09422175b3262cba60d2ce57f", func := "appleloft/appleloftlaw.ActionDecodes", spec := "actionDecodes", inPlace := ["internal/abi.NoEscape", "internal/bytealg.IndexByteString"], unfollowed := true, recurses := true, apart := false, narrowed := true }
def ActionDecodesUptoSaid : Prop := actionDecodesUptoRow.holds Try.pinned (OpenSpec.upto actionDecodesSpec)

/-- 'appleloftlaw.BlobDrops', WHERE WHAT IT READS IS OF BULK AT MOST 1048576: true; the input reads as it did. -/
def blobDropsUptoRow : OpenClaim := { program := "ytamepigaenkidaa", sum := "5ea681beb24248ba69a2dedcb6a541fe58a5a7a09422175b3262cba60d2ce57f", func := "appleloft/appleloftlaw.BlobDrops", spec := "blobDrops", inPlace := ["internal/bytealg.IndexByteString", "internal/abi.NoEscape"], unfollowed := true, recurses := true, apart := false, narrowed := true }
def BlobDropsUptoSaid : Prop := blobDropsUptoRow.holds Try.pinned (OpenSpec.upto blobDropsSpec)

/-- 'appleloftlaw.IndexPuts', WHERE WHAT IT READS IS OF BULK AT MOST 1048576: true; the input reads as it did. -/
def indexPutsUptoRow : OpenClaim := { program := "ytamepigaenkidaa", sum := "5ea681beb24248ba69a2dedcb6a541fe58a5a7a09422175b3262cba60d2ce57f", func := "appleloft/appleloftlaw.IndexPuts", spec := "indexPuts", inPlace := ["internal/bytealg.IndexByteString", "internal/bytealg.abigen_runtime_cmpstring", "slices.overlaps[appleloft/api.Entry]"], unfollowed := true, recurses := true, apart := false, narrowed := true }
def IndexPutsUptoSaid : Prop := indexPutsUptoRow.holds Try.pinned (OpenSpec.upto indexPutsSpec)

/-- 'appleloftlaw.OrderDecodes', WHERE WHAT IT READS IS OF BULK AT MOST 1048576: true; the input reads as it did. -/
def orderDecodesUptoRow : OpenClaim := { program := "ytamepigaenkidaa", sum := "5ea681beb24248ba69a2dedcb6a541fe58a5a7a09422175b3262cba60d2ce57f", func := "appleloft/appleloftlaw.OrderDecodes", spec := "orderDecodes", inPlace := ["internal/abi.NoEscape", "internal/bytealg.IndexByteString"], unfollowed := true, recurses := true, apart := false, narrowed := true }
def OrderDecodesUptoSaid : Prop := orderDecodesUptoRow.holds Try.pinned (OpenSpec.upto orderDecodesSpec)

/-- 'appleloftlaw.ActionKeys', WHERE WHAT IT READS IS OF BULK AT MOST 1048576: true; the input reads as it did. -/
def actionKeysUptoRow : OpenClaim := { program := "ytamepigaenkidaa", sum := "5ea681beb24248ba69a2dedcb6a541fe58a5a7a09422175b3262cba60d2ce57f", func := "appleloft/appleloftlaw.ActionKeys", spec := "actionKeys", inPlace := ["internal/bytealg.IndexByteString", "internal/bytealg.MakeNoZero", "internal/abi.NoEscape"], unfollowed := true, recurses := true, apart := false, narrowed := true }
def ActionKeysUptoSaid : Prop := actionKeysUptoRow.holds Try.pinned (OpenSpec.upto actionKeysSpec)

/-- 'appleloftlaw.StoreGetsBlob', WHERE WHAT IT READS IS OF BULK AT MOST 1048576: true; the input reads as it did. -/
def storeGetsBlobUptoRow : OpenClaim := { program := "ytamepigaenkidaa", sum := "5ea681beb24248ba69a2dedcb6a541fe58a5a7a09422175b3262cba60d2ce57f", func := "appleloft/appleloftlaw.StoreGetsBlob", spec := "storeGetsBlob", inPlace := ["internal/bytealg.IndexByteString", "internal/abi.NoEscape"], unfollowed := true, recurses := true, apart := false, narrowed := true }
def StoreGetsBlobUptoSaid : Prop := storeGetsBlobUptoRow.holds Try.pinned (OpenSpec.upto storeGetsBlobSpec)

/-- 'appleloftlaw.StoreChecks', WHERE WHAT IT READS IS OF BULK AT MOST 1048576: true; the input reads as it did. -/
def storeChecksUptoRow : OpenClaim := { program := "ytamepigaenkidaa", sum := "5ea681beb24248ba69a2dedcb6a541fe58a5a7a09422175b3262cba60d2ce57f", func := "appleloft/appleloftlaw.StoreChecks", spec := "storeChecks", inPlace := ["internal/bytealg.IndexByteString", "internal/abi.NoEscape"], unfollowed := true, recurses := true, apart := false, narrowed := true }
def StoreChecksUptoSaid : Prop := storeChecksUptoRow.holds Try.pinned (OpenSpec.upto storeChecksSpec)

/-- 'appleloftlaw.BlobPuts', WHERE WHAT IT READS IS OF BULK AT MOST 1048576: true; the input reads as it did. -/
def blobPutsUptoRow : OpenClaim := { program := "ytamepigaenkidaa", sum := "5ea681beb24248ba69a2dedcb6a541fe58a5a7a09422175b3262cba60d2ce57f", func := "appleloft/appleloftlaw.BlobPuts", spec := "blobPuts", inPlace := ["internal/bytealg.IndexByteString", "internal/abi.NoEscape", "internal/bytealg.abigen_runtime_cmpstring", "slices.overlaps[appleloft/api.Blob]"], unfollowed := true, recurses := true, apart := false, narrowed := true }
def BlobPutsUptoSaid : Prop := blobPutsUptoRow.holds Try.pinned (OpenSpec.upto blobPutsSpec)

/-- 'appleloftlaw.StoreGets', WHERE WHAT IT READS IS OF BULK AT MOST 1048576: true; the input reads as it did. -/
def storeGetsUptoRow : OpenClaim := { program := "ytamepigaenkidaa", sum := "5ea681beb24248ba69a2dedcb6a541fe58a5a7a09422175b3262cba60d2ce57f", func := "appleloft/appleloftlaw.StoreGets", spec := "storeGets", inPlace := ["internal/bytealg.IndexByteString", "internal/abi.NoEscape"], unfollowed := true, recurses := true, apart := false, narrowed := true }
def StoreGetsUptoSaid : Prop := storeGetsUptoRow.holds Try.pinned (OpenSpec.upto storeGetsSpec)

end Rows
end Go.Proofs.Ytamepigaenkidaa
