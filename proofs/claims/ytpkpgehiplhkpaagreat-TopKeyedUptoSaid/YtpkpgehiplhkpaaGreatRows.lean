/-
  No cell of these rows narrows 'for every input' (looked for: loops, veiled, ifaces, maps, wideKeys, modest, calm, conditions, laid).
  DERIVED. THE GIVEN ROWS OF THIS SEAT. 8 by the template 'for every input the law returns true; each argument reads behind the call as it read before'; 0 by the template 'total and deterministic' (their statements: YtpkpgehiplhkpaaGreatTotals.lean).
  GIVEN WITH THE SEED: the statements are not yours to turn. If you find one false, say at which input.
  Laid BY PROGRAM, IN A SANDBOX (cutbox-rows.mjs): the forced cells as the released guide's own fill.sh prints them over the translation 1984adcaf7f14fd4… (all of the seat's roots in one cut). By AI agents, Wed Nov 11 2026. No macro, syntax, notation, axiom, sorry.
-/
import Derived.Test.YtpkpgehiplhkpaaGreatChecked
import GoSem.Claim
import GoSem.ClaimJoined
import GoSem.ClaimMapViews
import Derived.JoinedTies
import Derived.KernelRfl
namespace Go.Proofs.YtpkpgehiplhkpaaGreat
/- THE CELL 'sum', in the pinned program and in every row, IS THE sha256 OF THE DUMP (.gsa) THAT YtpkpgehiplhkpaaGreatProg.lean LOADS. Nothing in Lean hashes anything: it is a label: what it is worth is what the hold of that sum in a sandbox is worth. -/
noncomputable def Tryz.pinned : Pinned := { name := "ytpkpgehiplhkpaagreat", sum := "1984adcaf7f14fd494ce7a55127d75ef061492bad9ec0a0d6bd414932c946c6c", checked := Tryz.checked }
namespace Rows
def none {H : Type} : Left H := { results := [], args := [] }

/-- 'applelofttop.TopTrue': WHATEVER THE INPUT: true; the input reads as it did. -/
def topTrueSpec : ChangeSpec := { name := "topTrue", fn := fun _ => fun
  | [d1, d2] => { results := [.lit (.bool true)], args := [d1, d2] }
  | _ => none }
def topTrueRow : OpenClaim := { program := "ytpkpgehiplhkpaagreat", sum := "1984adcaf7f14fd494ce7a55127d75ef061492bad9ec0a0d6bd414932c946c6c", func := "appleloft/applelofttop.TopTrue", spec := "topTrue", inPlace := ["internal/bytealg.IndexByteString", "internal/abi.NoEscape", "internal/bytealg.abigen_runtime_cmpstring", "slices.overlaps[appleloft/api.Blob]", "slices.overlaps[appleloft/api.Entry]"], unfollowed := true, recurses := true, apart := false }
def TopTrueSaid : Prop := topTrueRow.holds Tryz.pinned (OpenSpec.ofChange topTrueSpec)

/-- ITS FALSE NEIGHBOUR: 'it returns false'. Refute it at one input. -/
def topTrueWrong : ChangeSpec := { name := "topTrue", fn := fun _ => fun
  | [d1, d2] => { results := [.lit (.bool false)], args := [d1, d2] }
  | _ => none }
def TopTrueWrongFalsely : Prop := topTrueRow.holds Tryz.pinned (OpenSpec.ofChange topTrueWrong)

/-- 'applelofttop.TopHeld': WHATEVER THE INPUT: true; the input reads as it did. -/
def topHeldSpec : ChangeSpec := { name := "topHeld", fn := fun _ => fun
  | [d1, d2, d3] => { results := [.lit (.bool true)], args := [d1, d2, d3] }
  | _ => none }
def topHeldRow : OpenClaim := { program := "ytpkpgehiplhkpaagreat", sum := "1984adcaf7f14fd494ce7a55127d75ef061492bad9ec0a0d6bd414932c946c6c", func := "appleloft/applelofttop.TopHeld", spec := "topHeld", inPlace := ["internal/bytealg.IndexByteString", "internal/abi.NoEscape", "internal/bytealg.abigen_runtime_cmpstring", "slices.overlaps[appleloft/api.Blob]", "slices.overlaps[appleloft/api.Entry]"], unfollowed := true, recurses := true, apart := false }
def TopHeldSaid : Prop := topHeldRow.holds Tryz.pinned (OpenSpec.ofChange topHeldSpec)

/-- ITS FALSE NEIGHBOUR: 'it returns false'. Refute it at one input. -/
def topHeldWrong : ChangeSpec := { name := "topHeld", fn := fun _ => fun
  | [d1, d2, d3] => { results := [.lit (.bool false)], args := [d1, d2, d3] }
  | _ => none }
def TopHeldWrongFalsely : Prop := topHeldRow.holds Tryz.pinned (OpenSpec.ofChange topHeldWrong)

/-- 'applelofttop.TopBad': WHATEVER THE INPUT: true; the input reads as it did. -/
def topBadSpec : ChangeSpec := { name := "topBad", fn := fun _ => fun
  | [d1, d2] => { results := [.lit (.bool true)], args := [d1, d2] }
  | _ => none }
def topBadRow : OpenClaim := { program := "ytpkpgehiplhkpaagreat", sum := "1984adcaf7f14fd494ce7a55127d75ef061492bad9ec0a0d6bd414932c946c6c", func := "appleloft/applelofttop.TopBad", spec := "topBad", inPlace := ["internal/bytealg.IndexByteString", "internal/abi.NoEscape", "internal/bytealg.abigen_runtime_cmpstring", "slices.overlaps[appleloft/api.Blob]", "slices.overlaps[appleloft/api.Entry]"], unfollowed := true, recurses := true, apart := false }
def TopBadSaid : Prop := topBadRow.holds Tryz.pinned (OpenSpec.ofChange topBadSpec)

/-- ITS FALSE NEIGHBOUR: 'it returns false'. Refute it at one input. -/
def topBadWrong : ChangeSpec := { name := "topBad", fn := fun _ => fun
  | [d1, d2] => { results := [.lit (.bool false)], args := [d1, d2] }
  | _ => none }
def TopBadWrongFalsely : Prop := topBadRow.holds Tryz.pinned (OpenSpec.ofChange topBadWrong)

/-- 'appleloftlaw.DeskRuns': WHATEVER THE INPUT: true; the input reads as it did. -/
def deskRunsSpec : ChangeSpec := { name := "deskRuns", fn := fun _ => fun
  | [d1, d2] => { results := [.lit (.bool true)], args := [d1, d2] }
  | _ => none }
def deskRunsRow : OpenClaim := { program := "ytpkpgehiplhkpaagreat", sum := "1984adcaf7f14fd494ce7a55127d75ef061492bad9ec0a0d6bd414932c946c6c", func := "appleloft/appleloftlaw.DeskRuns", spec := "deskRuns", inPlace := ["internal/bytealg.IndexByteString", "internal/abi.NoEscape", "internal/bytealg.abigen_runtime_cmpstring", "slices.overlaps[appleloft/api.Blob]", "slices.overlaps[appleloft/api.Entry]"], unfollowed := true, recurses := true, apart := false }
def DeskRunsSaid : Prop := deskRunsRow.holds Tryz.pinned (OpenSpec.ofChange deskRunsSpec)

/-- ITS FALSE NEIGHBOUR: 'it returns false'. Refute it at one input. -/
def deskRunsWrong : ChangeSpec := { name := "deskRuns", fn := fun _ => fun
  | [d1, d2] => { results := [.lit (.bool false)], args := [d1, d2] }
  | _ => none }
def DeskRunsWrongFalsely : Prop := deskRunsRow.holds Tryz.pinned (OpenSpec.ofChange deskRunsWrong)

/-- 'applelofttop.TopThere': WHATEVER THE INPUT: true; the input reads as it did. -/
def topThereSpec : ChangeSpec := { name := "topThere", fn := fun _ => fun
  | [d1, d2] => { results := [.lit (.bool true)], args := [d1, d2] }
  | _ => none }
def topThereRow : OpenClaim := { program := "ytpkpgehiplhkpaagreat", sum := "1984adcaf7f14fd494ce7a55127d75ef061492bad9ec0a0d6bd414932c946c6c", func := "appleloft/applelofttop.TopThere", spec := "topThere", inPlace := ["internal/bytealg.IndexByteString", "internal/abi.NoEscape", "internal/bytealg.abigen_runtime_cmpstring", "slices.overlaps[appleloft/api.Blob]", "slices.overlaps[appleloft/api.Entry]"], unfollowed := true, recurses := true, apart := false }
def TopThereSaid : Prop := topThereRow.holds Tryz.pinned (OpenSpec.ofChange topThereSpec)

/-- ITS FALSE NEIGHBOUR: 'it returns false'. Refute it at one input. -/
def topThereWrong : ChangeSpec := { name := "topThere", fn := fun _ => fun
  | [d1, d2] => { results := [.lit (.bool false)], args := [d1, d2] }
  | _ => none }
def TopThereWrongFalsely : Prop := topThereRow.holds Tryz.pinned (OpenSpec.ofChange topThereWrong)

/-- 'applelofttop.TopMade': WHATEVER THE INPUT: true; the input reads as it did. -/
def topMadeSpec : ChangeSpec := { name := "topMade", fn := fun _ => fun
  | [d] => { results := [.lit (.bool true)], args := [d] }
  | _ => none }
def topMadeRow : OpenClaim := { program := "ytpkpgehiplhkpaagreat", sum := "1984adcaf7f14fd494ce7a55127d75ef061492bad9ec0a0d6bd414932c946c6c", func := "appleloft/applelofttop.TopMade", spec := "topMade", inPlace := ["internal/bytealg.IndexByteString", "internal/abi.NoEscape", "internal/bytealg.abigen_runtime_cmpstring", "slices.overlaps[appleloft/api.Blob]", "slices.overlaps[appleloft/api.Entry]"], unfollowed := true, recurses := true, apart := false }
def TopMadeSaid : Prop := topMadeRow.holds Tryz.pinned (OpenSpec.ofChange topMadeSpec)

/-- ITS FALSE NEIGHBOUR: 'it returns false'. Refute it at one input. -/
def topMadeWrong : ChangeSpec := { name := "topMade", fn := fun _ => fun
  | [d] => { results := [.lit (.bool false)], args := [d] }
  | _ => none }
def TopMadeWrongFalsely : Prop := topMadeRow.holds Tryz.pinned (OpenSpec.ofChange topMadeWrong)

/-- 'applelofttop.TopAny': WHATEVER THE INPUT: true; the input reads as it did. -/
def topAnySpec : ChangeSpec := { name := "topAny", fn := fun _ => fun
  | [d1, d2, d3] => { results := [.lit (.bool true)], args := [d1, d2, d3] }
  | _ => none }
def topAnyRow : OpenClaim := { program := "ytpkpgehiplhkpaagreat", sum := "1984adcaf7f14fd494ce7a55127d75ef061492bad9ec0a0d6bd414932c946c6c", func := "appleloft/applelofttop.TopAny", spec := "topAny", inPlace := ["internal/bytealg.IndexByteString", "internal/abi.NoEscape", "internal/bytealg.abigen_runtime_cmpstring", "slices.overlaps[appleloft/api.Blob]", "slices.overlaps[appleloft/api.Entry]"], unfollowed := true, recurses := true, apart := false }
def TopAnySaid : Prop := topAnyRow.holds Tryz.pinned (OpenSpec.ofChange topAnySpec)

/-- ITS FALSE NEIGHBOUR: 'it returns false'. Refute it at one input. -/
def topAnyWrong : ChangeSpec := { name := "topAny", fn := fun _ => fun
  | [d1, d2, d3] => { results := [.lit (.bool false)], args := [d1, d2, d3] }
  | _ => none }
def TopAnyWrongFalsely : Prop := topAnyRow.holds Tryz.pinned (OpenSpec.ofChange topAnyWrong)

/-- 'applelofttop.TopKeyed': WHATEVER THE INPUT: true; the input reads as it did. -/
def topKeyedSpec : ChangeSpec := { name := "topKeyed", fn := fun _ => fun
  | [d1, d2] => { results := [.lit (.bool true)], args := [d1, d2] }
  | _ => none }
def topKeyedRow : OpenClaim := { program := "ytpkpgehiplhkpaagreat", sum := "1984adcaf7f14fd494ce7a55127d75ef061492bad9ec0a0d6bd414932c946c6c", func := "appleloft/applelofttop.TopKeyed", spec := "topKeyed", inPlace := ["internal/bytealg.IndexByteString", "internal/bytealg.MakeNoZero", "internal/abi.NoEscape", "internal/bytealg.abigen_runtime_cmpstring", "slices.overlaps[appleloft/api.Blob]", "slices.overlaps[appleloft/api.Entry]"], unfollowed := true, recurses := true, apart := false }
def TopKeyedSaid : Prop := topKeyedRow.holds Tryz.pinned (OpenSpec.ofChange topKeyedSpec)

/-- ITS FALSE NEIGHBOUR: 'it returns false'. Refute it at one input. -/
def topKeyedWrong : ChangeSpec := { name := "topKeyed", fn := fun _ => fun
  | [d1, d2] => { results := [.lit (.bool false)], args := [d1, d2] }
  | _ => none }
def TopKeyedWrongFalsely : Prop := topKeyedRow.holds Tryz.pinned (OpenSpec.ofChange topKeyedWrong)

/- THE SECOND FORM. 'bulk': how many values and letters a reading holds, each counted each time it is reached (what is shared counts as often as it is met; a slice's spare places count too). A statement '..UptoSaid' is the law's where the arguments, and the package variables that the reading takes, are together of bulk at most 1048576: NARROWER than '..Said'. Prove '..Said' where nothing that the law and all that it calls make is longer than what came in: it says more and counts as full. Else prove '..UptoSaid'. A law counts once. -/
mutual
def uptoBulk {H : Type} : DataW H → Nat
  | .lit (.string bytes) => bytes.length + 1
  | .lit _ => 1
  | .nil => 1
  | .ptr d => uptoBulk d + 1
  | .slice elems spare => uptoBulkAll elems + uptoBulkAll spare + 1
  | .agg parts => uptoBulkAll parts + 1
  | .iface _ d => uptoBulk d + 1
  | .map entries => uptoBulkEntries entries + 1
  | .held _ => 1
def uptoBulkAll {H : Type} : List (DataW H) → Nat
  | [] => 0
  | d :: r => uptoBulk d + uptoBulkAll r
def uptoBulkEntries {H : Type} : List (Lit × DataW H) → Nat
  | [] => 0
  | x :: r => uptoBulkEntry x + uptoBulkEntries r
def uptoBulkEntry {H : Type} : Lit × DataW H → Nat
  | (.string bytes, d) => bytes.length + uptoBulk d + 1
  | (_, d) => uptoBulk d + 1
 end
def uptoSmall : (H : Type) → List (DataW H) → Bool := fun _ ds => decide (uptoBulkAll ds ≤ 1048576)
def OpenSpec.upto (s : _root_.Go.ChangeSpec) : _root_.Go.OpenSpec := { _root_.Go.OpenSpec.ofChange s with cond := some uptoSmall }

/-- 'applelofttop.TopTrue', WHERE WHAT IT READS IS OF BULK AT MOST 1048576: true; the input reads as it did. -/
def topTrueUptoRow : OpenClaim := { program := "ytpkpgehiplhkpaagreat", sum := "1984adcaf7f14fd494ce7a55127d75ef061492bad9ec0a0d6bd414932c946c6c", func := "appleloft/applelofttop.TopTrue", spec := "topTrue", inPlace := ["internal/bytealg.IndexByteString", "internal/abi.NoEscape", "internal/bytealg.abigen_runtime_cmpstring", "slices.overlaps[appleloft/api.Blob]", "slices.overlaps[appleloft/api.Entry]"], unfollowed := true, recurses := true, apart := false, narrowed := true }
def TopTrueUptoSaid : Prop := topTrueUptoRow.holds Tryz.pinned (OpenSpec.upto topTrueSpec)

/-- 'applelofttop.TopHeld', WHERE WHAT IT READS IS OF BULK AT MOST 1048576: true; the input reads as it did. -/
def topHeldUptoRow : OpenClaim := { program := "ytpkpgehiplhkpaagreat", sum := "1984adcaf7f14fd494ce7a55127d75ef061492bad9ec0a0d6bd414932c946c6c", func := "appleloft/applelofttop.TopHeld", spec := "topHeld", inPlace := ["internal/bytealg.IndexByteString", "internal/abi.NoEscape", "internal/bytealg.abigen_runtime_cmpstring", "slices.overlaps[appleloft/api.Blob]", "slices.overlaps[appleloft/api.Entry]"], unfollowed := true, recurses := true, apart := false, narrowed := true }
def TopHeldUptoSaid : Prop := topHeldUptoRow.holds Tryz.pinned (OpenSpec.upto topHeldSpec)

/-- 'applelofttop.TopBad', WHERE WHAT IT READS IS OF BULK AT MOST 1048576: true; the input reads as it did. -/
def topBadUptoRow : OpenClaim := { program := "ytpkpgehiplhkpaagreat", sum := "1984adcaf7f14fd494ce7a55127d75ef061492bad9ec0a0d6bd414932c946c6c", func := "appleloft/applelofttop.TopBad", spec := "topBad", inPlace := ["internal/bytealg.IndexByteString", "internal/abi.NoEscape", "internal/bytealg.abigen_runtime_cmpstring", "slices.overlaps[appleloft/api.Blob]", "slices.overlaps[appleloft/api.Entry]"], unfollowed := true, recurses := true, apart := false, narrowed := true }
def TopBadUptoSaid : Prop := topBadUptoRow.holds Tryz.pinned (OpenSpec.upto topBadSpec)

/-- 'appleloftlaw.DeskRuns', WHERE WHAT IT READS IS OF BULK AT MOST 1048576: true; the input reads as it did. -/
def deskRunsUptoRow : OpenClaim := { program := "ytpkpgehiplhkpaagreat", sum := "1984adcaf7f14fd494ce7a55127d75ef061492bad9ec0a0d6bd414932c946c6c", func := "appleloft/appleloftlaw.DeskRuns", spec := "deskRuns", inPlace := ["internal/bytealg.IndexByteString", "internal/abi.NoEscape", "internal/bytealg.abigen_runtime_cmpstring", "slices.overlaps[appleloft/api.Blob]", "slices.overlaps[appleloft/api.Entry]"], unfollowed := true, recurses := true, apart := false, narrowed := true }
def DeskRunsUptoSaid : Prop := deskRunsUptoRow.holds Tryz.pinned (OpenSpec.upto deskRunsSpec)

/-- 'applelofttop.TopThere', WHERE WHAT IT READS IS OF BULK AT MOST 1048576: true; the input reads as it did. -/
def topThereUptoRow : OpenClaim := { program := "ytpkpgehiplhkpaagreat", sum := "1984adcaf7f14fd494ce7a55127d75ef061492bad9ec0a0d6bd414932c946c6c", func := "appleloft/applelofttop.TopThere", spec := "topThere", inPlace := ["internal/bytealg.IndexByteString", "internal/abi.NoEscape", "internal/bytealg.abigen_runtime_cmpstring", "slices.overlaps[appleloft/api.Blob]", "slices.overlaps[appleloft/api.Entry]"], unfollowed := true, recurses := true, apart := false, narrowed := true }
def TopThereUptoSaid : Prop := topThereUptoRow.holds Tryz.pinned (OpenSpec.upto topThereSpec)

/-- 'applelofttop.TopMade', WHERE WHAT IT READS IS OF BULK AT MOST 1048576: true; the input reads as it did. -/
def topMadeUptoRow : OpenClaim := { program := "ytpkpgehiplhkpaagreat", sum := "1984adcaf7f14fd494ce7a55127d75ef061492bad9ec0a0d6bd414932c946c6c", func := "appleloft/applelofttop.TopMade", spec := "topMade", inPlace := ["internal/bytealg.IndexByteString", "internal/abi.NoEscape", "internal/bytealg.abigen_runtime_cmpstring", "slices.overlaps[appleloft/api.Blob]", "slices.overlaps[appleloft/api.Entry]"], unfollowed := true, recurses := true, apart := false, narrowed := true }
def TopMadeUptoSaid : Prop := topMadeUptoRow.holds Tryz.pinned (OpenSpec.upto topMadeSpec)

/-- 'applelofttop.TopAny', WHERE WHAT IT READS IS OF BULK AT MOST 1048576: true; the input reads as it did. -/
def topAnyUptoRow : OpenClaim := { program := "ytpkpgehiplhkpaagreat", sum := "1984adcaf7f14fd494ce7a55127d75ef061492bad9ec0a0d6bd414932c946c6c", func := "appleloft/applelofttop.TopAny", spec := "topAny", inPlace := ["internal/bytealg.IndexByteString", "internal/abi.NoEscape", "internal/bytealg.abigen_runtime_cmpstring", "slices.overlaps[appleloft/api.Blob]", "slices.overlaps[appleloft/api.Entry]"], unfollowed := true, recurses := true, apart := false, narrowed := true }
def TopAnyUptoSaid : Prop := topAnyUptoRow.holds Tryz.pinned (OpenSpec.upto topAnySpec)

/-- 'applelofttop.TopKeyed', WHERE WHAT IT READS IS OF BULK AT MOST 1048576: true; the input reads as it did. -/
def topKeyedUptoRow : OpenClaim := { program := "ytpkpgehiplhkpaagreat", sum := "1984adcaf7f14fd494ce7a55127d75ef061492bad9ec0a0d6bd414932c946c6c", func := "appleloft/applelofttop.TopKeyed", spec := "topKeyed", inPlace := ["internal/bytealg.IndexByteString", "internal/bytealg.MakeNoZero", "internal/abi.NoEscape", "internal/bytealg.abigen_runtime_cmpstring", "slices.overlaps[appleloft/api.Blob]", "slices.overlaps[appleloft/api.Entry]"], unfollowed := true, recurses := true, apart := false, narrowed := true }
def TopKeyedUptoSaid : Prop := topKeyedUptoRow.holds Tryz.pinned (OpenSpec.upto topKeyedSpec)

end Rows
end Go.Proofs.YtpkpgehiplhkpaaGreat
