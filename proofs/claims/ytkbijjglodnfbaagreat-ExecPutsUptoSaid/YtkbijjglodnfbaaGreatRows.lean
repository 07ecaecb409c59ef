/-
  No cell of these rows narrows 'for every input' (looked for: loops, veiled, ifaces, maps, wideKeys, modest, calm, conditions, laid).
  DERIVED. THE GIVEN ROWS OF THIS SEAT. 11 by the template 'for every input the law returns true; each argument reads behind the call as it read before'; 0 by the template 'total and deterministic' (their statements: YtkbijjglodnfbaaGreatTotals.lean).
  GIVEN WITH THE SEED: the statements are not yours to turn. If you find one false, say at which input.
  Laid BY PROGRAM, IN A SANDBOX (cutbox-rows.mjs): the forced cells as the released guide's own fill.sh prints them over the translation 137398c84f4efb89… (all of the seat's roots in one cut). By AI agents, Wed Nov 11 2026. No macro, syntax, notation, axiom, sorry.
-/
import Derived.Test.YtkbijjglodnfbaaGreatChecked
import GoSem.Claim
import GoSem.ClaimJoined
import GoSem.ClaimMapViews
import Derived.JoinedTies
import Derived.KernelRfl
namespace Go.Proofs.YtkbijjglodnfbaaGreat
/- THE CELL 'sum', in the pinned program and in every row, IS THE sha256 OF THE DUMP (.gsa) THAT YtkbijjglodnfbaaGreatProg.lean LOADS. Nothing in Lean hashes anything: it is a label: what it is worth is what the hold of that sum in a sandbox is worth. -/
noncomputable def Tryz.pinned : Pinned := { name := "ytkbijjglodnfbaagreat", sum := "137398c84f4efb89d4dced6af80540f11957797b30bfb9daa36f4cee06bf9817", checked := Tryz.checked }
namespace Rows
def none {H : Type} : Left H := { results := [], args := [] }

/-- 'appleloftlaw.MarkSteps': WHATEVER THE INPUT: true; the input reads as it did. -/
def markStepsSpec : ChangeSpec := { name := "markSteps", fn := fun _ => fun
  | [d1, d2] => { results := [.lit (.bool true)], args := [d1, d2] }
  | _ => none }
def markStepsRow : OpenClaim := { program := "ytkbijjglodnfbaagreat", sum := "137398c84f4efb89d4dced6af80540f11957797b30bfb9daa36f4cee06bf9817", func := "appleloft/appleloftlaw.MarkSteps", spec := "markSteps", inPlace := ["internal/bytealg.IndexByteString", "internal/abi.NoEscape"], unfollowed := true, recurses := true, apart := false }
def MarkStepsSaid : Prop := markStepsRow.holds Tryz.pinned (OpenSpec.ofChange markStepsSpec)

/-- ITS FALSE NEIGHBOUR: 'it returns false'. Refute it at one input. -/
def markStepsWrong : ChangeSpec := { name := "markSteps", fn := fun _ => fun
  | [d1, d2] => { results := [.lit (.bool false)], args := [d1, d2] }
  | _ => none }
def MarkStepsWrongFalsely : Prop := markStepsRow.holds Tryz.pinned (OpenSpec.ofChange markStepsWrong)

/-- 'appleloftlaw.EvictClears': WHATEVER THE INPUT: true; the input reads as it did. -/
def evictClearsSpec : ChangeSpec := { name := "evictClears", fn := fun _ => fun
  | [d] => { results := [.lit (.bool true)], args := [d] }
  | _ => none }
def evictClearsRow : OpenClaim := { program := "ytkbijjglodnfbaagreat", sum := "137398c84f4efb89d4dced6af80540f11957797b30bfb9daa36f4cee06bf9817", func := "appleloft/appleloftlaw.EvictClears", spec := "evictClears", inPlace := ["internal/bytealg.IndexByteString", "internal/abi.NoEscape"], unfollowed := true, recurses := true, apart := false }
def EvictClearsSaid : Prop := evictClearsRow.holds Tryz.pinned (OpenSpec.ofChange evictClearsSpec)

/-- ITS FALSE NEIGHBOUR: 'it returns false'. Refute it at one input. -/
def evictClearsWrong : ChangeSpec := { name := "evictClears", fn := fun _ => fun
  | [d] => { results := [.lit (.bool false)], args := [d] }
  | _ => none }
def EvictClearsWrongFalsely : Prop := evictClearsRow.holds Tryz.pinned (OpenSpec.ofChange evictClearsWrong)

/-- 'appleloftlaw.EvictRuns': WHATEVER THE INPUT: true; the input reads as it did. -/
def evictRunsSpec : ChangeSpec := { name := "evictRuns", fn := fun _ => fun
  | [d1, d2] => { results := [.lit (.bool true)], args := [d1, d2] }
  | _ => none }
def evictRunsRow : OpenClaim := { program := "ytkbijjglodnfbaagreat", sum := "137398c84f4efb89d4dced6af80540f11957797b30bfb9daa36f4cee06bf9817", func := "appleloft/appleloftlaw.EvictRuns", spec := "evictRuns", inPlace := ["internal/bytealg.IndexByteString", "internal/abi.NoEscape"], unfollowed := true, recurses := true, apart := false }
def EvictRunsSaid : Prop := evictRunsRow.holds Tryz.pinned (OpenSpec.ofChange evictRunsSpec)

/-- ITS FALSE NEIGHBOUR: 'it returns false'. Refute it at one input. -/
def evictRunsWrong : ChangeSpec := { name := "evictRuns", fn := fun _ => fun
  | [d1, d2] => { results := [.lit (.bool false)], args := [d1, d2] }
  | _ => none }
def EvictRunsWrongFalsely : Prop := evictRunsRow.holds Tryz.pinned (OpenSpec.ofChange evictRunsWrong)

/-- 'appleloftlaw.CollectTicks': WHATEVER THE INPUT: true; the input reads as it did. -/
def collectTicksSpec : ChangeSpec := { name := "collectTicks", fn := fun _ => fun
  | [d1, d2] => { results := [.lit (.bool true)], args := [d1, d2] }
  | _ => none }
def collectTicksRow : OpenClaim := { program := "ytkbijjglodnfbaagreat", sum := "137398c84f4efb89d4dced6af80540f11957797b30bfb9daa36f4cee06bf9817", func := "appleloft/appleloftlaw.CollectTicks", spec := "collectTicks", inPlace := ["internal/bytealg.IndexByteString", "internal/abi.NoEscape"], unfollowed := true, recurses := true, apart := false }
def CollectTicksSaid : Prop := collectTicksRow.holds Tryz.pinned (OpenSpec.ofChange collectTicksSpec)

/-- ITS FALSE NEIGHBOUR: 'it returns false'. Refute it at one input. -/
def collectTicksWrong : ChangeSpec := { name := "collectTicks", fn := fun _ => fun
  | [d1, d2] => { results := [.lit (.bool false)], args := [d1, d2] }
  | _ => none }
def CollectTicksWrongFalsely : Prop := collectTicksRow.holds Tryz.pinned (OpenSpec.ofChange collectTicksWrong)

/-- 'appleloftlaw.CollectRuns': WHATEVER THE INPUT: true; the input reads as it did. -/
def collectRunsSpec : ChangeSpec := { name := "collectRuns", fn := fun _ => fun
  | [d1, d2] => { results := [.lit (.bool true)], args := [d1, d2] }
  | _ => none }
def collectRunsRow : OpenClaim := { program := "ytkbijjglodnfbaagreat", sum := "137398c84f4efb89d4dced6af80540f11957797b30bfb9daa36f4cee06bf9817", func := "appleloft/appleloftlaw.CollectRuns", spec := "collectRuns", inPlace := ["internal/bytealg.IndexByteString", "internal/abi.NoEscape"], unfollowed := true, recurses := true, apart := false }
def CollectRunsSaid : Prop := collectRunsRow.holds Tryz.pinned (OpenSpec.ofChange collectRunsSpec)

/-- ITS FALSE NEIGHBOUR: 'it returns false'. Refute it at one input. -/
def collectRunsWrong : ChangeSpec := { name := "collectRuns", fn := fun _ => fun
  | [d1, d2] => { results := [.lit (.bool false)], args := [d1, d2] }
  | _ => none }
def CollectRunsWrongFalsely : Prop := collectRunsRow.holds Tryz.pinned (OpenSpec.ofChange collectRunsWrong)

/-- 'appleloftlaw.ExecAsks': WHATEVER THE INPUT: true; the input reads as it did. -/
def execAsksSpec : ChangeSpec := { name := "execAsks", fn := fun _ => fun
  | [d1, d2, d3] => { results := [.lit (.bool true)], args := [d1, d2, d3] }
  | _ => none }
def execAsksRow : OpenClaim := { program := "ytkbijjglodnfbaagreat", sum := "137398c84f4efb89d4dced6af80540f11957797b30bfb9daa36f4cee06bf9817", func := "appleloft/appleloftlaw.ExecAsks", spec := "execAsks", inPlace := ["internal/bytealg.IndexByteString", "internal/abi.NoEscape"], unfollowed := true, recurses := true, apart := false }
def ExecAsksSaid : Prop := execAsksRow.holds Tryz.pinned (OpenSpec.ofChange execAsksSpec)

/-- ITS FALSE NEIGHBOUR: 'it returns false'. Refute it at one input. -/
def execAsksWrong : ChangeSpec := { name := "execAsks", fn := fun _ => fun
  | [d1, d2, d3] => { results := [.lit (.bool false)], args := [d1, d2, d3] }
  | _ => none }
def ExecAsksWrongFalsely : Prop := execAsksRow.holds Tryz.pinned (OpenSpec.ofChange execAsksWrong)

/-- 'appleloftlaw.BarrierHolds': WHATEVER THE INPUT: true; the input reads as it did. -/
def barrierHoldsSpec : ChangeSpec := { name := "barrierHolds", fn := fun _ => fun
  | [d1, d2, d3, d4, d5] => { results := [.lit (.bool true)], args := [d1, d2, d3, d4, d5] }
  | _ => none }
def barrierHoldsRow : OpenClaim := { program := "ytkbijjglodnfbaagreat", sum := "137398c84f4efb89d4dced6af80540f11957797b30bfb9daa36f4cee06bf9817", func := "appleloft/appleloftlaw.BarrierHolds", spec := "barrierHolds", inPlace := ["internal/bytealg.IndexByteString", "internal/abi.NoEscape"], unfollowed := true, recurses := true, apart := false }
def BarrierHoldsSaid : Prop := barrierHoldsRow.holds Tryz.pinned (OpenSpec.ofChange barrierHoldsSpec)

/-- ITS FALSE NEIGHBOUR: 'it returns false'. Refute it at one input. -/
def barrierHoldsWrong : ChangeSpec := { name := "barrierHolds", fn := fun _ => fun
  | [d1, d2, d3, d4, d5] => { results := [.lit (.bool false)], args := [d1, d2, d3, d4, d5] }
  | _ => none }
def BarrierHoldsWrongFalsely : Prop := barrierHoldsRow.holds Tryz.pinned (OpenSpec.ofChange barrierHoldsWrong)

/-- 'appleloftlaw.BarrierPuts': WHATEVER THE INPUT: true; the input reads as it did. -/
def barrierPutsSpec : ChangeSpec := { name := "barrierPuts", fn := fun _ => fun
  | [d1, d2, d3, d4] => { results := [.lit (.bool true)], args := [d1, d2, d3, d4] }
  | _ => none }
def barrierPutsRow : OpenClaim := { program := "ytkbijjglodnfbaagreat", sum := "137398c84f4efb89d4dced6af80540f11957797b30bfb9daa36f4cee06bf9817", func := "appleloft/appleloftlaw.BarrierPuts", spec := "barrierPuts", inPlace := ["internal/bytealg.IndexByteString", "internal/abi.NoEscape", "internal/bytealg.abigen_runtime_cmpstring", "slices.overlaps[appleloft/api.Entry]"], unfollowed := true, recurses := true, apart := false }
def BarrierPutsSaid : Prop := barrierPutsRow.holds Tryz.pinned (OpenSpec.ofChange barrierPutsSpec)

/-- ITS FALSE NEIGHBOUR: 'it returns false'. Refute it at one input. -/
def barrierPutsWrong : ChangeSpec := { name := "barrierPuts", fn := fun _ => fun
  | [d1, d2, d3, d4] => { results := [.lit (.bool false)], args := [d1, d2, d3, d4] }
  | _ => none }
def BarrierPutsWrongFalsely : Prop := barrierPutsRow.holds Tryz.pinned (OpenSpec.ofChange barrierPutsWrong)

/-- 'appleloftlaw.ExecPuts': WHATEVER THE INPUT: true; the input reads as it did. -/
def execPutsSpec : ChangeSpec := { name := "execPuts", fn := fun _ => fun
  | [d1, d2, d3] => { results := [.lit (.bool true)], args := [d1, d2, d3] }
  | _ => none }
def execPutsRow : OpenClaim := { program := "ytkbijjglodnfbaagreat", sum := "137398c84f4efb89d4dced6af80540f11957797b30bfb9daa36f4cee06bf9817", func := "appleloft/appleloftlaw.ExecPuts", spec := "execPuts", inPlace := ["internal/bytealg.IndexByteString", "internal/abi.NoEscape", "internal/bytealg.abigen_runtime_cmpstring", "slices.overlaps[appleloft/api.Entry]"], unfollowed := true, recurses := true, apart := false }
def ExecPutsSaid : Prop := execPutsRow.holds Tryz.pinned (OpenSpec.ofChange execPutsSpec)

/-- ITS FALSE NEIGHBOUR: 'it returns false'. Refute it at one input. -/
def execPutsWrong : ChangeSpec := { name := "execPuts", fn := fun _ => fun
  | [d1, d2, d3] => { results := [.lit (.bool false)], args := [d1, d2, d3] }
  | _ => none }
def ExecPutsWrongFalsely : Prop := execPutsRow.holds Tryz.pinned (OpenSpec.ofChange execPutsWrong)

/-- 'appleloftlaw.ExecEnds': WHATEVER THE INPUT: true; the input reads as it did. -/
def execEndsSpec : ChangeSpec := { name := "execEnds", fn := fun _ => fun
  | [d1, d2, d3] => { results := [.lit (.bool true)], args := [d1, d2, d3] }
  | _ => none }
def execEndsRow : OpenClaim := { program := "ytkbijjglodnfbaagreat", sum := "137398c84f4efb89d4dced6af80540f11957797b30bfb9daa36f4cee06bf9817", func := "appleloft/appleloftlaw.ExecEnds", spec := "execEnds", inPlace := ["internal/bytealg.IndexByteString", "internal/abi.NoEscape", "internal/bytealg.abigen_runtime_cmpstring", "slices.overlaps[appleloft/api.Entry]"], unfollowed := true, recurses := true, apart := false }
def ExecEndsSaid : Prop := execEndsRow.holds Tryz.pinned (OpenSpec.ofChange execEndsSpec)

/-- ITS FALSE NEIGHBOUR: 'it returns false'. Refute it at one input. -/
def execEndsWrong : ChangeSpec := { name := "execEnds", fn := fun _ => fun
  | [d1, d2, d3] => { results := [.lit (.bool false)], args := [d1, d2, d3] }
  | _ => none }
def ExecEndsWrongFalsely : Prop := execEndsRow.holds Tryz.pinned (OpenSpec.ofChange execEndsWrong)

/-- 'appleloftlaw.DeskRuns': WHATEVER THE INPUT: true; the input reads as it did. -/
def deskRunsSpec : ChangeSpec := { name := "deskRuns", fn := fun _ => fun
  | [d1, d2] => { results := [.lit (.bool true)], args := [d1, d2] }
  | _ => none }
def deskRunsRow : OpenClaim := { program := "ytkbijjglodnfbaagreat", sum := "137398c84f4efb89d4dced6af80540f11957797b30bfb9daa36f4cee06bf9817", func := "appleloft/appleloftlaw.DeskRuns", spec := "deskRuns", inPlace := ["internal/bytealg.IndexByteString", "internal/abi.NoEscape", "internal/bytealg.abigen_runtime_cmpstring", "slices.overlaps[appleloft/api.Blob]", "slices.overlaps[appleloft/api.Entry]"], unfollowed := true, recurses := true, apart := false }
def DeskRunsSaid : Prop := deskRunsRow.holds Tryz.pinned (OpenSpec.ofChange deskRunsSpec)

/-- ITS FALSE NEIGHBOUR: 'it returns false'. Refute it at one input. -/
def deskRunsWrong : ChangeSpec := { name := "deskRuns", fn := fun _ => fun
  | [d1, d2] => { results := [.lit (.bool false)], args := [d1, d2] }
  | _ => none }
def DeskRunsWrongFalsely : Prop := deskRunsRow.holds Tryz.pinned (OpenSpec.ofChange deskRunsWrong)

/- THE SECOND FORM. 'bulk': how many values and letters a reading holds, each counted each time it is reached (what is shared counts as often as it is met; a slice's spare places count too). A statement '..UptoSaid' is the law's where the arguments, and the package variables that the reading takes, are together of bulk at most 1048576: NARROWER than '..Said'. Prove '..Said' where nothing that the law and all that it calls make is longer than what came in: it says more and counts as full. Else prove '..UptoSaid'. A law counts once. -/
mutual
def uptoBulk {H : Type} : DataW H → Nat
  | .lit (.string bytes) => bytes.length + 1
  | .lit _ => 1
  | .nil => 1
  | .ptr d => uptoBulk d + 1
  | .slice elems spare => uptoBulkAll elems + uptoBulkAll spare + 1
  | .agg parts => uptoBulkAll parts + 1
  | .iface _ d => uptoBulk d + 1
  | .map entries => uptoBulkEntries entries + 1
  | .held _ => 1
def uptoBulkAll {H : Type} : List (DataW H) → Nat
  | [] => 0
  | d :: r => uptoBulk d + uptoBulkAll r
def uptoBulkEntries {H : Type} : List (Lit × DataW H) → Nat
  | [] => 0
  | x :: r => uptoBulkEntry x + uptoBulkEntries r
def uptoBulkEntry {H : Type} : Lit × DataW H → Nat
  | (.string bytes, d) => bytes.length + uptoBulk d + 1
  | (_, d) => uptoBulk d + 1
 end
def uptoSmall : (H : Type) → List (DataW H) → Bool := fun _ ds => decide (uptoBulkAll ds ≤ 1048576)
def OpenSpec.upto (s : _root_.Go.ChangeSpec) : _root_.Go.OpenSpec := { _root_.Go.OpenSpec.ofChange s with cond := some uptoSmall }

/-- 'appleloftlaw.MarkSteps', WHERE WHAT IT READS IS OF BULK AT MOST 1048576: true; the input reads as it did. -/
def markStepsUptoRow : OpenClaim := { program := "ytkbijjglodnfbaagreat", sum := "137398c84f4efb89d4dced6af80540f11957797b30bfb9daa36f4cee06bf9817", func := "appleloft/appleloftlaw.MarkSteps", spec := "markSteps", inPlace := ["internal/bytealg.IndexByteString", "internal/abi.NoEscape"], unfollowed := true, recurses := true, apart := false, narrowed := true }
def MarkStepsUptoSaid : Prop := markStepsUptoRow.holds Tryz.pinned (OpenSpec.upto markStepsSpec)

/-- 'appleloftlaw.EvictClears', WHERE WHAT IT READS IS OF BULK AT MOST 1048576: true; the input reads as it did. -/
def evictClearsUptoRow : OpenClaim := { program := "ytkbijjglodnfbaagreat", sum := "137398c84f4efb89d4dced6af80540f11957797b30bfb9daa36f4cee06bf9817", func := "appleloft/appleloftlaw.EvictClears", spec := "evictClears", inPlace := ["internal/bytealg.IndexByteString", "internal/abi.NoEscape"], unfollowed := true, recurses := true, apart := false, narrowed := true }
def EvictClearsUptoSaid : Prop := evictClearsUptoRow.holds Tryz.pinned (OpenSpec.upto evictClearsSpec)

/-- 'appleloftlaw.EvictRuns', WHERE WHAT IT READS IS OF BULK AT MOST 1048576: true; the input reads as it did. -/
def evictRunsUptoRow : OpenClaim := { program := "ytkbijjglodnfbaagreat", sum := "137398c84f4efb89d4dced6af80540f11957797b30bfb9daa36f4cee06bf9817", func := "appleloft/appleloftlaw.EvictRuns", spec := "evictRuns", inPlace := ["internal/bytealg.IndexByteString", "internal/abi.NoEscape"], unfollowed := true, recurses := true, apart := false, narrowed := true }
def EvictRunsUptoSaid : Prop := evictRunsUptoRow.holds Tryz.pinned (OpenSpec.upto evictRunsSpec)

/-- 'appleloftlaw.CollectTicks', WHERE WHAT IT READS IS OF BULK AT MOST 1048576: true; the input reads as it did. -/
def collectTicksUptoRow : OpenClaim := { program := "ytkbijjglodnfbaagreat", sum := "137398c84f4efb89d4dced6af80540f11957797b30bfb9daa36f4cee06bf9817", func := "appleloft/appleloftlaw.CollectTicks", spec := "collectTicks", inPlace := ["internal/bytealg.IndexByteString", "internal/abi.NoEscape"], unfollowed := true, recurses := true, apart := false, narrowed := true }
def CollectTicksUptoSaid : Prop := collectTicksUptoRow.holds Tryz.pinned (OpenSpec.upto collectTicksSpec)

/-- 'appleloftlaw.CollectRuns', WHERE WHAT IT READS IS OF BULK AT MOST 1048576: true; the input reads as it did. -/
def collectRunsUptoRow : OpenClaim := { program := "ytkbijjglodnfbaagreat", sum := "137398c84f4efb89d4dced6af80540f11957797b30bfb9daa36f4cee06bf9817", func := "appleloft/appleloftlaw.CollectRuns", spec := "collectRuns", inPlace := ["internal/bytealg.IndexByteString", "internal/abi.NoEscape"], unfollowed := true, recurses := true, apart := false, narrowed := true }
def CollectRunsUptoSaid : Prop := collectRunsUptoRow.holds Tryz.pinned (OpenSpec.upto collectRunsSpec)

/-- 'appleloftlaw.ExecAsks', WHERE WHAT IT READS IS OF BULK AT MOST 1048576: true; the input reads as it did. -/
def execAsksUptoRow : OpenClaim := { program := "ytkbijjglodnfbaagreat", sum := "137398c84f4efb89d4dced6af80540f11957797b30bfb9daa36f4cee06bf9817", func := "appleloft/appleloftlaw.ExecAsks", spec := "execAsks", inPlace := ["internal/bytealg.IndexByteString", "internal/abi.NoEscape"], unfollowed := true, recurses := true, apart := false, narrowed := true }
def ExecAsksUptoSaid : Prop := execAsksUptoRow.holds Tryz.pinned (OpenSpec.upto execAsksSpec)

/-- 'appleloftlaw.BarrierHolds', WHERE WHAT IT READS IS OF BULK AT MOST 1048576: true; the input reads as it did. -/
def barrierHoldsUptoRow : OpenClaim := { program := "ytkbijjglodnfbaagreat", sum := "137398c84f4efb89d4dced6af80540f11957797b30bfb9daa36f4cee06bf9817", func := "appleloft/appleloftlaw.BarrierHolds", spec := "barrierHolds", inPlace := ["internal/bytealg.IndexByteString", "internal/abi.NoEscape"], unfollowed := true, recurses := true, apart := false, narrowed := true }
def BarrierHoldsUptoSaid : Prop := barrierHoldsUptoRow.holds Tryz.pinned (OpenSpec.upto barrierHoldsSpec)

/-- 'appleloftlaw.BarrierPuts', WHERE WHAT IT READS IS OF BULK AT MOST 1048576: true; the input reads as it did. -/
def barrierPutsUptoRow : OpenClaim := { program := "ytkbijjglodnfbaagreat", sum := "137398c84f4efb89d4dced6af80540f11957797b30bfb9daa36f4cee06bf9817", func := "appleloft/appleloftlaw.BarrierPuts", spec := "barrierPuts", inPlace := ["internal/bytealg.IndexByteString", "internal/abi.NoEscape", "internal/bytealg.abigen_runtime_cmpstring", "slices.overlaps[appleloft/api.Entry]"], unfollowed := true, recurses := true, apart := false, narrowed := true }
def BarrierPutsUptoSaid : Prop := barrierPutsUptoRow.holds Tryz.pinned (OpenSpec.upto barrierPutsSpec)

/-- 'appleloftlaw.ExecPuts', WHERE WHAT IT READS IS OF BULK AT MOST 1048576: true; the input reads as it did. -/
def execPutsUptoRow : OpenClaim := { program := "ytkbijjglodnfbaagreat", sum := "137398c84f4efb89d4dced6af80540f11957797b30bfb9daa36f4cee06bf9817", func := "appleloft/appleloftlaw.ExecPuts", spec := "execPuts", inPlace := ["internal/bytealg.IndexByteString", "internal/abi.NoEscape", "internal/bytealg.abigen_runtime_cmpstring", "slices.overlaps[appleloft/api.Entry]"], unfollowed := true, recurses := true, apart := false, narrowed := true }
def ExecPutsUptoSaid : Prop := execPutsUptoRow.holds Tryz.pinned (OpenSpec.upto execPutsSpec)

/-- 'appleloftlaw.ExecEnds', WHERE WHAT IT READS IS OF BULK AT MOST 1048576: true; the input reads as it did. -/
def execEndsUptoRow : OpenClaim := { program := "ytkbijjglodnfbaagreat", sum := "137398c84f4efb89d4dced6af80540f11957797b30bfb9daa36f4cee06bf9817", func := "appleloft/appleloftlaw.ExecEnds", spec := "execEnds", inPlace := ["internal/bytealg.IndexByteString", "internal/abi.NoEscape", "internal/bytealg.abigen_runtime_cmpstring", "slices.overlaps[appleloft/api.Entry]"], unfollowed := true, recurses := true, apart := false, narrowed := true }
def ExecEndsUptoSaid : Prop := execEndsUptoRow.holds Tryz.pinned (OpenSpec.upto execEndsSpec)

/-- 'appleloftlaw.DeskRuns', WHERE WHAT IT READS IS OF BULK AT MOST 1048576: true; the input reads as it did. -/
def deskRunsUptoRow : OpenClaim := { program := "ytkbijjglodnfbaagreat", sum := "137398c84f4efb89d4dced6af80540f11957797b30bfb9daa36f4cee06bf9817", func := "appleloft/appleloftlaw.DeskRuns", spec := "deskRuns", inPlace := ["internal/bytealg.IndexByteString", "internal/abi.NoEscape", "internal/bytealg.abigen_runtime_cmpstring", "slices.overlaps[appleloft/api.Blob]", "slices.overlaps[appleloft/api.Entry]"], unfollowed := true, recurses := true, apart := false, narrowed := true }
def DeskRunsUptoSaid : Prop := deskRunsUptoRow.holds Tryz.pinned (OpenSpec.upto deskRunsSpec)

end Rows
end Go.Proofs.YtkbijjglodnfbaaGreat
