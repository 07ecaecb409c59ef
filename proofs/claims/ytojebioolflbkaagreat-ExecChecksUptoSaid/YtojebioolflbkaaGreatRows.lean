/-
  No cell of these rows narrows 'for every input' (looked for: loops, veiled, ifaces, maps, wideKeys, modest, calm, conditions, laid).
  DERIVED. THE GIVEN ROWS OF THIS SEAT. 8 by the template 'for every input the law returns true; each argument reads behind the call as it read before'; 0 by the template 'total and deterministic' (their statements: YtojebioolflbkaaGreatTotals.lean).
  GIVEN WITH THE SEED: the statements are not yours to turn. If you find one false, say at which input.
  Laid BY PROGRAM, IN A SANDBOX (cutbox-rows.mjs): the forced cells as the released guide's own fill.sh prints them over the translation aab12c5611f0c05d… (all of the seat's roots in one cut). By AI agents, Wed Nov 11 2026. No macro, syntax, notation, axiom, sorry.
-/
import Derived.Test.YtojebioolflbkaaGreatChecked
import GoSem.Claim
import GoSem.ClaimJoined
import GoSem.ClaimMapViews
import Derived.JoinedTies
import Derived.KernelRfl
namespace Go.Proofs.YtojebioolflbkaaGreat
/- THE CELL 'sum', in the pinned program and in every row, IS THE sha256 OF THE DUMP (.gsa) THAT YtojebioolflbkaaGreatProg.lean LOADS. Nothing in Lean hashes anything: it is a label: what it is worth is what the hold of that sum in a sandbox is worth. -/
noncomputable def Tryz.pinned : Pinned := { name := "ytojebioolflbkaagreat", sum := "aab12c5611f0c05db88e73af00b6e73ea50c286503a343105718f2b667bbb59b", checked := Tryz.checked }
namespace Rows
def none {H : Type} : Left H := { results := [], args := [] }

/-- 'appleloftlaw.MarkBegins': WHATEVER THE INPUT: true; the input reads as it did. -/
def markBeginsSpec : ChangeSpec := { name := "markBegins", fn := fun _ => fun
  | [d1, d2, d3] => { results := [.lit (.bool true)], args := [d1, d2, d3] }
  | _ => none }
def markBeginsRow : OpenClaim := { program := "ytojebioolflbkaagreat", sum := "aab12c5611f0c05db88e73af00b6e73ea50c286503a343105718f2b667bbb59b", func := "appleloft/appleloftlaw.MarkBegins", spec := "markBegins", inPlace := ["internal/bytealg.IndexByteString", "internal/abi.NoEscape"], unfollowed := true, recurses := true, apart := false }
def MarkBeginsSaid : Prop := markBeginsRow.holds Tryz.pinned (OpenSpec.ofChange markBeginsSpec)

/-- ITS FALSE NEIGHBOUR: 'it returns false'. Refute it at one input. -/
def markBeginsWrong : ChangeSpec := { name := "markBegins", fn := fun _ => fun
  | [d1, d2, d3] => { results := [.lit (.bool false)], args := [d1, d2, d3] }
  | _ => none }
def MarkBeginsWrongFalsely : Prop := markBeginsRow.holds Tryz.pinned (OpenSpec.ofChange markBeginsWrong)

/-- 'appleloftlaw.EvictWastes': WHATEVER THE INPUT: true; the input reads as it did. -/
def evictWastesSpec : ChangeSpec := { name := "evictWastes", fn := fun _ => fun
  | [d] => { results := [.lit (.bool true)], args := [d] }
  | _ => none }
def evictWastesRow : OpenClaim := { program := "ytojebioolflbkaagreat", sum := "aab12c5611f0c05db88e73af00b6e73ea50c286503a343105718f2b667bbb59b", func := "appleloft/appleloftlaw.EvictWastes", spec := "evictWastes", inPlace := ["internal/bytealg.IndexByteString", "internal/abi.NoEscape"], unfollowed := true, recurses := true, apart := false }
def EvictWastesSaid : Prop := evictWastesRow.holds Tryz.pinned (OpenSpec.ofChange evictWastesSpec)

/-- ITS FALSE NEIGHBOUR: 'it returns false'. Refute it at one input. -/
def evictWastesWrong : ChangeSpec := { name := "evictWastes", fn := fun _ => fun
  | [d] => { results := [.lit (.bool false)], args := [d] }
  | _ => none }
def EvictWastesWrongFalsely : Prop := evictWastesRow.holds Tryz.pinned (OpenSpec.ofChange evictWastesWrong)

/-- 'appleloftlaw.MarkSteps': WHATEVER THE INPUT: true; the input reads as it did. -/
def markStepsSpec : ChangeSpec := { name := "markSteps", fn := fun _ => fun
  | [d1, d2] => { results := [.lit (.bool true)], args := [d1, d2] }
  | _ => none }
def markStepsRow : OpenClaim := { program := "ytojebioolflbkaagreat", sum := "aab12c5611f0c05db88e73af00b6e73ea50c286503a343105718f2b667bbb59b", func := "appleloft/appleloftlaw.MarkSteps", spec := "markSteps", inPlace := ["internal/bytealg.IndexByteString", "internal/abi.NoEscape"], unfollowed := true, recurses := true, apart := false }
def MarkStepsSaid : Prop := markStepsRow.holds Tryz.pinned (OpenSpec.ofChange markStepsSpec)

/-- ITS FALSE NEIGHBOUR: 'it returns false'. Refute it at one input. -/
def markStepsWrong : ChangeSpec := { name := "markSteps", fn := fun _ => fun
  | [d1, d2] => { results := [.lit (.bool false)], args := [d1, d2] }
  | _ => none }
def MarkStepsWrongFalsely : Prop := markStepsRow.holds Tryz.pinned (OpenSpec.ofChange markStepsWrong)

/-- 'appleloftlaw.EvictClears': WHATEVER THE INPUT: true; the input reads as it did. -/
def evictClearsSpec : ChangeSpec := { name := "evictClears", fn := fun _ => fun
  | [d] => { results := [.lit (.bool true)], args := [d] }
  | _ => none }
def evictClearsRow : OpenClaim := { program := "ytojebioolflbkaagreat", sum := "aab12c5611f0c05db88e73af00b6e73ea50c286503a343105718f2b667bbb59b", func := "appleloft/appleloftlaw.EvictClears", spec := "evictClears", inPlace := ["internal/bytealg.IndexByteString", "internal/abi.NoEscape"], unfollowed := true, recurses := true, apart := false }
def EvictClearsSaid : Prop := evictClearsRow.holds Tryz.pinned (OpenSpec.ofChange evictClearsSpec)

/-- ITS FALSE NEIGHBOUR: 'it returns false'. Refute it at one input. -/
def evictClearsWrong : ChangeSpec := { name := "evictClears", fn := fun _ => fun
  | [d] => { results := [.lit (.bool false)], args := [d] }
  | _ => none }
def EvictClearsWrongFalsely : Prop := evictClearsRow.holds Tryz.pinned (OpenSpec.ofChange evictClearsWrong)

/-- 'appleloftlaw.CollectChecks': WHATEVER THE INPUT: true; the input reads as it did. -/
def collectChecksSpec : ChangeSpec := { name := "collectChecks", fn := fun _ => fun
  | [d1, d2] => { results := [.lit (.bool true)], args := [d1, d2] }
  | _ => none }
def collectChecksRow : OpenClaim := { program := "ytojebioolflbkaagreat", sum := "aab12c5611f0c05db88e73af00b6e73ea50c286503a343105718f2b667bbb59b", func := "appleloft/appleloftlaw.CollectChecks", spec := "collectChecks", inPlace := ["internal/bytealg.IndexByteString", "internal/abi.NoEscape"], unfollowed := true, recurses := true, apart := false }
def CollectChecksSaid : Prop := collectChecksRow.holds Tryz.pinned (OpenSpec.ofChange collectChecksSpec)

/-- ITS FALSE NEIGHBOUR: 'it returns false'. Refute it at one input. -/
def collectChecksWrong : ChangeSpec := { name := "collectChecks", fn := fun _ => fun
  | [d1, d2] => { results := [.lit (.bool false)], args := [d1, d2] }
  | _ => none }
def CollectChecksWrongFalsely : Prop := collectChecksRow.holds Tryz.pinned (OpenSpec.ofChange collectChecksWrong)

/-- 'appleloftlaw.EvictRuns': WHATEVER THE INPUT: true; the input reads as it did. -/
def evictRunsSpec : ChangeSpec := { name := "evictRuns", fn := fun _ => fun
  | [d1, d2] => { results := [.lit (.bool true)], args := [d1, d2] }
  | _ => none }
def evictRunsRow : OpenClaim := { program := "ytojebioolflbkaagreat", sum := "aab12c5611f0c05db88e73af00b6e73ea50c286503a343105718f2b667bbb59b", func := "appleloft/appleloftlaw.EvictRuns", spec := "evictRuns", inPlace := ["internal/bytealg.IndexByteString", "internal/abi.NoEscape"], unfollowed := true, recurses := true, apart := false }
def EvictRunsSaid : Prop := evictRunsRow.holds Tryz.pinned (OpenSpec.ofChange evictRunsSpec)

/-- ITS FALSE NEIGHBOUR: 'it returns false'. Refute it at one input. -/
def evictRunsWrong : ChangeSpec := { name := "evictRuns", fn := fun _ => fun
  | [d1, d2] => { results := [.lit (.bool false)], args := [d1, d2] }
  | _ => none }
def EvictRunsWrongFalsely : Prop := evictRunsRow.holds Tryz.pinned (OpenSpec.ofChange evictRunsWrong)

/-- 'appleloftlaw.ExecChecks': WHATEVER THE INPUT: true; the input reads as it did. -/
def execChecksSpec : ChangeSpec := { name := "execChecks", fn := fun _ => fun
  | [d] => { results := [.lit (.bool true)], args := [d] }
  | _ => none }
def execChecksRow : OpenClaim := { program := "ytojebioolflbkaagreat", sum := "aab12c5611f0c05db88e73af00b6e73ea50c286503a343105718f2b667bbb59b", func := "appleloft/appleloftlaw.ExecChecks", spec := "execChecks", inPlace := ["internal/bytealg.IndexByteString", "internal/abi.NoEscape"], unfollowed := true, recurses := true, apart := false }
def ExecChecksSaid : Prop := execChecksRow.holds Tryz.pinned (OpenSpec.ofChange execChecksSpec)

/-- ITS FALSE NEIGHBOUR: 'it returns false'. Refute it at one input. -/
def execChecksWrong : ChangeSpec := { name := "execChecks", fn := fun _ => fun
  | [d] => { results := [.lit (.bool false)], args := [d] }
  | _ => none }
def ExecChecksWrongFalsely : Prop := execChecksRow.holds Tryz.pinned (OpenSpec.ofChange execChecksWrong)

/-- 'appleloftlaw.CollectTicks': WHATEVER THE INPUT: true; the input reads as it did. -/
def collectTicksSpec : ChangeSpec := { name := "collectTicks", fn := fun _ => fun
  | [d1, d2] => { results := [.lit (.bool true)], args := [d1, d2] }
  | _ => none }
def collectTicksRow : OpenClaim := { program := "ytojebioolflbkaagreat", sum := "aab12c5611f0c05db88e73af00b6e73ea50c286503a343105718f2b667bbb59b", func := "appleloft/appleloftlaw.CollectTicks", spec := "collectTicks", inPlace := ["internal/bytealg.IndexByteString", "internal/abi.NoEscape"], unfollowed := true, recurses := true, apart := false }
def CollectTicksSaid : Prop := collectTicksRow.holds Tryz.pinned (OpenSpec.ofChange collectTicksSpec)

/-- ITS FALSE NEIGHBOUR: 'it returns false'. Refute it at one input. -/
def collectTicksWrong : ChangeSpec := { name := "collectTicks", fn := fun _ => fun
  | [d1, d2] => { results := [.lit (.bool false)], args := [d1, d2] }
  | _ => none }
def CollectTicksWrongFalsely : Prop := collectTicksRow.holds Tryz.pinned (OpenSpec.ofChange collectTicksWrong)

/- THE SECOND FORM. 'bulk': how many values and letters a reading holds, each counted each time it is reached (what is shared counts as often as it is met; a slice's spare places count too). A statement '..UptoSaid' is the law's where the arguments, and the package variables that the reading takes, are together of bulk at most 1048576: NARROWER than '..Said'. Prove '..Said' where nothing that the law and all that it calls make is longer than what came in: it says more and counts as full. Else prove '..UptoSaid'. A law counts once. -/
mutual
def uptoBulk {H : Type} : DataW H → Nat
  | .lit (.string bytes) => bytes.length + 1
  | .lit _ => 1
  | .nil => 1
  | .ptr d => uptoBulk d + 1
  | .slice elems spare => uptoBulkAll elems + uptoBulkAll spare + 1
  | .agg parts => uptoBulkAll parts + 1
  | .iface _ d => uptoBulk d + 1
  | .map entries => uptoBulkEntries entries + 1
  | .held _ => 1
def uptoBulkAll {H : Type} : List (DataW H) → Nat
  | [] => 0
  | d :: r => uptoBulk d + uptoBulkAll r
def uptoBulkEntries {H : Type} : List (Lit × DataW H) → Nat
  | [] => 0
  | x :: r => uptoBulkEntry x + uptoBulkEntries r
def uptoBulkEntry {H : Type} : Lit × DataW H → Nat
  | (.string bytes, d) => bytes.length + uptoBulk d + 1
  | (_, d) => uptoBulk d + 1
 end
def uptoSmall : (H : Type) → List (DataW H) → Bool := fun _ ds => decide (uptoBulkAll ds ≤ 1048576)
def OpenSpec.upto (s : _root_.Go.ChangeSpec) : _root_.Go.OpenSpec := { _root_.Go.OpenSpec.ofChange s with cond := some uptoSmall }

/-- 'appleloftlaw.MarkBegins', WHERE WHAT IT READS IS OF BULK AT MOST 1048576: true; the input reads as it did. -/
def markBeginsUptoRow : OpenClaim := { program := "ytojebioolflbkaagreat", sum := "aab12c5611f0c05db88e73af00b6e73ea50c286503a343105718f2b667bbb59b", func := "appleloft/appleloftlaw.MarkBegins", spec := "markBegins", inPlace := ["internal/bytealg.IndexByteString", "internal/abi.NoEscape"], unfollowed := true, recurses := true, apart := false, narrowed := true }
def MarkBeginsUptoSaid : Prop := markBeginsUptoRow.holds Tryz.pinned (OpenSpec.upto markBeginsSpec)

/-- 'appleloftlaw.EvictWastes', WHERE WHAT IT READS IS OF BULK AT MOST 1048576: true; the input reads as it did. -/
def evictWastesUptoRow : OpenClaim := { program := "ytojebioolflbkaagreat", sum := "aab12c5611f0c05db88e73af00b6e73ea50c286503a343105718f2b667bbb59b", func := "appleloft/appleloftlaw.EvictWastes", spec := "evictWastes", inPlace := ["internal/bytealg.IndexByteString", "internal/abi.NoEscape"], unfollowed := true, recurses := true, apart := false, narrowed := true }
def EvictWastesUptoSaid : Prop := evictWastesUptoRow.holds Tryz.pinned (OpenSpec.upto evictWastesSpec)

/-- 'appleloftlaw.MarkSteps', WHERE WHAT IT READS IS OF BULK AT MOST 1048576: true; the input reads as it did. -/
def markStepsUptoRow : OpenClaim := { program := "ytojebioolflbkaagreat", sum := "aab12c5611f0c05db88e73af00b6e73ea50c286503a343105718f2b667bbb59b", func := "appleloft/appleloftlaw.MarkSteps", spec := "markSteps", inPlace := ["internal/bytealg.IndexByteString", "internal/abi.NoEscape"], unfollowed := true, recurses := true, apart := false, narrowed := true }
def MarkStepsUptoSaid : Prop := markStepsUptoRow.holds Tryz.pinned (OpenSpec.upto markStepsSpec)

/-- 'appleloftlaw.EvictClears', WHERE WHAT IT READS IS OF BULK AT MOST 1048576: true; the input reads as it did. -/
def evictClearsUptoRow : OpenClaim := { program := "ytojebioolflbkaagreat", sum := "aab12c5611f0c05db88e73af00b6e73ea50c286503a343105718f2b667bbb59b", func := "appleloft/appleloftlaw.EvictClears", spec := "evictClears", inPlace := ["internal/bytealg.IndexByteString", "internal/abi.NoEscape"], unfollowed := true, recurses := true, apart := false, narrowed := true }
def EvictClearsUptoSaid : Prop := evictClearsUptoRow.holds Tryz.pinned (OpenSpec.upto evictClearsSpec)

/-- 'appleloftlaw.CollectChecks', WHERE WHAT IT READS IS OF BULK AT MOST 1048576: true; the input reads as it did. -/
def collectChecksUptoRow : OpenClaim := { program := "ytojebioolflbkaagreat", sum := "aab12c5611f0c05db88e73af00b6e73ea50c286503a343105718f2b667bbb59b", func := "appleloft/appleloftlaw.CollectChecks", spec := "collectChecks", inPlace := ["internal/bytealg.IndexByteString", "internal/abi.NoEscape"], unfollowed := true, recurses := true, apart := false, narrowed := true }
def CollectChecksUptoSaid : Prop := collectChecksUptoRow.holds Tryz.pinned (OpenSpec.upto collectChecksSpec)

/-- 'appleloftlaw.EvictRuns', WHERE WHAT IT READS IS OF BULK AT MOST 1048576: true; the input reads as it did. -/
def evictRunsUptoRow : OpenClaim := { program := "ytojebioolflbkaagreat", sum := "aab12c5611f0c05db88e73af00b6e73ea50c286503a343105718f2b667bbb59b", func := "appleloft/appleloftlaw.EvictRuns", spec := "evictRuns", inPlace := ["internal/bytealg.IndexByteString", "internal/abi.NoEscape"], unfollowed := true, recurses := true, apart := false, narrowed := true }
def EvictRunsUptoSaid : Prop := evictRunsUptoRow.holds Tryz.pinned (OpenSpec.upto evictRunsSpec)

/-- 'appleloftlaw.ExecChecks', WHERE WHAT IT READS IS OF BULK AT MOST 1048576: true; the input reads as it did. -/
def execChecksUptoRow : OpenClaim := { program := "ytojebioolflbkaagreat", sum := "aab12c5611f0c05db88e73af00b6e73ea50c286503a343105718f2b667bbb59b", func := "appleloft/appleloftlaw.ExecChecks", spec := "execChecks", inPlace := ["internal/bytealg.IndexByteString", "internal/abi.NoEscape"], unfollowed := true, recurses := true, apart := false, narrowed := true }
def ExecChecksUptoSaid : Prop := execChecksUptoRow.holds Tryz.pinned (OpenSpec.upto execChecksSpec)

/-- 'appleloftlaw.CollectTicks', WHERE WHAT IT READS IS OF BULK AT MOST 1048576: true; the input reads as it did. -/
def collectTicksUptoRow : OpenClaim := { program := "ytojebioolflbkaagreat", sum := "aab12c5611f0c05db88e73af00b6e73ea50c286503a343105718f2b667bbb59b", func := "appleloft/appleloftlaw.CollectTicks", spec := "collectTicks", inPlace := ["internal/bytealg.IndexByteString", "internal/abi.NoEscape"], unfollowed := true, recurses := true, apart := false, narrowed := true }
def CollectTicksUptoSaid : Prop := collectTicksUptoRow.holds Tryz.pinned (OpenSpec.upto collectTicksSpec)

end Rows
end Go.Proofs.YtojebioolflbkaaGreat
