/-
  No cell of these rows narrows 'for every input' (looked for: loops, veiled, ifaces, maps, wideKeys, modest, calm, conditions, laid).
  DERIVED. THE GIVEN ROWS OF THIS SEAT. 6 by the template 'for every input the law returns true; each argument reads behind the call as it read before'; 0 by the template 'total and deterministic' (their statements: YtkclbhmlciafiaaTotals.lean).
  GIVEN WITH THE SEED: the statements are not yours to turn. If you find one false, say at which input.
  Laid BY PROGRAM, IN A SANDBOX (cutbox-rows.mjs): the forced cells as the released guide's own fill.sh prints them over the translation 567a2f971f7469df… (all of the seat's roots in one cut). By AI agents, Wed Nov 11 2026. No macro, syntax, notation, axiom, sorry.
-/
import Derived.Test.YtkclbhmlciafiaaChecked
import GoSem.Claim
import GoSem.ClaimJoined
import GoSem.ClaimMapViews
import Derived.JoinedTies
import Derived.KernelRfl
namespace Go.Proofs.Ytkclbhmlciafiaa
/- THE CELL 'sum', in the pinned program and in every row, IS THE sha256 OF THE DUMP (.gsa) THAT YtkclbhmlciafiaaProg.lean LOADS. Nothing in Lean hashes anything: it is a label: what it is worth is what the hold of that sum in a sandbox is worth. -/
noncomputable def Try.pinned : Pinned := { name := "ytkclbhmlciafiaa", sum := "567a2f971f7469df5d84c421d21864392f4e83fc3a78fb303e3d84476c24d95e", checked := Try.checked }
namespace Rows
def none {H : Type} : Left H := { results := [], args := [] }

/-- 'appleloftlaw.Names': WHATEVER THE INPUT: true; the input reads as it did. -/
def namesSpec : ChangeSpec := { name := "names", fn := fun _ => fun
  | [] => { results := [.lit (.bool true)], args := [] }
  | _ => none }
def namesRow : OpenClaim := { program := "ytkclbhmlciafiaa", sum := "567a2f971f7469df5d84c421d21864392f4e83fc3a78fb303e3d84476c24d95e", func := "appleloft/appleloftlaw.Names", spec := "names", apart := false }
def NamesSaid : Prop := namesRow.holds Try.pinned (OpenSpec.ofChange namesSpec)

/-- ITS FALSE NEIGHBOUR: 'it returns false'. Refute it at one input. -/
def namesWrong : ChangeSpec := { name := "names", fn := fun _ => fun
  | [] => { results := [.lit (.bool false)], args := [] }
  | _ => none }
def NamesWrongFalsely : Prop := namesRow.holds Try.pinned (OpenSpec.ofChange namesWrong)

/-- 'appleloftlaw.WordBits': WHATEVER THE INPUT: true; the input reads as it did. -/
def wordBitsSpec : ChangeSpec := { name := "wordBits", fn := fun _ => fun
  | [d1, d2, d3] => { results := [.lit (.bool true)], args := [d1, d2, d3] }
  | _ => none }
def wordBitsRow : OpenClaim := { program := "ytkclbhmlciafiaa", sum := "567a2f971f7469df5d84c421d21864392f4e83fc3a78fb303e3d84476c24d95e", func := "appleloft/appleloftlaw.WordBits", spec := "wordBits", apart := false }
def WordBitsSaid : Prop := wordBitsRow.holds Try.pinned (OpenSpec.ofChange wordBitsSpec)

/-- ITS FALSE NEIGHBOUR: 'it returns false'. Refute it at one input. -/
def wordBitsWrong : ChangeSpec := { name := "wordBits", fn := fun _ => fun
  | [d1, d2, d3] => { results := [.lit (.bool false)], args := [d1, d2, d3] }
  | _ => none }
def WordBitsWrongFalsely : Prop := wordBitsRow.holds Try.pinned (OpenSpec.ofChange wordBitsWrong)

/-- 'appleloftlaw.WireNumbers': WHATEVER THE INPUT: true; the input reads as it did. -/
def wireNumbersSpec : ChangeSpec := { name := "wireNumbers", fn := fun _ => fun
  | [d] => { results := [.lit (.bool true)], args := [d] }
  | _ => none }
def wireNumbersRow : OpenClaim := { program := "ytkclbhmlciafiaa", sum := "567a2f971f7469df5d84c421d21864392f4e83fc3a78fb303e3d84476c24d95e", func := "appleloft/appleloftlaw.WireNumbers", spec := "wireNumbers", apart := false }
def WireNumbersSaid : Prop := wireNumbersRow.holds Try.pinned (OpenSpec.ofChange wireNumbersSpec)

/-- ITS FALSE NEIGHBOUR: 'it returns false'. Refute it at one input. -/
def wireNumbersWrong : ChangeSpec := { name := "wireNumbers", fn := fun _ => fun
  | [d] => { results := [.lit (.bool false)], args := [d] }
  | _ => none }
def WireNumbersWrongFalsely : Prop := wireNumbersRow.holds Try.pinned (OpenSpec.ofChange wireNumbersWrong)

/-- 'appleloftlaw.IndexOlds': WHATEVER THE INPUT: true; the input reads as it did. -/
def indexOldsSpec : ChangeSpec := { name := "indexOlds", fn := fun _ => fun
  | [d] => { results := [.lit (.bool true)], args := [d] }
  | _ => none }
def indexOldsRow : OpenClaim := { program := "ytkclbhmlciafiaa", sum := "567a2f971f7469df5d84c421d21864392f4e83fc3a78fb303e3d84476c24d95e", func := "appleloft/appleloftlaw.IndexOlds", spec := "indexOlds", apart := false }
def IndexOldsSaid : Prop := indexOldsRow.holds Try.pinned (OpenSpec.ofChange indexOldsSpec)

/-- ITS FALSE NEIGHBOUR: 'it returns false'. Refute it at one input. -/
def indexOldsWrong : ChangeSpec := { name := "indexOlds", fn := fun _ => fun
  | [d] => { results := [.lit (.bool false)], args := [d] }
  | _ => none }
def IndexOldsWrongFalsely : Prop := indexOldsRow.holds Try.pinned (OpenSpec.ofChange indexOldsWrong)

/-- 'appleloftlaw.RoomTells': WHATEVER THE INPUT: true; the input reads as it did. -/
def roomTellsSpec : ChangeSpec := { name := "roomTells", fn := fun _ => fun
  | [d1, d2, d3] => { results := [.lit (.bool true)], args := [d1, d2, d3] }
  | _ => none }
def roomTellsRow : OpenClaim := { program := "ytkclbhmlciafiaa", sum := "567a2f971f7469df5d84c421d21864392f4e83fc3a78fb303e3d84476c24d95e", func := "appleloft/appleloftlaw.RoomTells", spec := "roomTells", apart := false }
def RoomTellsSaid : Prop := roomTellsRow.holds Try.pinned (OpenSpec.ofChange roomTellsSpec)

/-- ITS FALSE NEIGHBOUR: 'it returns false'. Refute it at one input. -/
def roomTellsWrong : ChangeSpec := { name := "roomTells", fn := fun _ => fun
  | [d1, d2, d3] => { results := [.lit (.bool false)], args := [d1, d2, d3] }
  | _ => none }
def RoomTellsWrongFalsely : Prop := roomTellsRow.holds Try.pinned (OpenSpec.ofChange roomTellsWrong)

/-- 'appleloftlaw.PinMoves': WHATEVER THE INPUT: true; the input reads as it did. -/
def pinMovesSpec : ChangeSpec := { name := "pinMoves", fn := fun _ => fun
  | [d1, d2] => { results := [.lit (.bool true)], args := [d1, d2] }
  | _ => none }
def pinMovesRow : OpenClaim := { program := "ytkclbhmlciafiaa", sum := "567a2f971f7469df5d84c421d21864392f4e83fc3a78fb303e3d84476c24d95e", func := "appleloft/appleloftlaw.PinMoves", spec := "pinMoves", apart := false }
def PinMovesSaid : Prop := pinMovesRow.holds Try.pinned (OpenSpec.ofChange pinMovesSpec)

/-- ITS FALSE NEIGHBOUR: 'it returns false'. Refute it at one input. -/
def pinMovesWrong : ChangeSpec := { name := "pinMoves", fn := fun _ => fun
  | [d1, d2] => { results := [.lit (.bool false)], args := [d1, d2] }
  | _ => none }
def PinMovesWrongFalsely : Prop := pinMovesRow.holds Try.pinned (OpenSpec.ofChange pinMovesWrong)

/- THE SECOND FORM. 'bulk': how many values and letters a reading holds, each counted each time it is reached (what is shared counts as often as it is met; a slice's spare places count too). A statement '..UptoSaid' is the law's where the arguments, and the package variables that the reading takes, are together of bulk at most 1048576: NARROWER than '..Said'. Prove '..Said' where nothing that the law and all that it calls make is longer than what came in: it says more and counts as full. Else prove '..UptoSaid'. A law counts once. -/
mutual
def uptoBulk {H : Type} : DataW H → Nat
  | .lit (.string bytes) => bytes.length + 1
  | .lit _ => 1
  | .nil => 1
  | .ptr d => uptoBulk d + 1
  | .slice elems spare => uptoBulkAll elems + uptoBulkAll spare + 1
  | .agg parts => uptoBulkAll parts + 1
  | .iface _ d => uptoBulk d + 1
  | .map entries => uptoBulkEntries entries + 1
  | .held _ => 1
def uptoBulkAll {H : Type} : List (DataW H) → Nat
  | [] => 0
  | d :: r => uptoBulk d + uptoBulkAll r
def uptoBulkEntries {H : Type} : List (Lit × DataW H) → Nat
  | [] => 0
  | x :: r => uptoBulkEntry x + uptoBulkEntries r
def uptoBulkEntry {H : Type} : Lit × DataW H → Nat
  | (.string bytes, d) => bytes.length + uptoBulk d + 1
  | (_, d) => uptoBulk d + 1
 end
def uptoSmall : (H : Type) → List (DataW H) → Bool := fun _ ds => decide (uptoBulkAll ds ≤ 1048576)
def OpenSpec.upto (s : _root_.Go.ChangeSpec) : _root_.Go.OpenSpec := { _root_.Go.OpenSpec.ofChange s with cond := some uptoSmall }

/-- 'appleloftlaw.Names', WHERE WHAT IT READS IS OF BULK AT MOST 1048576: true; the input reads as it did. -/
def namesUptoRow : OpenClaim := { program := "ytkclbhmlciafiaa", sum := "567a2f971f7469df5d84c421d21864392f4e83fc3a78fb303e3d84476c24d95e", func := "appleloft/appleloftlaw.Names", spec := "names", apart := false, narrowed := true }
def NamesUptoSaid : Prop := namesUptoRow.holds Try.pinned (OpenSpec.upto namesSpec)

/-- 'appleloftlaw.WordBits', WHERE WHAT IT READS IS OF BULK AT MOST 1048576: true; the input reads as it did. -/
def wordBitsUptoRow : OpenClaim := { program := "ytkclbhmlciafiaa", sum := "567a2f971f7469df5d84c421d21864392f4e83fc3a78fb303e3d84476c24d95e", func := "appleloft/appleloftlaw.WordBits", spec := "wordBits", apart := false, narrowed := true }
def WordBitsUptoSaid : Prop := wordBitsUptoRow.holds Try.pinned (OpenSpec.upto wordBitsSpec)

/-- 'appleloftlaw.WireNumbers', WHERE WHAT IT READS IS OF BULK AT MOST 1048576: true; the input reads as it did. -/
def wireNumbersUptoRow : OpenClaim := { program := "ytkclbhmlciafiaa", sum := "567a2f971f7469df5d84c421d21864392f4e83fc3a78fb303e3d84476c24d95e", func := "appleloft/appleloftlaw.WireNumbers", spec := "wireNumbers", apart := false, narrowed := true }
def WireNumbersUptoSaid : Prop := wireNumbersUptoRow.holds Try.pinned (OpenSpec.upto wireNumbersSpec)

/-- 'appleloftlaw.IndexOlds', WHERE WHAT IT READS IS OF BULK AT MOST 1048576: true; the input reads as it did. -/
def indexOldsUptoRow : OpenClaim := { program := "ytkclbhmlciafiaa", sum := "567a2f971f7469df5d84c421d21864392f4e83fc3a78fb303e3d84476c24d95e", func := "appleloft/appleloftlaw.IndexOlds", spec := "indexOlds", apart := false, narrowed := true }
def IndexOldsUptoSaid : Prop := indexOldsUptoRow.holds Try.pinned (OpenSpec.upto indexOldsSpec)

/-- 'appleloftlaw.RoomTells', WHERE WHAT IT READS IS OF BULK AT MOST 1048576: true; the input reads as it did. -/
def roomTellsUptoRow : OpenClaim := { program := "ytkclbhmlciafiaa", sum := "567a2f971f7469df5d84c421d21864392f4e83fc3a78fb303e3d84476c24d95e", func := "appleloft/appleloftlaw.RoomTells", spec := "roomTells", apart := false, narrowed := true }
def RoomTellsUptoSaid : Prop := roomTellsUptoRow.holds Try.pinned (OpenSpec.upto roomTellsSpec)

/-- 'appleloftlaw.PinMoves', WHERE WHAT IT READS IS OF BULK AT MOST 1048576: true; the input reads as it did. -/
def pinMovesUptoRow : OpenClaim := { program := "ytkclbhmlciafiaa", sum := "567a2f971f7469df5d84c421d21864392f4e83fc3a78fb303e3d84476c24d95e", func := "appleloft/appleloftlaw.PinMoves", spec := "pinMoves", apart := false, narrowed := true }
def PinMovesUptoSaid : Prop := pinMovesUptoRow.holds Try.pinned (OpenSpec.upto pinMovesSpec)

end Rows
end Go.Proofs.Ytkclbhmlciafiaa
