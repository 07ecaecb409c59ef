import Derived.Test.YtkbijjglodnfbaaGreatQcKB
import Derived.Test.YtkbijjglodnfbaaGreatQcSrt
import Derived.Test.YtkbijjglodnfbaaGreatQcShelf
import Derived.Test.YtkbijjglodnfbaaGreatQcBas
import Derived.Test.YtkbijjglodnfbaaGreatQcOwE
import Derived.Test.YtkbijjglodnfbaaGreatQcShb
import Derived.Test.YtkbijjglodnfbaaGreatQcWrt
import Derived.Deep.LoopGhost
import Derived.IntWalk
import Derived.Laws.CopyOwn
import Derived.Lib.AppendZerosOnto
import Derived.Lib.AppendZeros
import Derived.StillTailTactics
import Derived.OwnWalk
import Derived.Handy
namespace Go.Proofs.YtkbijjglodnfbaaGreat
open Go.RowKit
theorem run_copy_row_s {P : Program} (w : World) (dT sT ty elem : TypeId) (s g o dLen dCap : Nat) (a : Addr) (sLen sCap : Nat) (cur : Array Value) (t : TypeId) (cs : List Value)
 (hu : P.underlying dT = some (.slice elem)) (hs : (P.info? elem).map (·.size) = some s)
 (hg : w.heap[g]? = some (.cells cur t (0, 0))) (hn : cs.length = Nat.min sLen dLen * s)
 (hsrc : ∀ j v, cs[j]? = some v → w.cell? (a.add j) = some v) (hfit : o + cs.length ≤ cur.size) (h1 : ∀ v ∈ cs, v.oneCell' = true) :
 (Builtin.copy_ #[dT, sT] ty #[.slice (some ⟨g, o, none⟩) dLen dCap, .slice (some a) sLen sCap]).run P w =
   .ok (goInt (Nat.min sLen dLen)) (w.setRow g (splice cur.toList o cs).toArray) := by
 have hl := run_loadCells_list (P := P) w a cs hsrc
 have hst := run_storeCells_at P g o t cs 0 cur w hg (by simpa using hfit) h1
 cases hq : P.info? elem with
 | none => simp [hq] at hs
 | some i =>
   have hi : i.size = s := by simpa [hq] using hs
   simp [Builtin.copy_, run_underlying hu, Builtin.lenOf, Builtin.firstCells, sizeOf, typeInfo, hq, hi, ← hn, hl, hst, splice]
theorem wpList_copy_s {P : Program} {w : World} {ops : Array Oper} {rest : List Oper} {o : Oper} {a : Act} {Q : Exit → Act → World → Prop} (hgd : o.guard = none) (d x : Operand) (dT sT : TypeId)
 (ho : o.op = .call { callee := .builtin .copy, args := #[d, x], argTypes := #[dT, sT] }) (elem : TypeId) (s : Nat) (hu : P.underlying dT = some (.slice elem)) (hsz : (P.info? elem).map (·.size) = some s)
 (g off dLen dCap : Nat) (ad : Addr) (sLen sCap : Nat) (hd : a.eval d = .slice (some ⟨g, off, none⟩) dLen dCap) (hs : a.eval x = .slice (some ad) sLen sCap)
 (cur : List Value) (t : TypeId) (hg : w.heap[g]? = some (.cells cur.toArray t (0, 0))) (cs : List Value) (hn : cs.length = Nat.min sLen dLen * s)
 (hsrc : ∀ j v, cs[j]? = some v → w.cell? (ad.add j) = some v) (hfit : off + cs.length ≤ cur.length) (h1 : ∀ v ∈ cs, v.oneCell' = true)
 (h : ∀ w', Hid (w'.heap[g]? = some (.cells (splice cur off cs).toArray t (0, 0))) → w.grownBy w' (some g) → wpList P ops Q rest (a.put o.dst (goInt (Nat.min sLen dLen))) w') : wpList P ops Q (o :: rest) a w := by
 refine wpList_plain hgd fun K hK => ?_
 have hrun := run_copy_row_s (P := P) w dT sT o.type elem s g off dLen dCap ad sLen sCap cur.toArray t cs hu hsz hg hn hsrc (by simpa using hfit) h1
 unfold Oper.wp
 simp [execOp, ho, resolve, invoke, builtin, hd, hs, hrun, Result.andThen]
 exact hK _ _ (h _ (show _ = _ by simpa using setRow_heap w g _ _ t _ hg) ⟨rfl, rfl, rfl, by simp [World.setRow], fun k _ hk => setRow_other w g k _ (fun e => hk (by simp [e]))⟩)
theorem OS.cellsAt {α : Type} {e : TypeId} {s B g n cap : Nat} {cells : α → List Value} {w : World} {l : List α} (h : OS e s cells w B (.slice (some ⟨g, 0, none⟩) n cap) l) : ∀ j u, (l.flatMap cells)[j]? = some u → w.cell? ⟨g, j, none⟩ = some u := by
 intro j u hj
 have hlt := (List.getElem?_eq_some_iff.1 hj).1
 obtain ⟨_, _, hv, -⟩ := OS.len_le h
 simp only [Value.slice.injEq] at hv
 obtain ⟨-, rfl, -⟩ := hv
 have := World.ownsRow.cellAt h j (by have := h.1; omega)
 rw [this, hj]
theorem splice2 (A R T Z : List Value) (Z1 : List Value) :
 (splice (splice (A ++ Z1 ++ Z) A.length R) (A.length + R.length) T).take (A.length + R.length + T.length) = A ++ R ++ T := by
 have e1 : splice (A ++ Z1 ++ Z) A.length R = A ++ R ++ (Z1 ++ Z).drop R.length := by
  unfold splice
  rw [List.append_assoc A Z1 Z, List.take_left, List.drop_append, List.drop_eq_nil_of_le (by omega : A.length ≤ A.length + R.length), Nat.add_sub_cancel_left]
  simp
 rw [e1]
 unfold splice
 rw [show A.length + R.length = (A ++ R).length by simp, List.take_left, show (A ++ R).length + T.length = ((A ++ R) ++ T).length by simp [Nat.add_assoc], ← List.append_assoc, List.take_left]
theorem splice2_len (A R T Z : List Value) (Z1 : List Value) (hZ : Z1.length = R.length + T.length) : (splice (splice (A ++ Z1 ++ Z) A.length R) (A.length + R.length) T).length = A.length + Z1.length + Z.length := by
 rw [length_splice, length_splice]
 · simp [Nat.add_assoc]
 · simp; omega
 · rw [length_splice] <;> simp <;> omega
section
variable {z : Int} {d : ByteArray} {data : List UInt8} {l : List Blob}
end
section
variable {z e r : Int} {L : List Blob}
end
end Go.Proofs.YtkbijjglodnfbaaGreat
