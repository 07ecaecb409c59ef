/-
  What the bound of an '..UptoSaid' statement gives of a collector: how many digests it is to come to still.
-/
import Derived.Test.YtpcnhldlfmdlhaaGreatQxBulk
import Derived.Test.YtpcnhldlfmdlhaaGreatQxOpC
namespace Go.Proofs.YtpcnhldlfmdlhaaGreat
open Go.RowKit Go.Deep Go.ChangeShapes Go.WideShapes

theorem bulk_coll {H : Type} {enc : TypeId × Value → H} {P : Program} {w : World} {t eb : TypeId} {f0 f1 f2 : Field} {cs : Array Value} {x : Coll} {d : DataW H} {ps : List MemPlace} (ht : P.underlying t = some (.struct #[f0, f1, f2]))
    (ho : f1.offset = 1) (hs : P.cellsOf f1.type = 1) (hb : P.underlying f1.type = some (.slice eb))
    (hx : VColl w cs.toList x) (h : DataW.Trod enc P w 0 (fun _ => true) true t (.agg cs) d ps) : x.grey.length ≤ Rows.uptoBulk d := by
  obtain ⟨n, hn⟩ := h
  obtain ⟨gv, hcs, hg, -⟩ := hx
  have hcc : (Value.agg cs).cells.toList = [.int .i64 x.phase, gv, .string x.place] := by
    rw [← hcs]
    rfl
  rw [hcc] at hn
  obtain ⟨xs, n2, _, hD, hl2, hlen2, hf⟩ := DataW.trod_struct ht hn
  match xs, hlen2 with
  | [y0, y1, y2], _ =>
    have q1 := hf 1 f1 rfl
    rw [ho, hs] at q1
    obtain ⟨ga, gc, rfl, -⟩ := hg
    have h0 := bulk_slice (d := y1.1) (ps := y1.2) hb ⟨n2, q1⟩
    simp only [Prod.mk.injEq] at hD
    rw [hD.1]
    simp only [List.map_cons, List.map_nil, Rows.uptoBulk, Rows.uptoBulkAll]
    omega
end Go.Proofs.YtpcnhldlfmdlhaaGreat
