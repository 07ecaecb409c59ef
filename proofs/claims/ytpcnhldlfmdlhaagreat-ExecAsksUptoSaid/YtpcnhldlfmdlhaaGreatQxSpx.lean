/-
  slices.BinarySearchFunc on records (Entry) whose keys rise. slices.Insert and slices.Clone on rows of records (Entry) that the call owns. Putting an entry into a list whose keys rise: what is left; one element of an owned row of entries written whole. No function of the program is named here. index.Put: what it answers. Printed by gen_puti.py. The reference's EntriesPut: what it answers. Printed by gen_putr.py. index.Put and the reference's EntriesPut over all arguments. What putting an entry into a store answers; the tick of its clock. Printed by gen_sp.py. store.Put: what it answers. Printed by gen_sp.py. The reference's StorePut: what it answers. Printed by gen_sp.py. store.Put and the reference's StorePut over all arguments. Printed by gen_spw.py.
-/
import Derived.Test.YtpcnhldlfmdlhaaGreatQxKE
import Derived.Test.YtpcnhldlfmdlhaaGreatQxSrt
import Derived.Test.YtpcnhldlfmdlhaaGreatQxShelf
import Derived.Test.YtpcnhldlfmdlhaaGreatQxPbx
import Derived.Test.YtpcnhldlfmdlhaaGreatQxOwE
import Derived.Test.YtpcnhldlfmdlhaaGreatQxIdx
import Derived.Test.YtpcnhldlfmdlhaaGreatQxSt
import Derived.Test.YtpcnhldlfmdlhaaGreatQxWrt
import Derived.Deep.LoopGhost
import Derived.IntWalk
import Derived.StillTailTactics
namespace Go.Proofs.YtpcnhldlfmdlhaaGreat
open Go.RowKit

end Go.Proofs.YtpcnhldlfmdlhaaGreat

namespace Go.Proofs.YtpcnhldlfmdlhaaGreat
open Go.RowKit

end Go.Proofs.YtpcnhldlfmdlhaaGreat

namespace Go.Proofs.YtpcnhldlfmdlhaaGreat
open Go.RowKit

/-- One entry of an owned row written whole. -/
theorem OEntry.put {w : World} {B g n cap i : Nat} {l : List Entry} {x y : Entry} {ca : Option Addr} {cc : Nat} (h : OEntry w B (.slice (some ⟨g, 0, none⟩) n cap) l) (hy : l[i]? = some y)
    (hcr : CO 75 3 cPart B w (.slice ca x.parts.length cc) x.parts) :
    OEntry ((((w.setCell ⟨g, i * 4, none⟩ (.string x.key)).setCell ⟨g, i * 4 + 1, none⟩ (.slice ca x.parts.length cc)).setCell ⟨g, i * 4 + 2, none⟩ (.int .i64 x.pins)).setCell ⟨g, i * 4 + 3, none⟩ (.int .i64 x.stamp)) B
      (.slice (some ⟨g, 0, none⟩) n cap) (l.set i x) := by
  obtain ⟨rs, rfl, h2, h3⟩ := h
  rw [List.getElem?_map] at hy
  obtain ⟨r, hr, rfl⟩ := Option.map_eq_some_iff.1 hy
  obtain ⟨cur, hcur⟩ := OS.owns h2
  have hil := (List.getElem?_eq_some_iff.1 hr).1
  have p1 := OS.put (o := 0) (x' := ⟨{ r.x with key := x.key }, r.a, r.c⟩) (u := .string x.key) h2 xcEntry_len hr (by decide) rfl
  have p2 := OS.put (o := 1) (x' := ⟨{ r.x with key := x.key, parts := x.parts }, ca, cc⟩) (u := .slice ca x.parts.length cc) p1 xcEntry_len (List.getElem?_set_self hil) (by decide) rfl
  have p3 := OS.put (o := 2) (x' := ⟨{ r.x with key := x.key, parts := x.parts, pins := x.pins }, ca, cc⟩) (u := .int .i64 x.pins) p2 xcEntry_len (List.getElem?_set_self (by rw [List.length_set]; exact hil)) (by decide) rfl
  have p4 := OS.put (o := 3) (x' := ⟨x, ca, cc⟩) (u := .int .i64 x.stamp) p3 xcEntry_len (List.getElem?_set_self (by rw [List.length_set, List.length_set]; exact hil)) (by decide) rfl
  rw [List.set_set, List.set_set, List.set_set] at p4
  rw [Nat.add_zero] at p4
  have kept : ∀ (W : World) (cs : Array Value) o u v l, W.heap[g]? = some (.cells cs 71 (0, 0)) → CO 75 3 cPart B W v l → CO 75 3 cPart B (W.setCell ⟨g, o, none⟩ u) v l :=
    fun W cs o u v l hc hC => World.ownsRow.kept (row := some g) hC ⟨rfl, rfl, rfl, by simp [World.setCell], fun k _ hk => Below.heap_setCell _ _ _ _ (fun e => hk (by simp [e]))⟩ (Or.inr (OS.block_ne hC hc (by decide)))
  obtain ⟨c1, hc1⟩ := OS.owns p1
  obtain ⟨c2, hc2⟩ := OS.owns p2
  obtain ⟨c3, hc3⟩ := OS.owns p3
  have all : ∀ v l, CO 75 3 cPart B w v l → CO 75 3 cPart B ((((w.setCell ⟨g, i * 4 + 0, none⟩ (.string x.key)).setCell ⟨g, i * 4 + 1, none⟩ (.slice ca x.parts.length cc)).setCell ⟨g, i * 4 + 2, none⟩ (.int .i64 x.pins)).setCell ⟨g, i * 4 + 3, none⟩ (.int .i64 x.stamp)) v l :=
    fun v l hC => kept _ _ _ _ _ _ hc3 (kept _ _ _ _ _ _ hc2 (kept _ _ _ _ _ _ hc1 (kept _ _ _ _ _ _ hcur hC)))
  refine ⟨rs.set i ⟨x, ca, cc⟩, by rw [List.map_set], p4, fun q hq => ?_⟩
  rcases List.mem_or_eq_of_mem_set hq with hq | rfl
  · exact all _ _ (h3 q hq)
  · exact all _ _ hcr
end Go.Proofs.YtpcnhldlfmdlhaaGreat

namespace Go.Proofs.YtpcnhldlfmdlhaaGreat
open Go.RowKit

end Go.Proofs.YtpcnhldlfmdlhaaGreat

namespace Go.Proofs.YtpcnhldlfmdlhaaGreat
open Go.RowKit

end Go.Proofs.YtpcnhldlfmdlhaaGreat

namespace Go.Proofs.YtpcnhldlfmdlhaaGreat
open Go.RowKit

end Go.Proofs.YtpcnhldlfmdlhaaGreat

namespace Go.Proofs.YtpcnhldlfmdlhaaGreat
open Go.RowKit

section
variable {z1 z2 z3 z4 t e : Int}
end
theorem wf_small {n : Int} (h0 : 0 ≤ n) (h1 : n ≤ 2199023255552) : (Lit.int .i64 n).wf = true := by
  unfold Lit.wf
  simp only [Bool.and_eq_true, decide_eq_true_eq]
  exact ⟨Int.le_trans (by decide) h0, Int.le_trans h1 (by decide)⟩
theorem clock_of {bs : List Blob} {es : List Entry} {r t : Int} (h : storeFault bs es r t = 0) : 0 ≤ t ∧ t ≤ 1099511627776 := by
  by_cases h1 : blobsFault bs = 0
  · by_cases h2 : entriesFault es = 0
    · by_cases h3 : roomFault bs r = 0
      · by_cases h4 : badClock t
        · rw [st4 h1 h2 h3 h4] at h; cases h
        · unfold badClock at h4; omega
      · rw [st3 h1 h2 h3] at h; exact absurd h h3
    · rw [st2 h1 h2] at h; exact absurd h h2
  · rw [st1 h1] at h; exact absurd h h1

set_option maxRecDepth 100000 in
theorem store_tick_full (w : World) (p : Nat) (a b : Value) (r t : Int) (h2 : (t == 1099511627776) = true) (h : w.heap[p]? = some (.cells #[a, b, .int .i64 r, .int .i64 t] 29 (0, 0))) :
    Calls Tryz.prog 76 #[.pointer (some ⟨p, 0, none⟩)] w fun e w' => e = .returned (.int .i64 4) ∧ w' = w := by
  obtain ⟨x0, x1, x2, x3⟩ := box4f h
  go_enter Tryz.func76, Tryz.ntmps76
  go_wp2
  go_ret
  exact ⟨rfl, rfl⟩
set_option maxRecDepth 100000 in
theorem store_tick_ok (w : World) (a b : Value) (r t : Int) (h0 : 0 ≤ t) (h1 : t ≤ 1099511627776) (h2 : (t == 1099511627776) = false) :
    Calls Tryz.prog 76 #[.pointer (some ⟨w.heap.size, 0, none⟩)] (w.alloc (Obj.cells #[a, b, .int .i64 r, .int .i64 t] 29)) fun e w' => e = .returned (.int .i64 0) ∧ w' = w.alloc (Obj.cells #[a, b, .int .i64 r, .int .i64 (t + 1)] 29) := by
  have g5 : IntKind.i64.wrap (t + 1) = t + 1 := IntWalk.i64_in _ (by omega)
  go_enter Tryz.func76, Tryz.ntmps76
  go_wp2
  go_ret
  exact ⟨rfl, rfl⟩
end Go.Proofs.YtpcnhldlfmdlhaaGreat

namespace Go.Proofs.YtpcnhldlfmdlhaaGreat
open Go.RowKit

end Go.Proofs.YtpcnhldlfmdlhaaGreat

namespace Go.Proofs.YtpcnhldlfmdlhaaGreat
open Go.RowKit

end Go.Proofs.YtpcnhldlfmdlhaaGreat

namespace Go.Proofs.YtpcnhldlfmdlhaaGreat
open Go.RowKit

end Go.Proofs.YtpcnhldlfmdlhaaGreat
