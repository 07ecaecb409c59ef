import Derived.Test.YtpkpgehiplhkpaaGreatTzKB
import Derived.Test.YtpkpgehiplhkpaaGreatTzKF
namespace Go.Proofs.YtpkpgehiplhkpaaGreat
open Go.RowKit
theorem OBlob.set {w : World} {B q o : Nat} {v u : Value} {l : List Blob} (h : OBlob w B v l) (hq : q < B) : OBlob (w.setCell ⟨q, o, none⟩ u) B v l := by
 obtain ⟨rs, h1, h2, h3⟩ := h
 exact ⟨rs, h1, h2.setOld hq, fun r hr => OS.setOld (h3 r hr) hq⟩
theorem OEntry.set {w : World} {B q o : Nat} {v u : Value} {l : List Entry} (h : OEntry w B v l) (hq : q < B) : OEntry (w.setCell ⟨q, o, none⟩ u) B v l := by
 obtain ⟨rs, h1, h2, h3⟩ := h
 exact ⟨rs, h1, h2.setOld hq, fun r hr => OS.setOld (h3 r hr) hq⟩
theorem OBlob.after {w w' : World} {B : Nat} {v : Value} {l : List Blob} (h : OBlob w B v l) (hb : Below w.heap.size w w') : OBlob w' B v l := OX.below (CO.below hb) h hb
theorem box_other {w : World} {q p o : Nat} {u : Value} {x : Obj} (h : w.heap[p]? = some x) (hn : p ≠ q) : (w.setCell ⟨q, o, none⟩ u).heap[p]? = some x := by
 rw [Below.heap_setCell _ _ _ _ hn, h]
theorem OBlob.low {w : World} {B B' : Nat} {v : Value} {l : List Blob} (h : OBlob w B v l) (hB : B' ≤ B) : OBlob w B' v l := OX.mono (OX.to (fun _ _ h => OS.mono h hB) h) hB
theorem OEntry.low {w : World} {B B' : Nat} {v : Value} {l : List Entry} (h : OEntry w B v l) (hB : B' ≤ B) : OEntry w B' v l := OX.mono (OX.to (fun _ _ h => OS.mono h hB) h) hB
theorem OBlob.pins {w : World} {B g n cap i : Nat} {bs : List Blob} {x : Blob} (m : Int) (h : OBlob w B (.slice (some ⟨g, 0, none⟩) n cap) bs) (hx : bs[i]? = some x) :
 OBlob (w.setCell ⟨g, i * 4 + 2, none⟩ (.int .i64 m)) B (.slice (some ⟨g, 0, none⟩) n cap) (bs.set i { x with pins := m }) :=
 OX.put h (by decide) xcBlob_len hx (by decide) rfl (fun _ => rfl)
theorem OEntry.pins {w : World} {B g n cap i : Nat} {es : List Entry} {x : Entry} (m : Int) (h : OEntry w B (.slice (some ⟨g, 0, none⟩) n cap) es) (hx : es[i]? = some x) :
 OEntry (w.setCell ⟨g, i * 4 + 2, none⟩ (.int .i64 m)) B (.slice (some ⟨g, 0, none⟩) n cap) (es.set i { x with pins := m }) :=
 OX.put h (by decide) xcEntry_len hx (by decide) rfl (fun _ => rfl)
theorem OEntry.stamp {w : World} {B g n cap i : Nat} {es : List Entry} {x : Entry} (m : Int) (h : OEntry w B (.slice (some ⟨g, 0, none⟩) n cap) es) (hx : es[i]? = some x) :
 OEntry (w.setCell ⟨g, i * 4 + 3, none⟩ (.int .i64 m)) B (.slice (some ⟨g, 0, none⟩) n cap) (es.set i { x with stamp := m }) :=
 OX.put h (by decide) xcEntry_len hx (by decide) rfl (fun _ => rfl)
theorem OS.other {α : Type} {e T : TypeId} {s B q o : Nat} {cells : α → List Value} {w : World} {v u : Value} {l : List α} {cs : Array Value} {fr : Nat × Nat} (h : OS e s cells w B v l) (hq : w.heap[q]? = some (.cells cs T fr)) (hT : T ≠ e) :
 OS e s cells (w.setCell ⟨q, o, none⟩ u) B v l :=
 World.ownsRow.kept (row := some q) h ⟨rfl, rfl, rfl, by simp [World.setCell], fun k _ hk => Below.heap_setCell _ _ _ _ (fun e => hk (by simp [e]))⟩ (Or.inr (OS.block_ne h hq hT))
theorem OBlob.other {w : World} {B q o : Nat} {v u : Value} {bs : List Blob} {cs : Array Value} {T : TypeId} {fr : Nat × Nat} (h : OBlob w B v bs) (hq : w.heap[q]? = some (.cells cs T fr)) (hT : T ≠ 50) (hT2 : T ≠ 5) :
 OBlob (w.setCell ⟨q, o, none⟩ u) B v bs := by
 obtain ⟨rs, h1, h2, h3⟩ := h
 exact ⟨rs, h1, OS.other h2 hq hT, fun r hr => OS.other (h3 r hr) hq hT2⟩
theorem OEntry.other {w : World} {B q o : Nat} {v u : Value} {es : List Entry} {cs : Array Value} {T : TypeId} {fr : Nat × Nat} (h : OEntry w B v es) (hq : w.heap[q]? = some (.cells cs T fr)) (hT : T ≠ 62) (hT2 : T ≠ 67) :
 OEntry (w.setCell ⟨q, o, none⟩ u) B v es := by
 obtain ⟨rs, h1, h2, h3⟩ := h
 exact ⟨rs, h1, OS.other h2 hq hT, fun r hr => OS.other (h3 r hr) hq hT2⟩
theorem stays {w w1 : World} {k : Nat} {x : Obj} (b : Below w.heap.size w w1) (h : w.heap[k]? = some x) : w1.heap[k]? = some x := (b.block k (Array.getElem?_eq_some_iff.1 h).1).trans h
theorem heap_lt {w : World} {k : Nat} {x : Obj} (h : w.heap[k]? = some x) : k < w.heap.size := (Array.getElem?_eq_some_iff.1 h).1
theorem OX.spot {α β : Type} {e : TypeId} {s B : Nat} {cells : α → Value → List Value} {comp : α → List β} {C : World → Value → List β → Prop} {w : World} {v : Value} {l : List α} (h : OX e s cells comp C w B v l)
 {i o : Nat} (hi : i < l.length) (ho : o < s) :
 ∃ g cap, v = .slice (some ⟨g, 0, none⟩) l.length cap ∧ B ≤ g ∧ g < w.heap.size ∧ (∃ u, w.cell? ⟨g, i * s + o, none⟩ = some u) ∧ w.frozen? ⟨g, i * s + o, none⟩ = false := by
 obtain ⟨rs, rfl, hO, -⟩ := h
 rw [List.length_map] at hi ⊢
 have hh := hO
 obtain ⟨h1, h2⟩ := hO
 rcases h2 with ⟨rfl, hn⟩ | ⟨g, cap, cur, rfl, hg, hgg, hr⟩
 · omega
 have hlt : i * s + o < rs.length * s := by
  have : i * s + s ≤ rs.length * s := by rw [← Nat.succ_mul]; exact Nat.mul_le_mul_right _ hi
  omega
 have hcell := World.ownsRow.cellAt hh (i * s + o) (by omega)
 refine ⟨g, cap, rfl, hg, (Array.getElem?_eq_some_iff.1 hgg).1, ?_, World.ownsRow.frozenAt hh _⟩
 rw [List.getElem?_eq_getElem (by rw [h1]; exact hlt)] at hcell
 exact ⟨_, hcell⟩
theorem OX.lenOf {α β : Type} {e : TypeId} {s B : Nat} {cells : α → Value → List Value} {comp : α → List β} {C : World → Value → List β → Prop} {w : World} {v : Value} {l : List α} (h : OX e s cells comp C w B v l) : ∃ a c, v = .slice a l.length c := by
 obtain ⟨rs, rfl, h2, -⟩ := h
 obtain ⟨a, c, rfl, -⟩ := OS.len_le h2
 exact ⟨a, c, by rw [List.length_map]⟩
theorem OBlob.alloc {w : World} {B : Nat} {v : Value} {bs : List Blob} (h : OBlob w B v bs) (o : Obj) : OBlob (w.alloc o) B v bs := h.after (b_alloc (Below.refl _ _) o)
theorem OEntry.after {w w' : World} {B : Nat} {v : Value} {l : List Entry} (h : OEntry w B v l) (hb : Below w.heap.size w w') : OEntry w' B v l := OX.below (CO.below hb) h hb
theorem OEntry.alloc {w : World} {B : Nat} {v : Value} {es : List Entry} (h : OEntry w B v es) (o : Obj) : OEntry (w.alloc o) B v es := h.after (b_alloc (Below.refl _ _) o)
theorem OBlob.beside {w : World} {B g n cap o : Nat} {v u : Value} {bs : List Blob} {es : List Entry} {B' : Nat} (h : OBlob w B v bs) (he : OEntry w B' (.slice (some ⟨g, 0, none⟩) n cap) es) : OBlob (w.setCell ⟨g, o, none⟩ u) B v bs := by
 obtain ⟨rs, -, h2, -⟩ := he
 obtain ⟨cur, hc⟩ := OS.owns h2
 exact h.other hc (by decide) (by decide)
theorem OEntry.beside {w : World} {B g n cap o : Nat} {v u : Value} {bs : List Blob} {es : List Entry} {B' : Nat} (h : OEntry w B v es) (he : OBlob w B' (.slice (some ⟨g, 0, none⟩) n cap) bs) : OEntry (w.setCell ⟨g, o, none⟩ u) B v es := by
 obtain ⟨rs, -, h2, -⟩ := he
 obtain ⟨cur, hc⟩ := OS.owns h2
 exact h.other hc (by decide) (by decide)
theorem FitBlob.pins {x : Blob} {m : Int} (h : FitBlob x) (hm : (Lit.int .i64 m).wf = true) : FitBlob { x with pins := m } := ⟨⟨h.1.1, hm⟩, h.2⟩
theorem FitEntry.pins {x : Entry} {m : Int} (h : FitEntry x) (hm : (Lit.int .i64 m).wf = true) : FitEntry { x with pins := m } := ⟨⟨h.1.1, hm, h.1.2.2⟩, h.2⟩
theorem FitEntry.stamp {x : Entry} {m : Int} (h : FitEntry x) (hm : (Lit.int .i64 m).wf = true) : FitEntry { x with stamp := m } := ⟨⟨h.1.1, h.1.2.1, hm⟩, h.2⟩
theorem set_all {α : Type} {Q : α → Prop} {l : List α} {i : Nat} {y : α} (h : ∀ x ∈ l, Q x) (hy : Q y) : ∀ x ∈ l.set i y, Q x := by
 intro x hx
 rcases List.mem_or_eq_of_mem_set hx with hx | rfl
 · exact h x hx
 exact hy
end Go.Proofs.YtpkpgehiplhkpaaGreat
