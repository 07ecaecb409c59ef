import Derived.Test.YtpkpgehiplhkpaaGreatTxCnx
import Derived.Test.YtpkpgehiplhkpaaGreatTxRtx
import Derived.Test.YtpkpgehiplhkpaaGreatTxMkx
import Derived.OwnWalk
import Derived.Handy
import Derived.IntWalk
import Derived.Deep.RegionHeld3
import Derived.StillTactics
import Derived.Test.YtpkpgehiplhkpaaGreatTxSwb
namespace Go.Proofs.YtpkpgehiplhkpaaGreat
open Go.RowKit
def digsOf (x : Blob) : List ByteArray := (decParts x.data).1.map (·.digest)
theorem digs_small (x : Blob) : (digsOf x).length ≤ 8 ∧ ∀ y ∈ digsOf x, y.size ≤ 140737488351232 := by
 obtain ⟨h1, h2⟩ := decParts_len x.data
 unfold digsOf
 refine ⟨by rw [List.length_map]; exact h1, fun y hy => ?_⟩
 obtain ⟨p, hp, rfl⟩ := List.mem_map.1 hy
 exact h2 p hp
def KT (w w' : World) : Prop := ∀ (p : Nat) (cs : Array Value) (T : TypeId) (fr : Nat × Nat), w.heap[p]? = some (.cells cs T fr) → T ≠ 50 → w'.heap[p]? = some (.cells cs T fr)
theorem KT.of {w w' : World} (h : Below w.heap.size w w') : KT w w' := fun _ _ _ _ hp _ => (h.block _ (heap_lt hp)).trans hp
theorem KT.call {w w1 w' : World} (h : KT w w1) (hb : Below w1.heap.size w1 w') : KT w w' := fun p cs T fr hp hT => KT.of hb p cs T fr (h p cs T fr hp hT) hT
theorem KT.set {w w1 : World} {g o : Nat} {cs : Array Value} {fr : Nat × Nat} {u : Value} (h : KT w w1) (hg : w1.heap[g]? = some (.cells cs 50 fr)) : KT w (w1.setCell ⟨g, o, none⟩ u) := fun _ _ _ _ hp hT =>
 box_other (h _ _ _ _ hp hT) (ne_type hg (h _ _ _ _ hp hT) (fun e => hT e.symm))
theorem KT.new {w w1 : World} {q o : Nat} {u : Value} (h : KT w w1) (hq : w.heap.size ≤ q) : KT w (w1.setCell ⟨q, o, none⟩ u) := fun _ _ _ _ hp hT =>
 box_other (h _ _ _ _ hp hT) (by have := heap_lt hp; omega)
theorem KT.box4 {w w1 : World} {q : Nat} (h : KT w w1) (hq : w.heap.size ≤ q) (u0 u1 u2 u3 : Value) : KT w (World.box4 w1 q u0 u1 u2 u3) := (((h.new hq).new hq).new hq).new hq
theorem KT.box3 {w w1 : World} {q : Nat} (h : KT w w1) (hq : w.heap.size ≤ q) (u0 u1 u2 : Value) : KT w (World.box3 w1 q u0 u1 u2) := ((h.new hq).new hq).new hq
theorem bB_box4 {B : Nat} {w W : World} (h : Below B w W) {q : Nat} (hq : B ≤ q) (u0 u1 u2 u3 : Value) : Below B w (World.box4 W q u0 u1 u2 u3) :=
 (((h.setCell (p := ⟨q, 0, none⟩) hq u0).setCell (p := ⟨q, 1, none⟩) hq u1).setCell (p := ⟨q, 2, none⟩) hq u2).setCell (p := ⟨q, 3, none⟩) hq u3
theorem bB_box3 {B : Nat} {w W : World} (h : Below B w W) {q : Nat} (hq : B ≤ q) (u0 u1 u2 : Value) : Below B w (World.box3 W q u0 u1 u2) :=
 ((h.setCell (p := ⟨q, 0, none⟩) hq u0).setCell (p := ⟨q, 1, none⟩) hq u1).setCell (p := ⟨q, 2, none⟩) hq u2
theorem reach_PartsD (x : Blob) (dv : Value) (w : World) (h : RB w dv x.data) :
 Calls Tryz.prog 126 #[.agg #[.string x.digest, dv, .int .i64 x.pins, .bool x.mark]] w fun e w' => ∃ v', e = .returned v' ∧ OS 9 1 cStr w' w.heap.size v' (digsOf x) ∧ Below w.heap.size w w' :=
 reach_Parts' x dv w h (decParts x.data).1 (decParts x.data).2 (fun w g => manifest_Decode dv x.data w g)
end Go.Proofs.YtpkpgehiplhkpaaGreat

namespace Go.Proofs.YtpkpgehiplhkpaaGreat
open Go.RowKit
theorem by_fact {P Q : Prop} (h : P) (k : P → Q) : Q := k h
theorem alloc_keep {w : World} {k : Nat} {x o : Obj} (h : w.heap[k]? = some x) : (w.alloc o).heap[k]? = some x := (heap_alloc_old w o (heap_lt h)).trans h
theorem SBox.of {w : World} {p : Nat} {a : Option Addr} {n c : Nat} {a' : Option Addr} {n' c' : Nat} {r t : Int} {T : TypeId} (h : w.heap[p]? = some (.cells #[.slice a n c, .slice a' n' c', .int .i64 r, .int .i64 t] T (0, 0))) : SBox w p := ⟨_, _, _, _, _, _, _, _, _, h⟩
theorem CBox.of {w : World} {p : Nat} {k : Int} {a : Option Addr} {n c : Nat} {s : ByteArray} {T : TypeId} (h : w.heap[p]? = some (.cells #[.int .i64 k, .slice a n c, .string s] T (0, 0))) : CBox w p := ⟨_, _, _, _, _, _, h⟩
theorem SBox.wr0 {w : World} {p : Nat} {a : Option Addr} {n c : Nat} (h : SBox w p) : SBox (w.setCell ⟨p, 0, none⟩ (.slice a n c)) p := by
 obtain ⟨_, _, _, _, _, _, _, _, _, h⟩ := h
 exact .of (box4_0 h)
theorem SBox.wr1 {w : World} {p : Nat} {a : Option Addr} {n c : Nat} (h : SBox w p) : SBox (w.setCell ⟨p, 1, none⟩ (.slice a n c)) p := by
 obtain ⟨_, _, _, _, _, _, _, _, _, h⟩ := h
 exact .of (box4_1 h)
theorem SBox.wr2 {w : World} {p : Nat} {k : Int} (h : SBox w p) : SBox (w.setCell ⟨p, 2, none⟩ (.int .i64 k)) p := by
 obtain ⟨_, _, _, _, _, _, _, _, _, h⟩ := h
 exact .of (box4_2 h)
theorem CBox.wr0 {w : World} {p : Nat} {k : Int} (h : CBox w p) : CBox (w.setCell ⟨p, 0, none⟩ (.int .i64 k)) p := by
 obtain ⟨_, _, _, _, _, _, h⟩ := h
 exact .of (box3_0 h)
theorem CBox.wr1 {w : World} {p : Nat} {a : Option Addr} {n c : Nat} (h : CBox w p) : CBox (w.setCell ⟨p, 1, none⟩ (.slice a n c)) p := by
 obtain ⟨_, _, _, _, _, _, h⟩ := h
 exact .of (box3_1 h)
theorem CBox.wr2 {w : World} {p : Nat} {s : ByteArray} (h : CBox w p) : CBox (w.setCell ⟨p, 2, none⟩ (.string s)) p := by
 obtain ⟨_, _, _, _, _, _, h⟩ := h
 exact .of (box3_2 h)
theorem SBox.far {w : World} {p q o : Nat} {u : Value} (h : SBox w p) (hn : p ≠ q) : SBox (w.setCell ⟨q, o, none⟩ u) p := by
 obtain ⟨_, _, _, _, _, _, _, _, _, h⟩ := h
 exact .of (box_other h hn)
theorem CBox.far {w : World} {p q o : Nat} {u : Value} (h : CBox w p) (hn : p ≠ q) : CBox (w.setCell ⟨q, o, none⟩ u) p := by
 obtain ⟨_, _, _, _, _, _, h⟩ := h
 exact .of (box_other h hn)
theorem RS.al {α : Type} {s bs : Nat} {E : World → Nat → Nat → α → Prop} {w : World} {v : Value} {l : List α} (hE : Stable E) (h : RS s bs E w v l) (o : Obj) : RS s bs E (w.alloc o) v l := h.mono hE (b_alloc (Below.refl _ _) o)
theorem OS.atS {w : World} {B q o : Nat} {v u a b c d : Value} {l : List ByteArray} (h : OS 9 1 cStr w B v l) (hq : w.heap[q]? = some (.cells #[a, b, c, d] 29 (0, 0))) : OS 9 1 cStr (w.setCell ⟨q, o, none⟩ u) B v l := OS.other h hq (by decide)
theorem OS.atC {w : World} {B q o : Nat} {v u a b c : Value} {l : List ByteArray} (h : OS 9 1 cStr w B v l) (hq : w.heap[q]? = some (.cells #[a, b, c] 32 (0, 0))) : OS 9 1 cStr (w.setCell ⟨q, o, none⟩ u) B v l := OS.other h hq (by decide)
theorem KT.at {w w' : World} (h : KT w w') {p : Nat} {cs : Array Value} {T : TypeId} {fr : Nat × Nat} (hT : T ≠ 50) (hp : w.heap[p]? = some (.cells cs T fr)) : w'.heap[p]? = some (.cells cs T fr) := h p cs T fr hp hT
theorem w4_same {w : World} {q : Nat} {a b c d u0 u1 u2 u3 : Value} {T : TypeId} (h : w.heap[q]? = some (.cells #[a, b, c, d] T (0, 0))) : ((((w.setCell ⟨q, 0, none⟩ u0).setCell ⟨q, 1, none⟩ u1).setCell ⟨q, 2, none⟩ u2).setCell ⟨q, 3, none⟩ u3).heap[q]? = some (.cells #[u0, u1, u2, u3] T (0, 0)) := box4_set h
theorem w4_far {w : World} {q p : Nat} {u0 u1 u2 u3 : Value} {x : Obj} (h : w.heap[p]? = some x) (hn : p ≠ q) : ((((w.setCell ⟨q, 0, none⟩ u0).setCell ⟨q, 1, none⟩ u1).setCell ⟨q, 2, none⟩ u2).setCell ⟨q, 3, none⟩ u3).heap[p]? = some x := box4_other h hn
theorem w3_same {w : World} {q : Nat} {a b c u0 u1 u2 : Value} {T : TypeId} (h : w.heap[q]? = some (.cells #[a, b, c] T (0, 0))) : (((w.setCell ⟨q, 0, none⟩ u0).setCell ⟨q, 1, none⟩ u1).setCell ⟨q, 2, none⟩ u2).heap[q]? = some (.cells #[u0, u1, u2] T (0, 0)) := box3_2 (box3_1 (box3_0 h))
theorem w3_far {w : World} {q p : Nat} {u0 u1 u2 : Value} {x : Obj} (h : w.heap[p]? = some x) (hn : p ≠ q) : (((w.setCell ⟨q, 0, none⟩ u0).setCell ⟨q, 1, none⟩ u1).setCell ⟨q, 2, none⟩ u2).heap[p]? = some x := box_other (box_other (box_other h hn) hn) hn
theorem rs_w4 {α : Type} {s bs q : Nat} {E : World → Nat → Nat → α → Prop} {w : World} {v : Value} {l : List α} {a a' : Option Addr} {n c n' c' : Nat} {r t : Int} (hE : ∀ (w : World) (p q : Nat) (u : Value), SBox w p → ∀ b o x, E w b o x → E (w.setCell ⟨p, q, none⟩ u) b o x)
 (h : RS s bs E w v l) (hq : SBox w q) : RS s bs E ((((w.setCell ⟨q, 0, none⟩ (.slice a n c)).setCell ⟨q, 1, none⟩ (.slice a' n' c')).setCell ⟨q, 2, none⟩ (.int .i64 r)).setCell ⟨q, 3, none⟩ (.int .i64 t)) v l :=
 RS.write (RS.write (RS.write (RS.write h (hE _ _ _ _ hq)) (hE _ _ _ _ hq.wr0)) (hE _ _ _ _ hq.wr0.wr1)) (hE _ _ _ _ hq.wr0.wr1.wr2)
theorem rs_w3 {α : Type} {s bs q : Nat} {E : World → Nat → Nat → α → Prop} {w : World} {v : Value} {l : List α} {a : Option Addr} {n c : Nat} {k : Int} {s' : ByteArray} (hE : ∀ (w : World) (p q : Nat) (u : Value), CBox w p → ∀ b o x, E w b o x → E (w.setCell ⟨p, q, none⟩ u) b o x)
 (h : RS s bs E w v l) (hq : CBox w q) : RS s bs E (((w.setCell ⟨q, 0, none⟩ (.int .i64 k)).setCell ⟨q, 1, none⟩ (.slice a n c)).setCell ⟨q, 2, none⟩ (.string s')) v l :=
 RS.write (RS.write (RS.write h (hE _ _ _ _ hq)) (hE _ _ _ _ hq.wr0)) (hE _ _ _ _ hq.wr0.wr1)
theorem os_w4 {w : World} {B q : Nat} {v a b c d u0 u1 u2 u3 : Value} {l : List ByteArray} (h : OS 9 1 cStr w B v l) (hq : w.heap[q]? = some (.cells #[a, b, c, d] 29 (0, 0))) : OS 9 1 cStr ((((w.setCell ⟨q, 0, none⟩ u0).setCell ⟨q, 1, none⟩ u1).setCell ⟨q, 2, none⟩ u2).setCell ⟨q, 3, none⟩ u3) B v l := OS.boxS4 h hq (by decide)
theorem os_w3 {w : World} {B q : Nat} {v a b c u0 u1 u2 : Value} {l : List ByteArray} (h : OS 9 1 cStr w B v l) (hq : w.heap[q]? = some (.cells #[a, b, c] 32 (0, 0))) : OS 9 1 cStr (((w.setCell ⟨q, 0, none⟩ u0).setCell ⟨q, 1, none⟩ u1).setCell ⟨q, 2, none⟩ u2) B v l := OS.boxS3 h hq (by decide)
theorem b_w4 {w W : World} {B q : Nat} {u0 u1 u2 u3 : Value} (h : Below B W w) (hq : B ≤ q) : Below B W ((((w.setCell ⟨q, 0, none⟩ u0).setCell ⟨q, 1, none⟩ u1).setCell ⟨q, 2, none⟩ u2).setCell ⟨q, 3, none⟩ u3) := bB_box4 h hq u0 u1 u2 u3
theorem b_w3 {w W : World} {B q : Nat} {u0 u1 u2 : Value} (h : Below B W w) (hq : B ≤ q) : Below B W (((w.setCell ⟨q, 0, none⟩ u0).setCell ⟨q, 1, none⟩ u1).setCell ⟨q, 2, none⟩ u2) := bB_box3 h hq u0 u1 u2
end Go.Proofs.YtpkpgehiplhkpaaGreat
