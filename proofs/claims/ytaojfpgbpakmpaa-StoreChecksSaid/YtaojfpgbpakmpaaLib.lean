/-
  How plain lists of data lie in memory, and that they stay there while new memory is made. No function of the program is named here.
-/
import Derived.Test.YtaojfpgbpakmpaaProg
import Derived.WalkKit
import Derived.WalkSpells
import Derived.WalkLawsBesides
namespace Go.Proofs.Ytaojfpgbpakmpaa
open Go.RowKit

theorem hid {p : Prop} (h : p) : Hid p := h

theorem ret_i {k : IntKind} {a b : Int} (h : a = b) : Ending.returned (.int k a) = .returned (.int k b) := by rw [h]

/-! ### Reading a slice as a list -/

/-- v is a slice that reads as the list l; an element is s cells and bs bytes, read by E; it takes no more bytes than an argument may. -/
def RS {α : Type} (s bs : Nat) (E : World → Nat → Nat → α → Prop) (w : World) (v : Value) (l : List α) : Prop :=
  ∃ a c, v = .slice a l.length c ∧ l.length ≤ c ∧ c ≤ maxLen ∧ l.length * bs ≤ 140737488351232 ∧ (a = none → c = 0) ∧ ∀ k x, l[k]? = some x → ∃ b off, a = some ⟨b, off, none⟩ ∧ b < w.heap.size ∧ E w b (off + k * s) x

/-- What an element reads as stays while the blocks of its world stay. -/
def Stable {α : Type} (E : World → Nat → Nat → α → Prop) : Prop := ∀ w w' b o x, Below w.heap.size w w' → b < w.heap.size → E w b o x → E w' b o x

theorem RS.mono {α : Type} {s bs : Nat} {E : World → Nat → Nat → α → Prop} {w w' : World} {v : Value} {l : List α} (hE : Stable E) (h : RS s bs E w v l) (hb : Below w.heap.size w w') : RS s bs E w' v l := by
  obtain ⟨a, c, rfl, h1, h2, hr, hn, h3⟩ := h
  refine ⟨a, c, rfl, h1, h2, hr, hn, fun k x hk => ?_⟩
  obtain ⟨b, off, rfl, hlt, he⟩ := h3 k x hk
  exact ⟨b, off, rfl, Nat.lt_of_lt_of_le hlt hb.size, hE _ _ _ _ _ hb hlt he⟩

theorem RS.nil {α : Type} {s bs : Nat} {E : World → Nat → Nat → α → Prop} {w : World} : RS (α := α) s bs E w (.slice none 0 0) [] :=
  ⟨none, 0, rfl, Nat.le_refl _, by simp [maxLen], by simp, fun _ => rfl, fun k x h => by simp at h⟩

/-- A sub-slice, in the shape that the walk gives. -/
theorem RS.sub {α : Type} {s bs : Nat} {E : World → Nat → Nat → α → Prop} {w : World} {a : Option Addr} {n c : Nat} {l : List α} (h : RS s bs E w (.slice a n c) l) (lo hi : Nat) (h1 : lo ≤ hi) (h2 : hi ≤ n) (a' : Option Addr) (c' : Nat)
    (hc : hi - lo ≤ c') (hc' : c' ≤ maxLen) (hn : a' = none → c' = 0) (ha : lo < hi → a' = a.map (·.add (lo * s))) : RS s bs E w (.slice a' (hi - lo) c') ((l.take hi).drop lo) := by
  obtain ⟨x, y, hv, g1, g2, gr, gn, g3⟩ := h
  simp only [Value.slice.injEq] at hv
  obtain ⟨rfl, rfl, rfl⟩ := hv
  have hlen : ((l.take hi).drop lo).length = hi - lo := by simp; omega
  refine ⟨a', c', by rw [hlen], by omega, hc', by rw [hlen]; exact Nat.le_trans (Nat.mul_le_mul_right _ (by omega)) gr, hn, fun k x hk => ?_⟩
  have hkl : k < hi - lo := by
    have := (List.getElem?_eq_some_iff.1 hk).1
    omega
  rw [List.getElem?_drop, List.getElem?_take, if_pos (by omega)] at hk
  obtain ⟨b, off, rfl, hlt, he⟩ := g3 _ _ hk
  refine ⟨b, off + lo * s, ?_, hlt, ?_⟩
  · rw [ha (by omega)]
    simp only [Option.map_some, Addr.add]
    split
    · simp_all
    · rfl
  · rw [show off + lo * s + k * s = off + (lo + k) * s by rw [Nat.add_mul]; omega]
    exact he

theorem RS.from {α : Type} {s bs : Nat} {E : World → Nat → Nat → α → Prop} {w : World} {a : Option Addr} {n c : Nat} {l : List α} (h : RS s bs E w (.slice a n c) l) (lo : Nat) (h1 : lo ≤ n) :
    RS s bs E w (.slice (if c = lo then a else a.map (·.add (lo * s))) (n - lo) (c - lo)) (l.drop lo) := by
  have hh := h
  obtain ⟨x, y, hv, g1, g2, gr, gn, g3⟩ := hh
  simp only [Value.slice.injEq] at hv
  obtain ⟨rfl, rfl, rfl⟩ := hv
  have := RS.sub h lo l.length h1 (Nat.le_refl _) (if c = lo then a else a.map (·.add (lo * s))) (c - lo) (by omega) (by omega) (fun h0 => by split at h0 <;> simp_all) (fun hlt => by rw [if_neg (by omega)])
  rwa [List.take_length] at this

theorem RS.upto {α : Type} {s bs : Nat} {E : World → Nat → Nat → α → Prop} {w : World} {a : Option Addr} {n c : Nat} {l : List α} (h : RS s bs E w (.slice a n c) l) (hi : Nat) (h1 : hi ≤ n) :
    RS s bs E w (.slice a hi c) (l.take hi) := by
  have hh := h
  obtain ⟨x, y, hv, g1, g2, gr, gn, g3⟩ := hh
  simp only [Value.slice.injEq] at hv
  obtain ⟨rfl, rfl, rfl⟩ := hv
  have := RS.sub h 0 hi (Nat.zero_le _) h1 a c (by omega) g2 gn (fun _ => by cases a <;> simp [Addr.add])
  simpa using this

/-! ### The kinds of elements -/

def EU8 (w : World) (b o : Nat) (x : UInt8) : Prop := w.cell? ⟨b, o, none⟩ = some (.int .u8 (x.toNat : Int))
def EU32 (w : World) (b o : Nat) (x : UInt32) : Prop := w.cell? ⟨b, o, none⟩ = some (.int .u32 (x.toNat : Int))
def EI (w : World) (b o : Nat) (x : Int) : Prop := w.cell? ⟨b, o, none⟩ = some (.int .i64 x) ∧ (Lit.int .i64 x).wf = true
def EStr (w : World) (b o : Nat) (x : ByteArray) : Prop := w.cell? ⟨b, o, none⟩ = some (.string x) ∧ x.size ≤ 140737488351232

theorem cell_stays {w w' : World} {b o : Nat} {v : Value} (hb : Below w.heap.size w w') (hlt : b < w.heap.size) (h : w.cell? ⟨b, o, none⟩ = some v) : w'.cell? ⟨b, o, none⟩ = some v :=
  (hb.cell (p := ⟨b, o, none⟩) hlt).trans h

theorem EU8.stable : Stable EU8 := fun _ _ _ _ _ hb hlt h => cell_stays hb hlt h
theorem EU32.stable : Stable EU32 := fun _ _ _ _ _ hb hlt h => cell_stays hb hlt h
theorem EI.stable : Stable EI := fun _ _ _ _ _ hb hlt h => ⟨cell_stays hb hlt h.1, h.2⟩
theorem EStr.stable : Stable EStr := fun _ _ _ _ _ hb hlt h => ⟨cell_stays hb hlt h.1, h.2⟩

abbrev RB (w : World) (v : Value) (l : List UInt8) : Prop := RS 1 1 EU8 w v l
abbrev RW (w : World) (v : Value) (l : List UInt32) : Prop := RS 1 4 EU32 w v l
abbrev RI (w : World) (v : Value) (l : List Int) : Prop := RS 1 8 EI w v l
abbrev RT (w : World) (v : Value) (l : List ByteArray) : Prop := RS 1 16 EStr w v l

structure Part where
  name : ByteArray
  digest : ByteArray
  size : Int
structure Blob where
  digest : ByteArray
  data : List UInt8
  pins : Int
  mark : Bool
structure Entry where
  key : ByteArray
  parts : List Part
  pins : Int
  stamp : Int
structure Flight where
  key : ByteArray
  leader : Int
  waiters : List Int

def EPart (w : World) (b o : Nat) (x : Part) : Prop :=
  w.cell? ⟨b, o, none⟩ = some (.string x.name) ∧ w.cell? ⟨b, o + 1, none⟩ = some (.string x.digest) ∧ w.cell? ⟨b, o + 2, none⟩ = some (.int .i64 x.size) ∧
  x.name.size ≤ 140737488351232 ∧ x.digest.size ≤ 140737488351232 ∧ (Lit.int .i64 x.size).wf = true
theorem EPart.stable : Stable EPart := fun _ _ _ _ _ hb hlt ⟨h1, h2, h3, h4⟩ => ⟨cell_stays hb hlt h1, cell_stays hb hlt h2, cell_stays hb hlt h3, h4⟩
abbrev RP (w : World) (v : Value) (l : List Part) : Prop := RS 3 40 EPart w v l

def EBlob (w : World) (b o : Nat) (x : Blob) : Prop :=
  ∃ dv, w.cell? ⟨b, o, none⟩ = some (.string x.digest) ∧ w.cell? ⟨b, o + 1, none⟩ = some dv ∧ w.cell? ⟨b, o + 2, none⟩ = some (.int .i64 x.pins) ∧ w.cell? ⟨b, o + 3, none⟩ = some (.bool x.mark) ∧
  RB w dv x.data ∧ x.digest.size ≤ 140737488351232 ∧ (Lit.int .i64 x.pins).wf = true
theorem EBlob.stable : Stable EBlob := fun _ _ _ _ _ hb hlt ⟨dv, h1, h2, h3, h4, h5, h6⟩ => ⟨dv, cell_stays hb hlt h1, cell_stays hb hlt h2, cell_stays hb hlt h3, cell_stays hb hlt h4, h5.mono EU8.stable hb, h6⟩
abbrev RBl (w : World) (v : Value) (l : List Blob) : Prop := RS 4 56 EBlob w v l

def EEntry (w : World) (b o : Nat) (x : Entry) : Prop :=
  ∃ pv, w.cell? ⟨b, o, none⟩ = some (.string x.key) ∧ w.cell? ⟨b, o + 1, none⟩ = some pv ∧ w.cell? ⟨b, o + 2, none⟩ = some (.int .i64 x.pins) ∧ w.cell? ⟨b, o + 3, none⟩ = some (.int .i64 x.stamp) ∧
  RP w pv x.parts ∧ x.key.size ≤ 140737488351232 ∧ (Lit.int .i64 x.pins).wf = true ∧ (Lit.int .i64 x.stamp).wf = true
theorem EEntry.stable : Stable EEntry := fun _ _ _ _ _ hb hlt ⟨dv, h1, h2, h3, h4, h5, h6⟩ => ⟨dv, cell_stays hb hlt h1, cell_stays hb hlt h2, cell_stays hb hlt h3, cell_stays hb hlt h4, h5.mono EPart.stable hb, h6⟩
abbrev RE (w : World) (v : Value) (l : List Entry) : Prop := RS 4 56 EEntry w v l

def EFlight (w : World) (b o : Nat) (x : Flight) : Prop :=
  ∃ dv, w.cell? ⟨b, o, none⟩ = some (.string x.key) ∧ w.cell? ⟨b, o + 1, none⟩ = some (.int .i64 x.leader) ∧ w.cell? ⟨b, o + 2, none⟩ = some dv ∧
  RI w dv x.waiters ∧ x.key.size ≤ 140737488351232 ∧ (Lit.int .i64 x.leader).wf = true
theorem EFlight.stable : Stable EFlight := fun _ _ _ _ _ hb hlt ⟨dv, h1, h2, h3, h5, h6⟩ => ⟨dv, cell_stays hb hlt h1, cell_stays hb hlt h2, cell_stays hb hlt h3, h5.mono EI.stable hb, h6⟩
abbrev RF (w : World) (v : Value) (l : List Flight) : Prop := RS 3 48 EFlight w v l

/-! ### The world that grows -/

theorem b_alloc {w W : World} (h : Below w.heap.size w W) (o : Obj) : Below w.heap.size w (W.alloc o) := h.alloc h.size o
theorem b_set {w W : World} (h : Below w.heap.size w W) {p : Addr} (hp : w.heap.size ≤ p.block) (u : Value) : Below w.heap.size w (W.setCell p u) := h.setCell hp u
theorem b_call {w W W' : World} (h : Below w.heap.size w W) (h' : Below W.heap.size W W') : Below w.heap.size w W' := h.trans (h'.mono h.size)
theorem bcell {W w1 : World} (hb : Below W.heap.size W w1) : (∀ b o, b < W.heap.size → w1.cell? ⟨b, o, none⟩ = W.cell? ⟨b, o, none⟩) ∧ (∀ b o, b < W.heap.size → w1.frozen? ⟨b, o, none⟩ = W.frozen? ⟨b, o, none⟩) :=
  ⟨fun b o h => hb.cell (p := ⟨b, o, none⟩) h, fun b o h => hb.frozen (p := ⟨b, o, none⟩) h⟩

end Go.Proofs.Ytaojfpgbpakmpaa
