import Derived.Test.YtpkpgehiplhkpaaGreatTzLft
import Derived.Test.YtpkpgehiplhkpaaGreatTzBrL
namespace Go.Proofs.YtpkpgehiplhkpaaGreat
open Go.RowKit
theorem qzexl_1 {P : Prop} (h : P := by simp [World.setCell, Array.getElem?_modify, hq]) : P := h
def LBox (w : World) (p : Nat) : Prop := ∃ a n c a' n' c' r t k a'' n'' c'' s f m d T, w.heap[p]? = some (.cells #[.slice a n c, .slice a' n' c', .int .i64 r, .int .i64 t, .int .i64 k, .slice a'' n'' c'', .string s, .slice f m d] T (0, 0))
theorem LBox.str {w : World} {p b o : Nat} {s : ByteArray} {v u : Value} (h : LBox w p) (hc : w.cell? ⟨b, o, none⟩ = some (.string s)) (hd : w.cell? ⟨b, o + 1, none⟩ = some v) (he : w.cell? ⟨b, o + 2, none⟩ = some u) : b ≠ p := by
 rintro rfl
 obtain ⟨a, n, c, a', n', c', r, t, k, a'', n'', c'', s', f, m, d, T, hp⟩ := h
 rw [cell_of_row _ _ _ _ _ _ hp] at hc he
 rcases o with _ | _ | _ | _ | _ | _ | _ | _ | o
 · simp at hc
 · simp at hc
 · simp at hc
 · simp at hc
 · simp at hc
 · simp at hc
 · simp at he
 · simp at hc
 simp at hc
theorem LBox.u8 {w : World} {p b o : Nat} {k : Int} (h : LBox w p) (hc : w.cell? ⟨b, o, none⟩ = some (.int .u8 k)) : b ≠ p := by
 rintro rfl
 obtain ⟨a, n, c, a', n', c', r, t, k, a'', n'', c'', s', f, m, d, T, hp⟩ := h
 rw [cell_of_row _ _ _ _ _ _ hp] at hc
 rcases o with _ | _ | _ | _ | _ | _ | _ | _ | o <;> simp at hc
section
variable {w : World} {p q : Nat} {u : Value}
theorem EU8.writeL (hp : LBox w p) {b o : Nat} {x : UInt8} (h : EU8 w b o x) : EU8 (w.setCell ⟨p, q, none⟩ u) b o x := (cell_apart (hp.u8 h)).trans h
theorem EPart.writeL (hp : LBox w p) {b o : Nat} {x : Part} (h : EPart w b o x) : EPart (w.setCell ⟨p, q, none⟩ u) b o x := by
 obtain ⟨h1, h2, h3, h4⟩ := h
 have hne := hp.str h1 h2 h3
 exact ⟨(cell_apart hne).trans h1, (cell_apart hne).trans h2, (cell_apart hne).trans h3, h4⟩
theorem EBlob.writeL (hp : LBox w p) {b o : Nat} {x : Blob} (h : EBlob w b o x) : EBlob (w.setCell ⟨p, q, none⟩ u) b o x := by
 obtain ⟨dv, h1, h2, h3, h4, h5, h6⟩ := h
 have hne := hp.str h1 h2 h3
 exact ⟨dv, (cell_apart hne).trans h1, (cell_apart hne).trans h2, (cell_apart hne).trans h3, (cell_apart hne).trans h4, RS.write h5 (fun _ _ _ => EU8.writeL hp), h6⟩
theorem EEntry.writeL (hp : LBox w p) {b o : Nat} {x : Entry} (h : EEntry w b o x) : EEntry (w.setCell ⟨p, q, none⟩ u) b o x := by
 obtain ⟨dv, h1, h2, h3, h4, h5, h6⟩ := h
 have hne := hp.str h1 h2 h3
 exact ⟨dv, (cell_apart hne).trans h1, (cell_apart hne).trans h2, (cell_apart hne).trans h3, (cell_apart hne).trans h4, RS.write h5 (fun _ _ _ => EPart.writeL hp), h6⟩
end
theorem l8_0 {w : World} {q : Nat} {a b c d e f g h u : Value} {T : TypeId} (hq : w.heap[q]? = some (.cells #[a, b, c, d, e, f, g, h] T (0, 0))) : (w.setCell ⟨q, 0, none⟩ u).heap[q]? = some (.cells #[u, b, c, d, e, f, g, h] T (0, 0)) := by
 exact qzexl_1
theorem l8_1 {w : World} {q : Nat} {a b c d e f g h u : Value} {T : TypeId} (hq : w.heap[q]? = some (.cells #[a, b, c, d, e, f, g, h] T (0, 0))) : (w.setCell ⟨q, 1, none⟩ u).heap[q]? = some (.cells #[a, u, c, d, e, f, g, h] T (0, 0)) := by
 exact qzexl_1
theorem l8_2 {w : World} {q : Nat} {a b c d e f g h u : Value} {T : TypeId} (hq : w.heap[q]? = some (.cells #[a, b, c, d, e, f, g, h] T (0, 0))) : (w.setCell ⟨q, 2, none⟩ u).heap[q]? = some (.cells #[a, b, u, d, e, f, g, h] T (0, 0)) := by
 exact qzexl_1
theorem l8_3 {w : World} {q : Nat} {a b c d e f g h u : Value} {T : TypeId} (hq : w.heap[q]? = some (.cells #[a, b, c, d, e, f, g, h] T (0, 0))) : (w.setCell ⟨q, 3, none⟩ u).heap[q]? = some (.cells #[a, b, c, u, e, f, g, h] T (0, 0)) := by
 exact qzexl_1
theorem l8_4 {w : World} {q : Nat} {a b c d e f g h u : Value} {T : TypeId} (hq : w.heap[q]? = some (.cells #[a, b, c, d, e, f, g, h] T (0, 0))) : (w.setCell ⟨q, 4, none⟩ u).heap[q]? = some (.cells #[a, b, c, d, u, f, g, h] T (0, 0)) := by
 exact qzexl_1
theorem l8_5 {w : World} {q : Nat} {a b c d e f g h u : Value} {T : TypeId} (hq : w.heap[q]? = some (.cells #[a, b, c, d, e, f, g, h] T (0, 0))) : (w.setCell ⟨q, 5, none⟩ u).heap[q]? = some (.cells #[a, b, c, d, e, u, g, h] T (0, 0)) := by
 exact qzexl_1
theorem l8_6 {w : World} {q : Nat} {a b c d e f g h u : Value} {T : TypeId} (hq : w.heap[q]? = some (.cells #[a, b, c, d, e, f, g, h] T (0, 0))) : (w.setCell ⟨q, 6, none⟩ u).heap[q]? = some (.cells #[a, b, c, d, e, f, u, h] T (0, 0)) := by
 exact qzexl_1
theorem l8_7 {w : World} {q : Nat} {a b c d e f g h u : Value} {T : TypeId} (hq : w.heap[q]? = some (.cells #[a, b, c, d, e, f, g, h] T (0, 0))) : (w.setCell ⟨q, 7, none⟩ u).heap[q]? = some (.cells #[a, b, c, d, e, f, g, u] T (0, 0)) := by
 exact qzexl_1
section
variable {w : World} {p : Nat}
theorem LBox.w0 {a : Option Addr} {n c : Nat} (h : LBox w p) : LBox (w.setCell ⟨p, 0, none⟩ (.slice a n c)) p := by
 obtain ⟨_, _, _, _, _, _, _, _, _, _, _, _, _, _, _, _, _, h⟩ := h
 exact ⟨_, _, _, _, _, _, _, _, _, _, _, _, _, _, _, _, _, l8_0 h⟩
theorem LBox.w1 {a : Option Addr} {n c : Nat} (h : LBox w p) : LBox (w.setCell ⟨p, 1, none⟩ (.slice a n c)) p := by
 obtain ⟨_, _, _, _, _, _, _, _, _, _, _, _, _, _, _, _, _, h⟩ := h
 exact ⟨_, _, _, _, _, _, _, _, _, _, _, _, _, _, _, _, _, l8_1 h⟩
theorem LBox.w2 {k : Int} (h : LBox w p) : LBox (w.setCell ⟨p, 2, none⟩ (.int .i64 k)) p := by
 obtain ⟨_, _, _, _, _, _, _, _, _, _, _, _, _, _, _, _, _, h⟩ := h
 exact ⟨_, _, _, _, _, _, _, _, _, _, _, _, _, _, _, _, _, l8_2 h⟩
theorem LBox.w3 {k : Int} (h : LBox w p) : LBox (w.setCell ⟨p, 3, none⟩ (.int .i64 k)) p := by
 obtain ⟨_, _, _, _, _, _, _, _, _, _, _, _, _, _, _, _, _, h⟩ := h
 exact ⟨_, _, _, _, _, _, _, _, _, _, _, _, _, _, _, _, _, l8_3 h⟩
theorem LBox.w4 {k : Int} (h : LBox w p) : LBox (w.setCell ⟨p, 4, none⟩ (.int .i64 k)) p := by
 obtain ⟨_, _, _, _, _, _, _, _, _, _, _, _, _, _, _, _, _, h⟩ := h
 exact ⟨_, _, _, _, _, _, _, _, _, _, _, _, _, _, _, _, _, l8_4 h⟩
theorem LBox.w5 {a : Option Addr} {n c : Nat} (h : LBox w p) : LBox (w.setCell ⟨p, 5, none⟩ (.slice a n c)) p := by
 obtain ⟨_, _, _, _, _, _, _, _, _, _, _, _, _, _, _, _, _, h⟩ := h
 exact ⟨_, _, _, _, _, _, _, _, _, _, _, _, _, _, _, _, _, l8_5 h⟩
theorem LBox.w6 {s : ByteArray} (h : LBox w p) : LBox (w.setCell ⟨p, 6, none⟩ (.string s)) p := by
 obtain ⟨_, _, _, _, _, _, _, _, _, _, _, _, _, _, _, _, _, h⟩ := h
 exact ⟨_, _, _, _, _, _, _, _, _, _, _, _, _, _, _, _, _, l8_6 h⟩
end
theorem rs_b8 {α : Type} {s bs p : Nat} {E : World → Nat → Nat → α → Prop} {w : World} {v : Value} {l : List α} (hE : ∀ (w : World) (p q : Nat) (u : Value), LBox w p → ∀ b o x, E w b o x → E (w.setCell ⟨p, q, none⟩ u) b o x)
 (h : RS s bs E w v l) (hp : LBox w p) (a : Option Addr) (n c : Nat) (a' : Option Addr) (n' c' : Nat) (r t k : Int) (a'' : Option Addr) (n'' c'' : Nat) (s' : ByteArray) (f : Value) :
 RS s bs E (box8 w p (.slice a n c) (.slice a' n' c') (.int .i64 r) (.int .i64 t) (.int .i64 k) (.slice a'' n'' c'') (.string s') f) v l :=
 RS.write (RS.write (RS.write (RS.write (RS.write (RS.write (RS.write (RS.write h (hE _ _ _ _ hp)) (hE _ _ _ _ hp.w0)) (hE _ _ _ _ hp.w0.w1)) (hE _ _ _ _ hp.w0.w1.w2)) (hE _ _ _ _ hp.w0.w1.w2.w3)) (hE _ _ _ _ hp.w0.w1.w2.w3.w4)) (hE _ _ _ _ hp.w0.w1.w2.w3.w4.w5)) (hE _ _ _ _ hp.w0.w1.w2.w3.w4.w5.w6)
theorem EBlob.writesL : ∀ (w : World) (p q : Nat) (u : Value), LBox w p → ∀ b o x, EBlob w b o x → EBlob (w.setCell ⟨p, q, none⟩ u) b o x := fun _ _ _ _ h _ _ _ => EBlob.writeL h
theorem EEntry.writesL : ∀ (w : World) (p q : Nat) (u : Value), LBox w p → ∀ b o x, EEntry w b o x → EEntry (w.setCell ⟨p, q, none⟩ u) b o x := fun _ _ _ _ h _ _ _ => EEntry.writeL h
structure LfOut where
 err : Int
 store : Store
 coll : Coll
 flights : List Flight
 who : List Int
def noLf (n : Int) : LfOut := ⟨n, noStore, noColl, [], []⟩
def LfRes (o : LfOut) (w : World) (e : Ending) (w' : World) : Prop :=
 ∃ v1 v2 v3 v4 wv, e = .returned (.tuple #[.agg #[v1, v2, .int .i64 o.store.room, .int .i64 o.store.clock, .int .i64 o.coll.phase, v3, .string o.coll.place, v4], wv, .int .i64 o.err]) ∧
   RBl w' v1 o.store.blobs ∧ RE w' v2 o.store.entries ∧ RT w' v3 o.coll.grey ∧ RF w' v4 o.flights ∧ RI w' wv o.who ∧ OS 9 1 cStr w' w.heap.size v3 o.coll.grey ∧ OFlight w' w.heap.size v4 o.flights ∧ OS 3 1 cI w' w.heap.size wv o.who ∧ Below w.heap.size w w'
theorem lf_no {o : LfOut} {n : Int} {w w' : World} (h : o = noLf n) (hb : Below w.heap.size w w') :
 LfRes o w (.returned (.tuple #[.agg #[.slice none 0 0, .slice none 0 0, .int .i64 0, .int .i64 0, .int .i64 0, .slice none 0 0, .string ⟨#[]⟩, .slice none 0 0], .slice none 0 0, .int .i64 n])) w' := by
 subst h
 exact ⟨_, _, _, _, _, rfl, RS.nil, RS.nil, RS.nil, RS.nil, RS.nil, OS.nil, OX.nil, OS.nil, hb⟩
theorem lf_ok {o : LfOut} {bs : List Blob} {es : List Entry} {r t ph : Int} {gy : List ByteArray} {pl : ByteArray} {fl : List Flight} {wh : List Int} {w w' : World} {v1 v2 v3 v4 wv : Value} (h : o = ⟨0, ⟨bs, es, r, t⟩, ⟨ph, gy, pl⟩, fl, wh⟩)
 (h1 : RBl w' v1 bs) (h2 : RE w' v2 es) (h3 : RT w' v3 gy) (h4 : RF w' v4 fl) (h5 : RI w' wv wh) {A B D : Nat} (hA : w.heap.size ≤ A) (hB : w.heap.size ≤ B) (hD : w.heap.size ≤ D) (k3 : OS 9 1 cStr w' A v3 gy) (k4 : OFlight w' B v4 fl) (k5 : OS 3 1 cI w' D wv wh) (hb : Below w.heap.size w w') :
 LfRes o w (.returned (.tuple #[.agg #[v1, v2, .int .i64 r, .int .i64 t, .int .i64 ph, v3, .string pl, v4], wv, .int .i64 0])) w' := by
 subst h
 exact ⟨_, _, _, _, _, rfl, h1, h2, h3, h4, h5, OS.mono k3 hA, OFlight.low k4 hB, OS.mono k5 hD, hb⟩
def doneOut (z e : Int) (O : CoOut) (L : List Flight) (wh : List Int) : LfOut :=
 if z ≠ 0 then noLf z else if e ≠ 0 then noLf e else if O.err ≠ 0 then noLf O.err else ⟨0, O.store, O.coll, L, wh⟩
section
variable {z e : Int} {O : CoOut} {L : List Flight} {wh : List Int}
theorem done_bad (h : z ≠ 0) : doneOut z e O L wh = noLf z := if_pos h
theorem done_end (h : e ≠ 0) : doneOut 0 e O L wh = noLf e := by unfold doneOut; rw [if_neg (by simp), if_pos h]
theorem done_put (h : O.err ≠ 0) : doneOut 0 0 O L wh = noLf O.err := by unfold doneOut; rw [if_neg (by simp), if_neg (by simp), if_pos h]
theorem done_ok {S : Store} {C : Coll} : doneOut 0 0 ⟨0, S, C⟩ L wh = ⟨0, S, C, L, wh⟩ := by unfold doneOut; rw [if_neg (by simp), if_neg (by simp), if_neg (by simp)]
end
section
variable {z e : Int} {S : Store} {C : Coll} {L : List Flight} {wh : List Int}
end
def EndedO (ee : Int) (L : List Flight) (wh : List Int) (w : World) (e : Ending) (w' : World) : Prop :=
 ∃ v1 v2, e = .returned (.tuple #[v1, v2, .int .i64 ee]) ∧ RF w' v1 L ∧ RI w' v2 wh ∧ Below w.heap.size w w' ∧ OFlight w' w.heap.size v1 L ∧ OS 3 1 cI w' w.heap.size v2 wh
theorem ri_bound {w : World} {v : Value} {l : List Int} (h : RI w v l) : l.length * 8 ≤ 140737488351232 := by
 obtain ⟨_, _, _, _, _, hre, _⟩ := h
 exact hre
theorem rf_bound {w : World} {v : Value} {l : List Flight} (h : RF w v l) : l.length * 48 ≤ 140737488351232 := by
 obtain ⟨_, _, _, _, _, hre, _⟩ := h
 exact hre
end Go.Proofs.YtpkpgehiplhkpaaGreat

namespace Go.Proofs.YtpkpgehiplhkpaaGreat
open Go.RowKit
end Go.Proofs.YtpkpgehiplhkpaaGreat

namespace Go.Proofs.YtpkpgehiplhkpaaGreat
open Go.RowKit
section
variable {z : Int} {f : Bool} {O : CoOut} {L : List Flight}
end
end Go.Proofs.YtpkpgehiplhkpaaGreat

namespace Go.Proofs.YtpkpgehiplhkpaaGreat
open Go.RowKit
structure AkOut where
 err : Int
 store : Store
 coll : Coll
 flights : List Flight
 parts : List Part
 is : Bool
def noAk (n : Int) : AkOut := ⟨n, noStore, noColl, [], [], false⟩
def AkRes (o : AkOut) (w : World) (e : Ending) (w' : World) : Prop :=
 ∃ v1 v2 v3 v4 pv, e = .returned (.tuple #[.agg #[v1, v2, .int .i64 o.store.room, .int .i64 o.store.clock, .int .i64 o.coll.phase, v3, .string o.coll.place, v4], pv, .bool o.is, .int .i64 o.err]) ∧
   RBl w' v1 o.store.blobs ∧ RE w' v2 o.store.entries ∧ RT w' v3 o.coll.grey ∧ RF w' v4 o.flights ∧ RP w' pv o.parts ∧ OS 9 1 cStr w' w.heap.size v3 o.coll.grey ∧ OFlight w' w.heap.size v4 o.flights ∧ Below w.heap.size w w'
theorem ak_no {o : AkOut} {n : Int} {w w' : World} (h : o = noAk n) (hb : Below w.heap.size w w') :
 AkRes o w (.returned (.tuple #[.agg #[.slice none 0 0, .slice none 0 0, .int .i64 0, .int .i64 0, .int .i64 0, .slice none 0 0, .string ⟨#[]⟩, .slice none 0 0], .slice none 0 0, .bool false, .int .i64 n])) w' := by
 subst h
 exact ⟨_, _, _, _, _, rfl, RS.nil, RS.nil, RS.nil, RS.nil, RS.nil, OS.nil, OX.nil, hb⟩
theorem ak_ok {o : AkOut} {bs : List Blob} {es : List Entry} {r t ph : Int} {gy : List ByteArray} {pl : ByteArray} {fl : List Flight} {P : List Part} {i : Bool} {w w' : World} {v1 v2 v3 v4 pv : Value} (h : o = ⟨0, ⟨bs, es, r, t⟩, ⟨ph, gy, pl⟩, fl, P, i⟩)
 (h1 : RBl w' v1 bs) (h2 : RE w' v2 es) (h3 : RT w' v3 gy) (h4 : RF w' v4 fl) (h5 : RP w' pv P) {A B : Nat} (hA : w.heap.size ≤ A) (hB : w.heap.size ≤ B) (k3 : OS 9 1 cStr w' A v3 gy) (k4 : OFlight w' B v4 fl) (hb : Below w.heap.size w w') :
 AkRes o w (.returned (.tuple #[.agg #[v1, v2, .int .i64 r, .int .i64 t, .int .i64 ph, v3, .string pl, v4], pv, .bool i, .int .i64 0])) w' := by
 subst h
 exact ⟨_, _, _, _, _, rfl, h1, h2, h3, h4, h5, OS.mono k3 hA, OFlight.low k4 hB, hb⟩
def askOut (z : Int) (f bad : Bool) (ge : Int) (GS : Store) (GP : List Part) (je : Int) (JL : List Flight) (JB : Bool) (S : Store) (C : Coll) (fl : List Flight) : AkOut :=
 if z ≠ 0 then noAk z else if f = true then (if bad = true then noAk 4 else if ge ≠ 0 then noAk ge else ⟨0, GS, C, fl, GP, false⟩) else if je ≠ 0 then noAk je else ⟨0, S, C, JL, [], JB⟩
section
variable {z ge je : Int} {f bad JB : Bool} {GS S : Store} {GP : List Part} {JL fl : List Flight} {C : Coll}
theorem ask_bad (h : z ≠ 0) : askOut z f bad ge GS GP je JL JB S C fl = noAk z := if_pos h
theorem ask_who : askOut 0 true true ge GS GP je JL JB S C fl = noAk 4 := by unfold askOut; rw [if_neg (by simp), if_pos rfl, if_pos rfl]
theorem ask_get (h : ge ≠ 0) : askOut 0 true false ge GS GP je JL JB S C fl = noAk ge := by unfold askOut; rw [if_neg (by simp), if_pos rfl, if_neg (by simp), if_pos h]
theorem ask_got : askOut 0 true false 0 GS GP je JL JB S C fl = ⟨0, GS, C, fl, GP, false⟩ := by unfold askOut; rw [if_neg (by simp), if_pos rfl, if_neg (by simp), if_neg (by simp)]
theorem ask_join (h : je ≠ 0) : askOut 0 false bad ge GS GP je JL JB S C fl = noAk je := by unfold askOut; rw [if_neg (by simp), if_neg (by simp), if_pos h]
theorem ask_joined : askOut 0 false bad ge GS GP 0 JL JB S C fl = ⟨0, S, C, JL, [], JB⟩ := by unfold askOut; rw [if_neg (by simp), if_neg (by simp), if_neg (by simp)]
end
theorem rs_l4 {α : Type} {s bs p : Nat} {E : World → Nat → Nat → α → Prop} {w : World} {v : Value} {l : List α} (hE : ∀ (w : World) (p q : Nat) (u : Value), LBox w p → ∀ b o x, E w b o x → E (w.setCell ⟨p, q, none⟩ u) b o x)
 (h : RS s bs E w v l) (hp : LBox w p) (a : Option Addr) (n c : Nat) (a' : Option Addr) (n' c' : Nat) (r t : Int) :
 RS s bs E ((((w.setCell ⟨p, 0, none⟩ (.slice a n c)).setCell ⟨p, 1, none⟩ (.slice a' n' c')).setCell ⟨p, 2, none⟩ (.int .i64 r)).setCell ⟨p, 3, none⟩ (.int .i64 t)) v l :=
 RS.write (RS.write (RS.write (RS.write h (hE _ _ _ _ hp)) (hE _ _ _ _ hp.w0)) (hE _ _ _ _ hp.w0.w1)) (hE _ _ _ _ hp.w0.w1.w2)
theorem EPart.writesL : ∀ (w : World) (p q : Nat) (u : Value), LBox w p → ∀ b o x, EPart w b o x → EPart (w.setCell ⟨p, q, none⟩ u) b o x := fun _ _ _ _ h _ _ _ => EPart.writeL h
end Go.Proofs.YtpkpgehiplhkpaaGreat

namespace Go.Proofs.YtpkpgehiplhkpaaGreat
open Go.RowKit
end Go.Proofs.YtpkpgehiplhkpaaGreat
