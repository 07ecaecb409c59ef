/-
  exec.Ask and LoftAsked: plain words. Printed by gen_exa.py.
-/
import Derived.Test.YtpcnhldlfmdlhaaGreatQxExM
namespace Go.Proofs.YtpcnhldlfmdlhaaGreat
open Go.RowKit

/-- A loft, the parts, whether one leads, and what is wrong. -/
structure AkOut where
  err : Int
  store : Store
  coll : Coll
  flights : List Flight
  parts : List Part
  is : Bool
def noAk (n : Int) : AkOut := ⟨n, noStore, noColl, [], [], false⟩
def AkRes (o : AkOut) (w : World) (e : Ending) (w' : World) : Prop :=
  ∃ v1 v2 v3 v4 pv, e = .returned (.tuple #[.agg #[v1, v2, .int .i64 o.store.room, .int .i64 o.store.clock, .int .i64 o.coll.phase, v3, .string o.coll.place, v4], pv, .bool o.is, .int .i64 o.err]) ∧
    RBl w' v1 o.store.blobs ∧ RE w' v2 o.store.entries ∧ RT w' v3 o.coll.grey ∧ RF w' v4 o.flights ∧ RP w' pv o.parts ∧ Below w.heap.size w w'
theorem ak_no {o : AkOut} {n : Int} {w w' : World} (h : o = noAk n) (hb : Below w.heap.size w w') :
    AkRes o w (.returned (.tuple #[.agg #[.slice none 0 0, .slice none 0 0, .int .i64 0, .int .i64 0, .int .i64 0, .slice none 0 0, .string ⟨#[]⟩, .slice none 0 0], .slice none 0 0, .bool false, .int .i64 n])) w' := by
  subst h
  exact ⟨_, _, _, _, _, rfl, RS.nil, RS.nil, RS.nil, RS.nil, RS.nil, hb⟩
theorem ak_ok {o : AkOut} {bs : List Blob} {es : List Entry} {r t ph : Int} {gy : List ByteArray} {pl : ByteArray} {fl : List Flight} {P : List Part} {i : Bool} {w w' : World} {v1 v2 v3 v4 pv : Value} (h : o = ⟨0, ⟨bs, es, r, t⟩, ⟨ph, gy, pl⟩, fl, P, i⟩)
    (h1 : RBl w' v1 bs) (h2 : RE w' v2 es) (h3 : RT w' v3 gy) (h4 : RF w' v4 fl) (h5 : RP w' pv P) (hb : Below w.heap.size w w') :
    AkRes o w (.returned (.tuple #[.agg #[v1, v2, .int .i64 r, .int .i64 t, .int .i64 ph, v3, .string pl, v4], pv, .bool i, .int .i64 0])) w' := by
  subst h
  exact ⟨_, _, _, _, _, rfl, h1, h2, h3, h4, h5, hb⟩
/-- It is asked: z is wrong with the loft; f: the key is there; bad: nobody asks; ge, GS, GP: what store.Get answers; je, JL, JB: what flight.Join answers. -/
def askOut (z : Int) (f bad : Bool) (ge : Int) (GS : Store) (GP : List Part) (je : Int) (JL : List Flight) (JB : Bool) (S : Store) (C : Coll) (fl : List Flight) : AkOut :=
  if z ≠ 0 then noAk z else if f = true then (if bad = true then noAk 4 else if ge ≠ 0 then noAk ge else ⟨0, GS, C, fl, GP, false⟩) else if je ≠ 0 then noAk je else ⟨0, S, C, JL, [], JB⟩
section
variable {z ge je : Int} {f bad JB : Bool} {GS S : Store} {GP : List Part} {JL fl : List Flight} {C : Coll}
theorem ask_bad (h : z ≠ 0) : askOut z f bad ge GS GP je JL JB S C fl = noAk z := if_pos h
theorem ask_who : askOut 0 true true ge GS GP je JL JB S C fl = noAk 4 := by unfold askOut; rw [if_neg (by simp), if_pos rfl, if_pos rfl]
theorem ask_get (h : ge ≠ 0) : askOut 0 true false ge GS GP je JL JB S C fl = noAk ge := by unfold askOut; rw [if_neg (by simp), if_pos rfl, if_neg (by simp), if_pos h]
theorem ask_got : askOut 0 true false 0 GS GP je JL JB S C fl = ⟨0, GS, C, fl, GP, false⟩ := by unfold askOut; rw [if_neg (by simp), if_pos rfl, if_neg (by simp), if_neg (by simp)]
theorem ask_join (h : je ≠ 0) : askOut 0 false bad ge GS GP je JL JB S C fl = noAk je := by unfold askOut; rw [if_neg (by simp), if_neg (by simp), if_pos h]
theorem ask_joined : askOut 0 false bad ge GS GP 0 JL JB S C fl = ⟨0, S, C, JL, [], JB⟩ := by unfold askOut; rw [if_neg (by simp), if_neg (by simp), if_neg (by simp)]
end
/-- Four cells of a loft's box are written: what reads beside it stays. -/
theorem rs_l4 {α : Type} {s bs p : Nat} {E : World → Nat → Nat → α → Prop} {w : World} {v : Value} {l : List α} (hE : ∀ (w : World) (p q : Nat) (u : Value), LBox w p → ∀ b o x, E w b o x → E (w.setCell ⟨p, q, none⟩ u) b o x)
    (h : RS s bs E w v l) (hp : LBox w p) (a : Option Addr) (n c : Nat) (a' : Option Addr) (n' c' : Nat) (r t : Int) :
    RS s bs E ((((w.setCell ⟨p, 0, none⟩ (.slice a n c)).setCell ⟨p, 1, none⟩ (.slice a' n' c')).setCell ⟨p, 2, none⟩ (.int .i64 r)).setCell ⟨p, 3, none⟩ (.int .i64 t)) v l :=
  RS.write (RS.write (RS.write (RS.write h (hE _ _ _ _ hp)) (hE _ _ _ _ hp.w0)) (hE _ _ _ _ hp.w0.w1)) (hE _ _ _ _ hp.w0.w1.w2)
theorem EPart.writesL : ∀ (w : World) (p q : Nat) (u : Value), LBox w p → ∀ b o x, EPart w b o x → EPart (w.setCell ⟨p, q, none⟩ u) b o x := fun _ _ _ _ h _ _ _ => EPart.writeL h
end Go.Proofs.YtpcnhldlfmdlhaaGreat
