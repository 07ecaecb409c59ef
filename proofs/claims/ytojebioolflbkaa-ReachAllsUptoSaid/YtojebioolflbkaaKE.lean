/-
  Lists of records (Entry): how one lies, where a key is, and the library's IndexFunc on them. The Copy of a list of records (Entry): a row of this call's own, with slices of its own. slices.Delete on a full row of records (Entry) that the call owns. The reference's copy of a list of records (Entry): a row of this call's own, with slices of its own. The reference's place of a key among Entrys; and what its Drop does. The laws' comparing of two lists of records (Entry): two slices that read as one list are the same. A list of records (Entry) that the call owns is read.
-/
import Derived.Test.YtojebioolflbkaaBas
import Derived.Test.YtojebioolflbkaaCl
import Derived.Shelf.Abstract
import Derived.StillTailTactics
import Derived.Deep.RegionHeld3
import Derived.StillTactics
import Derived.OwnWalk
import Derived.Tactics2
namespace Go.Proofs.Ytojebioolflbkaa
open Go.RowKit

def cEntry (x : Entry) (dv : Value) : List Value := [.string x.key, dv, .int .i64 x.pins, .int .i64 x.stamp]
def okEntry (x : Entry) : Prop := x.key.size ≤ 140737488351232 ∧ (Lit.int .i64 x.pins).wf = true ∧ (Lit.int .i64 x.stamp).wf = true
theorem cEntry_len (x : Entry) (v : Value) : (cEntry x v).length = 4 := rfl
theorem xcEntry_len (r : XR Entry) : (xc cEntry (·.parts) r).length = 4 := rfl
theorem xcEntry_one (r : XR Entry) (u : Value) (h : u ∈ xc cEntry (·.parts) r) : u.oneCell' = true := by
  simp [xc, cEntry, XR.v] at h
  rcases h with rfl | rfl | rfl | rfl <;> rfl
theorem flat_cEntry : Flat 4 (xc cEntry (·.parts)) (ERaw (xc cEntry (·.parts))) := flat_raw (by decide) xcEntry_len xcEntry_one
theorem EEntry_iff (w : World) (b o : Nat) (x : Entry) : EEntry w b o x ↔ EX cEntry (·.parts) 3 40 EPart okEntry w b o x := by
  constructor
  · rintro ⟨dv, h0, h1, h2, h3, h5, h6⟩
    refine ⟨dv, fun j u hj => ?_, h5, h6⟩
    rcases j with _ | _ | _ | _ | j <;> simp [cEntry] at hj <;> subst hj <;> assumption
  · rintro ⟨dv, h, h5, h6⟩
    exact ⟨dv, h 0 _ rfl, h 1 _ rfl, h 2 _ rfl, h 3 _ rfl, h5, h6⟩
/-- A list that reads so is a row of raw records. -/
theorem raw_E {w : World} {v : Value} {l : List Entry} (h : RE w v l) :
    ∃ rs : List (XR Entry), rs.map (·.x) = l ∧ RS 4 56 (ERaw (xc cEntry (·.parts))) w v rs ∧ ∀ r ∈ rs, RP w (r.v (·.parts)) r.x.parts ∧ okEntry r.x :=
  raw_of (RS.iff (fun b o x hx => (EEntry_iff w b o x).1 hx) h)
/-- A row that the call owns from block B on, of records whose slices it owns too. -/
def OEntry (w : World) (B : Nat) (v : Value) (l : List Entry) : Prop := OX 82 4 cEntry (·.parts) (CO 84 3 cPart B) w B v l
theorem reads_E {w : World} {B : Nat} {v : Value} {l : List Entry} (h : OEntry w B v l) (hb : l.length * 56 ≤ 140737488351232) (hC : ∀ x v, x ∈ l → CO 84 3 cPart B w v x.parts → RP w v x.parts) (ho : ∀ x ∈ l, okEntry x) : RE w v l :=
  RS.iff (fun b o x hx => (EEntry_iff w b o x).2 hx) (OX.reads (by decide) xcEntry_len h hb hC ho)

end Go.Proofs.Ytojebioolflbkaa

namespace Go.Proofs.Ytojebioolflbkaa
open Go.RowKit

theorem info_E : (Try.prog.info? 82).map (fun i => (i.zero, i.size, i.bytes)) = some (some (.agg #[.string ⟨#[]⟩, .slice none 0 0, .int .i64 0, .int .i64 0]), 4, 56) := by kernel_rfl

/-- What Copy answers: a full row of its own. -/
def CopiedEntry (l : List Entry) (w : World) (e : Ending) (w' : World) : Prop :=
  e = .returned (.slice (some ⟨w.heap.size, 0, none⟩) l.length l.length) ∧ OEntry w' w.heap.size (.slice (some ⟨w.heap.size, 0, none⟩) l.length l.length) l ∧ Below w.heap.size w w'

end Go.Proofs.Ytojebioolflbkaa

namespace Go.Proofs.Ytojebioolflbkaa
open Go.RowKit

/-- What Delete leaves: the row without place i. -/
def DeletedEntry (l : List Entry) (i B : Nat) (w : World) (e : Ending) (w' : World) : Prop :=
  ∃ c, e = .returned (.slice (some ⟨B, 0, none⟩) (l.length - 1) c) ∧ OEntry w' B (.slice (some ⟨B, 0, none⟩) (l.length - 1) c) (l.take i ++ l.drop (i + 1)) ∧ Below B w w'

end Go.Proofs.Ytojebioolflbkaa

namespace Go.Proofs.Ytojebioolflbkaa
open Go.RowKit

def RCopiedEntry (l : List Entry) (w : World) (e : Ending) (w' : World) : Prop :=
  ∃ v', e = .returned v' ∧ OEntry w' w.heap.size v' l ∧ Below w.heap.size w w'

end Go.Proofs.Ytojebioolflbkaa

namespace Go.Proofs.Ytojebioolflbkaa
open Go.RowKit

end Go.Proofs.Ytojebioolflbkaa

namespace Go.Proofs.Ytojebioolflbkaa
open Go.RowKit

end Go.Proofs.Ytojebioolflbkaa

namespace Go.Proofs.Ytojebioolflbkaa
open Go.RowKit

/-- A record no part of which is larger than an argument may be. -/
def FitEntry (x : Entry) : Prop := okEntry x ∧ x.parts.length * 40 ≤ 140737488351232 ∧ ∀ p ∈ x.parts, p.name.size ≤ 140737488351232 ∧ p.digest.size ≤ 140737488351232 ∧ (Lit.int .i64 p.size).wf = true
theorem fit_E {w : World} {v : Value} {l : List Entry} (h : RE w v l) : ∀ x ∈ l, FitEntry x := by
  intro x hx
  obtain ⟨i, hi⟩ := List.getElem?_of_mem hx
  obtain ⟨a, c, rfl, _, _, _, _, hat⟩ := h
  obtain ⟨b, o, _, _, he⟩ := hat i x hi
  obtain ⟨dv, _, _, _, _, rdv, okx⟩ := he
  obtain ⟨_, _, _, _, _, hr, _, hat⟩ := rdv
  refine ⟨okx, hr, fun p hp => ?_⟩
  obtain ⟨j, hj⟩ := List.getElem?_of_mem hp
  obtain ⟨_, _, _, _, _, _, _, q⟩ := hat j p hj
  exact q
theorem OEntry.toR {w : World} {B : Nat} {v : Value} {l : List Entry} (h : OEntry w B v l) (hb : l.length * 56 ≤ 140737488351232) (hf : ∀ x ∈ l, FitEntry x) : RE w v l :=
  reads_E h hb (fun x _ hx hc => reads_part hc (hf x hx).2.1 (hf x hx).2.2) (fun x hx => (hf x hx).1)
end Go.Proofs.Ytojebioolflbkaa
