/-
  A list of records (Entry) that the call owns is read.
-/
import Derived.Test.YtaojfpgbpakmpaaDelE
import Derived.Test.YtaojfpgbpakmpaaAtE
namespace Go.Proofs.Ytaojfpgbpakmpaa
open Go.RowKit

/-- A record no part of which is larger than an argument may be. -/
def FitEntry (x : Entry) : Prop := okEntry x ∧ x.parts.length * 40 ≤ 140737488351232 ∧ ∀ p ∈ x.parts, p.name.size ≤ 140737488351232 ∧ p.digest.size ≤ 140737488351232 ∧ (Lit.int .i64 p.size).wf = true
theorem fit_E {w : World} {v : Value} {l : List Entry} (h : RE w v l) : ∀ x ∈ l, FitEntry x := by
  intro x hx
  obtain ⟨i, hi⟩ := List.getElem?_of_mem hx
  obtain ⟨a, c, rfl, _, _, _, _, hat⟩ := h
  obtain ⟨b, o, _, _, he⟩ := hat i x hi
  obtain ⟨dv, _, _, _, _, rdv, okx⟩ := he
  obtain ⟨_, _, _, _, _, hr, _, hat⟩ := rdv
  refine ⟨okx, hr, fun p hp => ?_⟩
  obtain ⟨j, hj⟩ := List.getElem?_of_mem hp
  obtain ⟨_, _, _, _, _, _, _, q⟩ := hat j p hj
  exact q
theorem OEntry.toR {w : World} {B : Nat} {v : Value} {l : List Entry} (h : OEntry w B v l) (hb : l.length * 56 ≤ 140737488351232) (hf : ∀ x ∈ l, FitEntry x) : RE w v l :=
  reads_E h hb (fun x _ hx hc => reads_part hc (hf x hx).2.1 (hf x hx).2.2) (fun x hx => (hf x hx).1)
end Go.Proofs.Ytaojfpgbpakmpaa
