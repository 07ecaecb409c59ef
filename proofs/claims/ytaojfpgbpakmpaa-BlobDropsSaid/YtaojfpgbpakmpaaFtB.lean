/-
  A list of records (Blob) that the call owns is read.
-/
import Derived.Test.YtaojfpgbpakmpaaDelB
import Derived.Test.YtaojfpgbpakmpaaAtB
namespace Go.Proofs.Ytaojfpgbpakmpaa
open Go.RowKit

/-- A record no part of which is larger than an argument may be. -/
def FitBlob (x : Blob) : Prop := okBlob x ∧ x.data.length * 1 ≤ 140737488351232
theorem fit_B {w : World} {v : Value} {l : List Blob} (h : RBl w v l) : ∀ x ∈ l, FitBlob x := by
  intro x hx
  obtain ⟨i, hi⟩ := List.getElem?_of_mem hx
  obtain ⟨a, c, rfl, _, _, _, _, hat⟩ := h
  obtain ⟨b, o, _, _, he⟩ := hat i x hi
  obtain ⟨dv, _, _, _, _, rdv, okx⟩ := he
  obtain ⟨_, _, _, _, _, hr, _⟩ := rdv
  exact ⟨okx, hr⟩
theorem OBlob.toR {w : World} {B : Nat} {v : Value} {l : List Blob} (h : OBlob w B v l) (hb : l.length * 56 ≤ 140737488351232) (hf : ∀ x ∈ l, FitBlob x) : RBl w v l :=
  reads_B h hb (fun x v hx hc => reads_u8 hc (by have := (hf x hx).2; omega)) (fun x hx => (hf x hx).1)
end Go.Proofs.Ytaojfpgbpakmpaa
