/-
  A list of records (Flight) that the call owns is read.
-/
import Derived.Test.YtaojfpgbpakmpaaDelF
import Derived.Test.YtaojfpgbpakmpaaAtF
namespace Go.Proofs.Ytaojfpgbpakmpaa
open Go.RowKit

/-- A record no part of which is larger than an argument may be. -/
def FitFlight (x : Flight) : Prop := okFlight x ∧ x.waiters.length * 8 ≤ 140737488351232 ∧ ∀ n ∈ x.waiters, (Lit.int .i64 n).wf = true
theorem fit_F {w : World} {v : Value} {l : List Flight} (h : RF w v l) : ∀ x ∈ l, FitFlight x := by
  intro x hx
  obtain ⟨i, hi⟩ := List.getElem?_of_mem hx
  obtain ⟨a, c, rfl, _, _, _, _, hat⟩ := h
  obtain ⟨b, o, _, _, he⟩ := hat i x hi
  obtain ⟨dv, _, _, _, rdv, okx⟩ := he
  obtain ⟨_, _, _, _, _, hr, _, hat⟩ := rdv
  refine ⟨okx, hr, fun p hp => ?_⟩
  obtain ⟨j, hj⟩ := List.getElem?_of_mem hp
  obtain ⟨_, _, _, _, _, q⟩ := hat j p hj
  exact q
theorem OFlight.toR {w : World} {B : Nat} {v : Value} {l : List Flight} (h : OFlight w B v l) (hb : l.length * 48 ≤ 140737488351232) (hf : ∀ x ∈ l, FitFlight x) : RF w v l :=
  reads_F h hb (fun x v hx hc => OS.reads (cells := cI) (fun _ => rfl) (by decide) (fun b o n hn hc => ⟨hc 0 (by omega), (hf x hx).2.2 n hn⟩) hc (hf x hx).2.1) (fun x hx => (hf x hx).1)
end Go.Proofs.Ytaojfpgbpakmpaa
