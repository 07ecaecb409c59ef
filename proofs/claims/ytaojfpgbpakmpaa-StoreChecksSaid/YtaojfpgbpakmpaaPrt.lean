/-
  The cells of a part. No function of the program is named here.
-/
import Derived.Test.YtaojfpgbpakmpaaOwn2
namespace Go.Proofs.Ytaojfpgbpakmpaa
open Go.RowKit

/-- The cells of a part. -/
def cPart (x : Part) : List Value := [.string x.name, .string x.digest, .int .i64 x.size]
theorem flat_part : Flat 3 cPart EPart := ⟨by decide, fun _ => rfl, fun _ u hu => by simp [cPart] at hu; rcases hu with rfl | rfl | rfl <;> rfl, fun w b o x h j hj => by
  obtain ⟨h0, h1, h2, _⟩ := h
  rcases j with _ | _ | _ | j
  · exact h0
  · exact h1
  · exact h2
  · omega⟩
theorem reads_part {e : TypeId} {w : World} {B : Nat} {v : Value} {l : List Part} (h : OS e 3 cPart w B v l) (hb : l.length * 40 ≤ 140737488351232) (ho : ∀ x ∈ l, x.name.size ≤ 140737488351232 ∧ x.digest.size ≤ 140737488351232 ∧ (Lit.int .i64 x.size).wf = true) : RP w v l :=
  OS.reads (cells := cPart) (fun _ => rfl) (by decide) (fun b o x hx hc => ⟨hc 0 (by omega), hc 1 (by omega), hc 2 (by omega), ho x hx⟩) h hb
end Go.Proofs.Ytaojfpgbpakmpaa
