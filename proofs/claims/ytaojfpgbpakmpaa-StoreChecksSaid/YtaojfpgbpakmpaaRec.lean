/-
  Lists of structs of which one field is a slice: raw rows of cells (the slice as a value) and what they read as. No function of the program is named here.
-/
import Derived.Test.YtaojfpgbpakmpaaOwn2
import Derived.Test.YtaojfpgbpakmpaaOpen
namespace Go.Proofs.Ytaojfpgbpakmpaa
open Go.RowKit

/-- A record, and where the slice in it lies. -/
structure XR (α : Type) where
  x : α
  a : Option Addr
  c : Nat
def XR.v {α β : Type} (comp : α → List β) (r : XR α) : Value := .slice r.a (comp r.x).length r.c
def xc {α β : Type} (cells : α → Value → List Value) (comp : α → List β) (r : XR α) : List Value := cells r.x (r.v comp)

/-- The cells of a raw row. -/
def ERaw {ρ : Type} (cells : ρ → List Value) (w : World) (b o : Nat) (r : ρ) : Prop := ∀ j u, (cells r)[j]? = some u → w.cell? ⟨b, o + j, none⟩ = some u
theorem ERaw.stable {ρ : Type} {cells : ρ → List Value} : Stable (ERaw cells) := fun _ _ _ _ _ hb hlt h j u hj => cell_stays hb hlt (h j u hj)
theorem flat_raw {ρ : Type} {cells : ρ → List Value} {s : Nat} (hs : 0 < s) (hl : ∀ r, (cells r).length = s) (h1 : ∀ r u, u ∈ cells r → u.oneCell' = true) : Flat s cells (ERaw cells) :=
  ⟨hs, hl, h1, fun w b o x h j hj => by
    have hj' : j < (cells x).length := by rw [hl]; exact hj
    rw [List.getElem?_eq_getElem hj']
    exact h j _ (List.getElem?_eq_getElem hj')⟩

/-- A record of which one field is a slice, as it lies in memory. -/
def EX {α β : Type} (cells : α → Value → List Value) (comp : α → List β) (s' bs' : Nat) (E' : World → Nat → Nat → β → Prop) (ok : α → Prop) (w : World) (b o : Nat) (x : α) : Prop :=
  ∃ dv, (∀ j u, (cells x dv)[j]? = some u → w.cell? ⟨b, o + j, none⟩ = some u) ∧ RS s' bs' E' w dv (comp x) ∧ ok x

section
variable {α β : Type} {cells : α → Value → List Value} {comp : α → List β} {s bs s' bs' : Nat} {E' : World → Nat → Nat → β → Prop} {ok : α → Prop}

theorem raw_of {w : World} {v : Value} {l : List α} (h : RS s bs (EX cells comp s' bs' E' ok) w v l) :
    ∃ rs : List (XR α), rs.map (·.x) = l ∧ RS s bs (ERaw (xc cells comp)) w v rs ∧ ∀ r ∈ rs, RS s' bs' E' w (r.v comp) (comp r.x) ∧ ok r.x := by
  obtain ⟨a, c, rfl, h1, h2, hr, hn, h3⟩ := h
  obtain ⟨rs, hl, hq⟩ := list_of_lt (Q := fun i (r : XR α) => l[i]? = some r.x ∧ (∃ b off, a = some ⟨b, off, none⟩ ∧ b < w.heap.size ∧ ERaw (xc cells comp) w b (off + i * s) r) ∧ RS s' bs' E' w (r.v comp) (comp r.x) ∧ ok r.x) l.length (fun i hi => by
    obtain ⟨b, off, ha, hb, dv, hc, hd, ho⟩ := h3 i l[i] (List.getElem?_eq_getElem hi)
    obtain ⟨da, dc, rfl, -⟩ := id hd
    exact ⟨⟨l[i], da, dc⟩, List.getElem?_eq_getElem hi, ⟨b, off, ha, hb, hc⟩, hd, ho⟩)
  have hm : rs.map (·.x) = l := by
    apply List.ext_getElem?
    intro i
    rw [List.getElem?_map]
    by_cases hi : i < rs.length
    · rw [List.getElem?_eq_getElem hi]
      exact (hq i _ (List.getElem?_eq_getElem hi)).1.symm
    · rw [List.getElem?_eq_none (by omega), List.getElem?_eq_none (by omega)]; rfl
  refine ⟨rs, hm, ⟨a, c, by rw [hl], by omega, h2, by rw [hl]; exact hr, hn, fun k r hk => (hq k r hk).2.1⟩, fun r hr => ?_⟩
  obtain ⟨i, hi⟩ := List.getElem?_of_mem hr
  exact (hq i r hi).2.2

theorem of_raw {w : World} {v : Value} {rs : List (XR α)} (h : RS s bs (ERaw (xc cells comp)) w v rs) (hr : ∀ r ∈ rs, RS s' bs' E' w (r.v comp) (comp r.x) ∧ ok r.x) : RS s bs (EX cells comp s' bs' E' ok) w v (rs.map (·.x)) := by
  obtain ⟨a, c, rfl, h1, h2, hb, hn, h3⟩ := h
  refine ⟨a, c, by rw [List.length_map], by rw [List.length_map]; exact h1, h2, by rw [List.length_map]; exact hb, hn, fun k x hk => ?_⟩
  rw [List.getElem?_map] at hk
  obtain ⟨r, hk2, rfl⟩ := Option.map_eq_some_iff.1 hk
  obtain ⟨b, off, ha, hlt, he⟩ := h3 k r hk2
  obtain ⟨g1, g2⟩ := hr r (List.mem_of_getElem? hk2)
  exact ⟨b, off, ha, hlt, _, he, g1, g2⟩

/-- What a list of records reads by is the same where two ways of reading an element agree. -/
theorem RS.iff {γ : Type} {E E2 : World → Nat → Nat → γ → Prop} {w : World} {v : Value} {l : List γ} (hE : ∀ b o x, E w b o x → E2 w b o x) (h : RS s bs E w v l) : RS s bs E2 w v l := by
  obtain ⟨a, c, rfl, h1, h2, hb, hn, h3⟩ := h
  refine ⟨a, c, rfl, h1, h2, hb, hn, fun k x hk => ?_⟩
  obtain ⟨b, off, ha, hlt, he⟩ := h3 k x hk
  exact ⟨b, off, ha, hlt, hE _ _ _ he⟩

/-- v is a row of this call's own (from block B on) of records; of each record's slice C is known. -/
def OX (e : TypeId) (s : Nat) (cells : α → Value → List Value) (comp : α → List β) (C : World → Value → List β → Prop) (w : World) (B : Nat) (v : Value) (l : List α) : Prop :=
  ∃ rs : List (XR α), rs.map (·.x) = l ∧ OS e s (xc cells comp) w B v rs ∧ ∀ r ∈ rs, C w (r.v comp) (comp r.x)

variable {e : TypeId} {C : World → Value → List β → Prop}
theorem OX.nil {w : World} {B : Nat} : OX e s cells comp C w B (.slice none 0 0) [] := ⟨[], rfl, OS.nil, fun r h => by simp at h⟩
theorem OX.below {w w' : World} {B : Nat} {v : Value} {l : List α} (hC : ∀ v l, C w v l → C w' v l) (h : OX e s cells comp C w B v l) (hb : Below w.heap.size w w') : OX e s cells comp C w' B v l := by
  obtain ⟨rs, h1, h2, h3⟩ := h
  exact ⟨rs, h1, h2.below hb, fun r hr => hC _ _ (h3 r hr)⟩
theorem OX.mono {w : World} {B B' : Nat} {v : Value} {l : List α} (h : OX e s cells comp C w B v l) (hB : B' ≤ B) : OX e s cells comp C w B' v l := by
  obtain ⟨rs, h1, h2, h3⟩ := h
  exact ⟨rs, h1, h2.mono hB, h3⟩
theorem OX.to {C' : World → Value → List β → Prop} {w : World} {B : Nat} {v : Value} {l : List α} (hC : ∀ v l, C w v l → C' w v l) (h : OX e s cells comp C w B v l) : OX e s cells comp C' w B v l := by
  obtain ⟨rs, h1, h2, h3⟩ := h
  exact ⟨rs, h1, h2, fun r hr => hC _ _ (h3 r hr)⟩

/-- An owned row of records is read. -/
theorem OX.reads {w : World} {B : Nat} {v : Value} {l : List α} (hs : 0 < s) (hl : ∀ r : XR α, (xc cells comp r).length = s) (h : OX e s cells comp C w B v l) (hb : l.length * bs ≤ 140737488351232)
    (hC : ∀ x v, x ∈ l → C w v (comp x) → RS s' bs' E' w v (comp x)) (ho : ∀ x ∈ l, ok x) : RS s bs (EX cells comp s' bs' E' ok) w v l := by
  obtain ⟨rs, rfl, h2, h3⟩ := h
  rw [List.length_map] at hb
  refine of_raw (OS.reads (cells := xc cells comp) hl hs (fun b o r _ hc j u hj => ?_) h2 hb) fun r hr => ?_
  · have hlt := (List.getElem?_eq_some_iff.1 hj).1
    rw [hc j (by rw [hl] at hlt; exact hlt), hj]
  · have := List.mem_map_of_mem (f := fun r : XR α => r.x) hr
    exact ⟨hC _ _ this (h3 r hr), ho _ this⟩
end

/-- Of a slice of a record it is known that the call owns it. -/
def CO {β : Type} (e' : TypeId) (s' : Nat) (cells' : β → List Value) (B : Nat) (w : World) (v : Value) (l : List β) : Prop := OS e' s' cells' w B v l
theorem CO.below {β : Type} {e' : TypeId} {s' : Nat} {cells' : β → List Value} {B : Nat} {w w' : World} (hb : Below w.heap.size w w') : ∀ v l, CO e' s' cells' B w v l → CO e' s' cells' B w' v l := fun _ _ h => OS.below h hb
theorem OS.block_ne {β : Type} {e T : TypeId} {s B p : Nat} {cells : β → List Value} {w : World} {v : Value} {l : List β} {cs : Array Value} {fr : Nat × Nat} (h : OS e s cells w B v l) (hp : w.heap[p]? = some (.cells cs T fr)) (hT : T ≠ e) : v.ownBlock ≠ some p := by
  rcases h.2 with ⟨rfl, _⟩ | ⟨g, cap, cur, rfl, _, hg, _⟩
  · simp [Value.ownBlock]
  · intro h
    simp only [Value.ownBlock, Option.some.injEq] at h
    subst h
    rw [hg] at hp
    simp only [Option.some.injEq, Obj.cells.injEq] at hp
    exact hT hp.2.1.symm
/-- It stays while a row of another type is written. -/
theorem OS.apart {α β : Type} {e e' : TypeId} {s s' : Nat} {cells : α → List Value} {cells' : β → List Value} {B B' : Nat} {w w' : World} {v u : Value} {l : List α} {m : List β}
    (h : OS e s cells w B v l) (ho : OS e' s' cells' w B' u m) (hne : e ≠ e') (hg : w.grownBy w' v.ownBlock) : OS e' s' cells' w' B' u m := by
  rcases h.2 with ⟨rfl, _⟩ | ⟨g, cap, cur, rfl, _, hp, _⟩
  · exact World.ownsRow.kept (row := none) ho hg (by cases hv : u.ownBlock <;> simp)
  · exact World.ownsRow.kept (row := some g) ho hg (Or.inr (OS.block_ne ho hp hne))
end Go.Proofs.Ytaojfpgbpakmpaa
