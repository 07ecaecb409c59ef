/-
  The law of append, saying besides where the new row lies.
-/
import Derived.Test.YtaojfpgbpakmpaaOwn
import Derived.Maps.AppendAt
import Derived.Deep.AppendLies
namespace Go.Proofs.Ytaojfpgbpakmpaa
open Go.RowKit

theorem wpL_append_at {α : Type} {P : Program} {w : World} {ops : Array Oper} {rest : List Oper} {o : Oper} {a : Act} {Q : Exit → Act → World → Prop} {s bs : Nat} {cells : α → List Value} {E : World → Nat → Nat → α → Prop} (F : Flat s cells E)
    (hgd : o.guard = none) (x y : Operand) (t : TypeId) (ho : o.op = .call { callee := .builtin .append, args := #[x, y], argTypes := #[t, t] })
    (e : TypeId) (i : TypeInfo) (z : Value) (ht : P.underlying t = some (.slice e)) (hi : P.info? e = some i) (hz : i.zero = some z) (hsize : i.size = s) (hby : i.bytes = bs) (hzs : z.cells.size = s)
    (B : Nat) (v : Value) (l : List α) (hs : a.eval x = v) (hown : OS e s cells w B v l) (u : Value) (m : List α) (hx : a.eval y = u) (hsrc : RS s bs E w u m)
    (hlen : (l.length + m.length) * bs ≤ 140737488355328) (hmax : l.length + m.length ≤ maxLen) (hB : B ≤ w.heap.size)
    (h : ∀ v' w', OS e s cells w' B v' (l ++ m) → w.grownBy w' v.ownBlock → (v'.ownBlock = v.ownBlock ∨ v'.ownBlock = some w.heap.size) → wpList P ops Q rest (a.put o.dst v') w') : wpList P ops Q (o :: rest) a w := by
  rcases hsrc.cells F with ⟨rfl, rfl⟩ | ⟨ad, c, rfl, hc⟩
  · refine wpList_append_own_none hgd x y t ho B e i s ht hi v l.length _ hs hown hx ?_
    refine h v w (by simpa using hown) ⟨rfl, rfl, rfl, Nat.le_refl _, fun _ _ _ => rfl⟩ (.inl rfl)
  · refine wpList_append_own_at w hgd x y t ho B e i z s bs ht hi hz hsize hby hzs F.pos v l.length _ hs hown ad m.length c (m.flatMap cells) hx (flat_len F.len m) hc ?_ hmax hlen hB ?_
    · intro u hu
      obtain ⟨x, _, hux⟩ := List.mem_flatMap.1 hu
      exact F.one x u hux
    · intro v' w' h1 h2 _ h4
      exact h v' w' (by unfold OS; rw [List.length_append, List.flatMap_append]; exact h1) h2 h4

/-- The block of an owned row lies in the heap. -/
theorem OS.lt {α : Type} {e : TypeId} {s : Nat} {cells : α → List Value} {w : World} {B : Nat} {v : Value} {l : List α} (h : OS e s cells w B v l) : ∀ k, v.ownBlock = some k → k < w.heap.size := fun k hk => (World.ownsRow.lt h k hk).2
end Go.Proofs.Ytaojfpgbpakmpaa
