/-
  Laws on an owned row: append where there is room, clear behind its end. No function of the program is named here.
-/
import Derived.Test.YtaojfpgbpakmpaaRec
import Derived.Lib.SliceRun
namespace Go.Proofs.Ytaojfpgbpakmpaa
open Go.RowKit

/-- A prefix of an owned row, in the same block. -/
theorem OS.upto {α : Type} {e : TypeId} {s : Nat} {cells : α → List Value} {w : World} {B g n cap : Nat} {l : List α} (hl : ∀ x, (cells x).length = s) (h : OS e s cells w B (.slice (some ⟨g, 0, none⟩) n cap) l) (k : Nat) (hk : k ≤ n) :
    OS e s cells w B (.slice (some ⟨g, 0, none⟩) k cap) (l.take k) := by
  obtain ⟨h1, h2⟩ := h
  rcases h2 with ⟨h2, _⟩ | ⟨g', cap', cur, hv, hg, hh, hnc, hcm, hcs, htake⟩
  · cases h2
  · simp only [Value.slice.injEq, Option.some.injEq, Addr.mk.injEq, and_true] at hv
    obtain ⟨rfl, rfl, rfl⟩ := hv
    have hlt : (l.take k).length = k := by rw [List.length_take]; omega
    have hfl := flat_len hl (l.take k)
    rw [hlt] at hfl
    refine ⟨by rw [hlt]; exact hfl, .inr ⟨g, cap, cur, by rw [hlt], hg, hh, by rw [hlt]; omega, hcm, hcs, ?_⟩⟩
    rw [hlt]
    have e1 : l.flatMap cells = (l.take k).flatMap cells ++ (l.drop k).flatMap cells := by rw [← List.flatMap_append, List.take_append_drop]
    rw [e1] at htake
    have hmin : k * s ≤ l.length * s := Nat.mul_le_mul_right _ hk
    have e2 := congrArg (List.take (k * s)) htake
    rw [List.take_take, Nat.min_eq_left hmin, ← hfl, List.take_left] at e2
    rw [← hfl]
    exact e2

/-- append(out, x...) where out is owned and has room: the row stays where it is. -/
theorem run_append_roomL {α : Type} {P : Program} {w : World} {s bs : Nat} {cells : α → List Value} {E : World → Nat → Nat → α → Prop} (F : Flat s cells E) (t ty e : TypeId) (i : TypeInfo) (ht : P.underlying t = some (.slice e)) (hi : P.info? e = some i) (hsize : i.size = s)
    (B g n cap : Nat) (l : List α) (hown : OS e s cells w B (.slice (some ⟨g, 0, none⟩) n cap) l) (u : Value) (m : List α) (hsrc : RS s bs E w u m) (hroom : n + m.length ≤ cap) :
    ∃ w', (Builtin.append_ #[t, t] ty #[.slice (some ⟨g, 0, none⟩) n cap, u]).run P w = .ok (.slice (some ⟨g, 0, none⟩) (n + m.length) cap) w' ∧
        OS e s cells w' B (.slice (some ⟨g, 0, none⟩) (n + m.length) cap) (l ++ m) ∧ w.grownBy w' (some g) := by
  obtain ⟨h1, h2⟩ := hown
  rcases h2 with ⟨h2, _⟩ | ⟨g', cap', cur, hv, hg, hh, hnc, hcm, hcs, htake⟩
  · cases h2
  · simp only [Value.slice.injEq, Option.some.injEq, Addr.mk.injEq, and_true] at hv
    obtain ⟨rfl, rfl, rfl⟩ := hv
    subst hsize
    have hfm := flat_len F.len m
    have hfl := flat_len F.len l
    have hone : ∀ u ∈ m.flatMap cells, u.oneCell' = true := by
      intro u hu
      obtain ⟨x, _, hux⟩ := List.mem_flatMap.1 hu
      exact F.one x u hux
    rcases hsrc.cells F with ⟨rfl, rfl⟩ | ⟨ad, c, rfl, hc⟩
    · refine ⟨w, ?_, ⟨by simpa using h1, .inr ⟨g, cap, cur, by simp, hg, hh, by simpa using hnc, hcm, hcs, by simpa using htake⟩⟩, ⟨rfl, rfl, rfl, Nat.le_refl _, fun _ _ _ => rfl⟩⟩
      have hn : l.length ≤ cap := hnc
      simp [Builtin.append_, run_underlying ht, sizeOf, typeInfo, hi, Builtin.lenOf, Builtin.firstCells, loadCells, storeCells, hn]
    · have hfit : l.length * i.size + (m.flatMap cells).length ≤ cur.size := by rw [hfm, hcs, ← Nat.add_mul]; exact Nat.mul_le_mul_right _ hroom
      have hr := run_append_room (P := P) w t ty e i ht hi g l.length cap cur hh ad m.length c (m.flatMap cells) hfm hc hone hroom hfit
      refine ⟨_, hr, ⟨?_, .inr ⟨g, cap, _, by rw [List.length_append], hg, setRow_heap w g cur _ e _ hh, by rw [List.length_append]; exact hroom, hcm, ?_, ?_⟩⟩, ⟨rfl, rfl, rfl, by simp, fun k _ hk => setRow_other w g k _ (fun e => hk (by simp [e]))⟩⟩
      · rw [flat_len F.len]
      · simp only [List.size_toArray, List.length_append, List.length_take, List.length_drop, Array.length_toList]
        omega
      · rw [htake, List.flatMap_append, List.length_append, Nat.add_mul, ← hfm, ← hfl, ← List.length_append]
        exact List.take_left
theorem wpL_append_room {α : Type} {P : Program} {w : World} {ops : Array Oper} {rest : List Oper} {o : Oper} {a : Act} {Q : Exit → Act → World → Prop} {s bs : Nat} {cells : α → List Value} {E : World → Nat → Nat → α → Prop} (F : Flat s cells E)
    (hgd : o.guard = none) (x y : Operand) (t : TypeId) (ho : o.op = .call { callee := .builtin .append, args := #[x, y], argTypes := #[t, t] })
    (e : TypeId) (i : TypeInfo) (ht : P.underlying t = some (.slice e)) (hi : P.info? e = some i) (hsize : i.size = s)
    (B g n cap : Nat) (l : List α) (hs : a.eval x = .slice (some ⟨g, 0, none⟩) n cap) (hown : OS e s cells w B (.slice (some ⟨g, 0, none⟩) n cap) l) (u : Value) (m : List α) (hx : a.eval y = u) (hsrc : RS s bs E w u m)
    (hroom : n + m.length ≤ cap)
    (h : ∀ w', OS e s cells w' B (.slice (some ⟨g, 0, none⟩) (n + m.length) cap) (l ++ m) → w.grownBy w' (some g) → wpList P ops Q rest (a.put o.dst (.slice (some ⟨g, 0, none⟩) (n + m.length) cap)) w') : wpList P ops Q (o :: rest) a w := by
  obtain ⟨w', hr, hO, hG⟩ := run_append_roomL (P := P) F t o.type e i ht hi hsize B g n cap l hown u m hsrc hroom
  refine wpList_plain hgd fun K hK => ?_
  unfold Oper.wp execOp
  simp only [ho, resolve, invoke, builtin, Sem.run_bind, Sem.run_pure, Result.andThen_ok, List.map_toArray, List.map_cons, List.map_nil, hs, hx, hr]
  exact hK _ _ (h w' hO hG)
/-- The same as a step of a region that draws its order. -/
theorem stepL_append_room {α : Type} {P : Program} {w : World} {ops : Array Oper} {o : Oper} {a : Act} {K : Act → World → Prop} {Q : Exit → Act → World → Prop} {X : Prop} {s bs : Nat} {cells : α → List Value} {E : World → Nat → Nat → α → Prop} (F : Flat s cells E)
    (hgd : o.guard = none) (x y : Operand) (t : TypeId) (ho : o.op = .call { callee := .builtin .append, args := #[x, y], argTypes := #[t, t] })
    (e : TypeId) (i : TypeInfo) (ht : P.underlying t = some (.slice e)) (hi : P.info? e = some i) (hsize : i.size = s)
    (B g n cap : Nat) (l : List α) (hs : a.eval x = .slice (some ⟨g, 0, none⟩) n cap) (hown : OS e s cells w B (.slice (some ⟨g, 0, none⟩) n cap) l) (u : Value) (m : List α) (hx : a.eval y = u) (hsrc : RS s bs E w u m)
    (hroom : n + m.length ≤ cap)
    (h : ∀ w', OS e s cells w' B (.slice (some ⟨g, 0, none⟩) (n + m.length) cap) (l ++ m) → w.grownBy w' (some g) → K (a.put o.dst (.slice (some ⟨g, 0, none⟩) (n + m.length) cap)) w') : if Region.wanted o (yielded ops a.tmps) = true then Oper.wp P o a w K Q else X := by
  have hw : Region.wanted o (yielded ops a.tmps) = true := by simp [Region.wanted, hgd]
  rw [if_pos hw]
  obtain ⟨w', hr, hO, hG⟩ := run_append_roomL (P := P) F t o.type e i ht hi hsize B g n cap l hown u m hsrc hroom
  unfold Oper.wp execOp
  simp only [ho, resolve, invoke, builtin, Sem.run_bind, Sem.run_pure, Result.andThen_ok, List.map_toArray, List.map_cons, List.map_nil, hs, hx, hr]
  exact h w' hO hG
/-- append onto an owned row, with room or without, as a step of a region that draws its order. -/
theorem stepL_append {α : Type} {P : Program} {w : World} {ops : Array Oper} {o : Oper} {a : Act} {K : Act → World → Prop} {Q : Exit → Act → World → Prop} {X : Prop} {s bs : Nat} {cells : α → List Value} {E : World → Nat → Nat → α → Prop} (F : Flat s cells E)
    (hgd : o.guard = none) (x y : Operand) (t : TypeId) (ho : o.op = .call { callee := .builtin .append, args := #[x, y], argTypes := #[t, t] })
    (e : TypeId) (i : TypeInfo) (z : Value) (ht : P.underlying t = some (.slice e)) (hi : P.info? e = some i) (hz : i.zero = some z) (hsize : i.size = s) (hby : i.bytes = bs) (hzs : z.cells.size = s)
    (B : Nat) (v : Value) (l : List α) (hs : a.eval x = v) (hown : OS e s cells w B v l) (u : Value) (m : List α) (hx : a.eval y = u) (hsrc : RS s bs E w u m)
    (hlen : (l.length + m.length) * bs ≤ 140737488355328) (hmax : l.length + m.length ≤ maxLen) (hB : B ≤ w.heap.size)
    (h : ∀ v' w', OS e s cells w' B v' (l ++ m) → w.grownBy w' v.ownBlock → K (a.put o.dst v') w') : if Region.wanted o (yielded ops a.tmps) = true then Oper.wp P o a w K Q else X := by
  have hw : Region.wanted o (yielded ops a.tmps) = true := by simp [Region.wanted, hgd]
  rw [if_pos hw]
  rcases hsrc.cells F with ⟨rfl, rfl⟩ | ⟨ad, c, rfl, hc⟩
  · obtain ⟨w', hr, hO, hG⟩ : ∃ w', (Builtin.append_ #[t, t] o.type #[v, .slice none 0 0]).run P w = .ok v w' ∧ OS e s cells w' B v l ∧ w.grownBy w' v.ownBlock := by
      refine ⟨w, ?_, hown, ⟨rfl, rfl, rfl, Nat.le_refl _, fun _ _ _ => rfl⟩⟩
      rcases hown.2 with ⟨rfl, hn⟩ | ⟨g, cap, cur, rfl, _, hh, hnc, _⟩
      · simp [Builtin.append_, run_underlying ht, sizeOf, typeInfo, hi, Builtin.lenOf, Builtin.firstCells]
      · have hn : l.length ≤ cap := hnc
        simp [Builtin.append_, run_underlying ht, sizeOf, typeInfo, hi, Builtin.lenOf, Builtin.firstCells, loadCells, storeCells, hn]
    unfold Oper.wp execOp
    simp only [ho, resolve, invoke, builtin, Sem.run_bind, Sem.run_pure, Result.andThen_ok, List.map_toArray, List.map_cons, List.map_nil, hs, hx, hr]
    exact h v w' (by simpa using hO) hG
  · refine wp_append_own (P := P) w x y t ho B e i z s bs ht hi hz hsize hby hzs F.pos v l.length (l.flatMap cells) hs hown ad m.length c (m.flatMap cells) hx (flat_len F.len m) hc ?_ hmax hlen hB ?_
    · intro u hu
      obtain ⟨x, _, hux⟩ := List.mem_flatMap.1 hu
      exact F.one x u hux
    · intro v' w' h1 h2 _
      exact h v' w' (by unfold OS; rw [List.length_append, List.flatMap_append]; exact h1) h2

/-- clear on cells behind an owned row's end. -/
theorem clear_own {α : Type} {P : Program} {w : World} {s : Nat} {cells : α → List Value} {e t : TypeId} {z : Value} (ht : P.underlying t = some (.slice e)) (hv : ∀ w, (zeroValue e).run P w = .ok z w) (hz : z.cells.size = s) (h1 : z.cells.all (·.oneCell') = true)
    {B g n cap : Nat} {l : List α} (hown : OS e s cells w B (.slice (some ⟨g, 0, none⟩) n cap) l) (k c : Nat) (hk : 0 < k) (hroom : n + k ≤ cap) :
    ∃ w', (∀ ty, (Builtin.clear_ #[t] ty #[.slice (some ⟨g, n * s, none⟩) k c]).run P w = .ok (.tuple #[]) w') ∧ OS e s cells w' B (.slice (some ⟨g, 0, none⟩) n cap) l ∧ w.grownBy w' (some g) := by
  obtain ⟨h0, h2⟩ := hown
  rcases h2 with ⟨h2, _⟩ | ⟨g', cap', cur, hvv, hg, hh, hnc, hcm, hcs, htake⟩
  · cases h2
  · simp only [Value.slice.injEq, Option.some.injEq, Addr.mk.injEq, and_true] at hvv
    obtain ⟨rfl, rfl, rfl⟩ := hvv
    have hzl : (Builtin.zeroCells z.cells k).toList.length = k * s := by rw [Array.length_toList, size_zeroCells, hz]
    have hone : ∀ v ∈ (Builtin.zeroCells z.cells k).toList, v.oneCell' = true := by
      intro v hv
      simp only [Builtin.zeroCells, Array.toList_map, List.mem_map] at hv
      obtain ⟨i, hi, rfl⟩ := hv
      have hpos : 0 < z.cells.size := by
        rcases Nat.eq_zero_or_pos z.cells.size with h | h
        · rw [h] at hi; simp at hi
        · exact h
      rw [Array.all_eq_true] at h1
      have hlt := Nat.mod_lt i hpos
      have := h1 (i % z.cells.size) hlt
      rw [getElem!_pos z.cells _ hlt]
      exact this
    have hst := run_storeCells_at P g (l.length * s) e (Builtin.zeroCells z.cells k).toList 0 cur w hh (by rw [hzl, hcs, Nat.add_zero, ← Nat.add_mul]; exact Nat.mul_le_mul_right _ hroom) hone
    obtain ⟨j, rfl⟩ : ∃ j, k = j + 1 := ⟨k - 1, by omega⟩
    rw [Nat.add_zero] at hst
    generalize hnew : (List.take (l.length * s) cur.toList ++ (Builtin.zeroCells z.cells (j + 1)).toList ++ List.drop (l.length * s + (Builtin.zeroCells z.cells (j + 1)).toList.length) cur.toList).toArray = new at hst
    have hns : new.size = cap * s := by
      rw [← hnew]
      simp only [List.size_toArray, List.length_append, List.length_take, List.length_drop, Array.length_toList, hcs]
      rw [Array.length_toList] at hzl
      have h9 : (l.length + (j + 1)) * s ≤ cap * s := Nat.mul_le_mul_right _ hroom
      rw [Nat.add_mul] at h9
      omega
    have hnt : new.toList.take (l.length * s) = l.flatMap cells := by
      rw [← hnew, htake]
      simp only [List.append_assoc]
      have h9 : (l.flatMap cells).length = l.length * s := h0
      rw [← h9]
      exact List.take_left
    refine ⟨w.setRow g new, fun ty => ?_, ⟨h0, .inr ⟨g, cap, new, rfl, hg, setRow_heap w g cur _ e _ hh, hnc, hcm, hns, hnt⟩⟩, ⟨rfl, rfl, rfl, by simp, fun q _ hq => setRow_other w g q _ (fun e => hq (by simp [e]))⟩⟩
    simp [Builtin.clear_, run_underlying ht, hv, hst]

/-- An empty slice in a new block of no cells. -/
theorem os_empty' {α : Type} {s : Nat} {cells : α → List Value} (w : World) (t : TypeId) (B k : Nat) (hk : k = w.heap.size) (hB : B ≤ w.heap.size) : OS t s cells (w.alloc (.cells #[] t)) B (.slice (some ⟨k, 0, none⟩) 0 0) [] := by
  subst hk
  exact ⟨by simp, .inr ⟨w.heap.size, 0, #[], rfl, hB, heap_alloc_new w _, by simp, by simp [maxLen], by simp, by simp⟩⟩
/-- A row of one record, just made. -/
theorem row_one {ρ : Type} {cells : ρ → List Value} {s bs : Nat} (W : World) (T : TypeId) (r : ρ) (A : Array Value) (k : Nat) (hk : k = W.heap.size) (hA : A.toList = cells r) (hbs : bs ≤ 140737488351232) : RS s bs (ERaw cells) (W.alloc (.cells A T)) (.slice (some ⟨k, 0, none⟩) 1 1) [r] := by
  subst hk
  refine ⟨_, _, rfl, by simp, by simp [maxLen], by simpa using hbs, fun h => by simp at h, fun j x hj => ⟨W.heap.size, 0, rfl, by simp, ?_⟩⟩
  obtain rfl : j = 0 := by have := (List.getElem?_eq_some_iff.1 hj).1; simp at this; omega
  simp only [List.getElem?_cons_zero, Option.some.injEq] at hj
  subst hj
  intro i u hi
  rw [cell_of_row _ _ _ _ _ _ (heap_alloc_new W _), ← hi, ← hA]
  simp

/-- An owned row stays while the world grows. -/
theorem OS.grew {α : Type} {e : TypeId} {s B : Nat} {cells : α → List Value} {w w' : World} {v : Value} {l : List α} (h : OS e s cells w B v l) (hg : w.grownBy w' none) : OS e s cells w' B v l :=
  World.ownsRow.kept (row := none) h hg (by cases hv : v.ownBlock <;> simp)
/-- An owned row stays while an older block is written. -/
theorem OS.setOld {α : Type} {e : TypeId} {s B q o : Nat} {cells : α → List Value} {w : World} {v u : Value} {l : List α} (h : OS e s cells w B v l) (hq : q < B) : OS e s cells (w.setCell ⟨q, o, none⟩ u) B v l := by
  refine World.ownsRow.kept (row := some q) h ⟨rfl, rfl, rfl, by simp [World.setCell], fun k _ hk => Below.heap_setCell _ _ _ _ (fun e => hk (by simp [e]))⟩ (Or.inr fun hb => ?_)
  have := (World.ownsRow.lt h q hb).1
  omega

/-- Two owned rows of records, one behind the other. -/
theorem OX.join {α β : Type} {e e' : TypeId} {s s' B : Nat} {cells : α → Value → List Value} {comp : α → List β} {cells' : β → List Value} {W w' : World} {v v' : Value} {rs r2 : List (XR α)}
    (hO : OS e s (xc cells comp) w' B v' (rs ++ r2)) (hg : W.grownBy w' v.ownBlock) (hv : OS e s (xc cells comp) W B v rs) (hne : e ≠ e')
    (hc : ∀ q ∈ rs, CO e' s' cells' B W (q.v comp) (comp q.x)) (hr : ∀ q ∈ r2, CO e' s' cells' B W (q.v comp) (comp q.x)) : OX e s cells comp (CO e' s' cells' B) w' B v' (rs.map (·.x) ++ r2.map (·.x)) := by
  refine ⟨rs ++ r2, by simp, hO, fun q hq => ?_⟩
  rcases List.mem_append.1 hq with hq | hq
  · exact OS.apart hv (hc q hq) hne hg
  · exact OS.apart hv (hr q hq) hne hg
/-- An owned row of records has grown by one. -/
theorem OX.grow {α β : Type} {e e' : TypeId} {s s' B : Nat} {cells : α → Value → List Value} {comp : α → List β} {cells' : β → List Value} {W w' : World} {v v' : Value} {rs : List (XR α)} {r : XR α}
    (hO : OS e s (xc cells comp) w' B v' (rs ++ [r])) (hg : W.grownBy w' v.ownBlock) (hv : OS e s (xc cells comp) W B v rs) (hne : e ≠ e')
    (hc : ∀ q ∈ rs, CO e' s' cells' B W (q.v comp) (comp q.x)) (hr : CO e' s' cells' B W (r.v comp) (comp r.x)) : OX e s cells comp (CO e' s' cells' B) w' B v' (rs.map (·.x) ++ [r.x]) := by
  refine ⟨rs ++ [r], by simp, hO, fun q hq => ?_⟩
  rcases List.mem_append.1 hq with hq | hq
  · exact OS.apart hv (hc q hq) hne hg
  · simp only [List.mem_singleton] at hq
    subst hq
    exact OS.apart hv hr hne hg
theorem frozen_heap {w : World} {b : Nat} {cs : Array Value} {T : TypeId} (h : w.heap[b]? = some (.cells cs T (0, 0))) (o : Nat) : w.frozen? ⟨b, o, none⟩ = false := by
  simp [World.frozen?, h]
theorem box3f {w : World} {b : Nat} {c0 c1 c2 : Value} {T : TypeId} (h : w.heap[b]? = some (.cells #[c0, c1, c2] T (0, 0))) : w.cell? ⟨b, 0, none⟩ = some c0 ∧ w.cell? ⟨b, 1, none⟩ = some c1 ∧ w.cell? ⟨b, 2, none⟩ = some c2 ∧
    w.frozen? ⟨b, 0, none⟩ = false ∧ w.frozen? ⟨b, 1, none⟩ = false ∧ w.frozen? ⟨b, 2, none⟩ = false :=
  ⟨cell_of_row _ _ 0 _ _ _ h, cell_of_row _ _ 1 _ _ _ h, cell_of_row _ _ 2 _ _ _ h, frozen_heap h 0, frozen_heap h 1, frozen_heap h 2⟩
end Go.Proofs.Ytaojfpgbpakmpaa
