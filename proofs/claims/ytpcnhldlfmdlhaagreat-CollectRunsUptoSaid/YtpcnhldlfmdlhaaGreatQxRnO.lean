/-
  A list of texts of the call's own in a block that holds nothing but texts: what is appended to it leaves all else that is read.
-/
import Derived.Test.YtpcnhldlfmdlhaaGreatQxWrt
import Derived.ArgAppend
namespace Go.Proofs.YtpcnhldlfmdlhaaGreat
open Go.RowKit

/-- A block that holds nothing but texts. -/
def AllStr (w : World) (g : Nat) : Prop := ∃ (cur : Array Value) (T : TypeId), w.heap[g]? = some (.cells cur T (0, 0)) ∧ ∀ u ∈ cur.toList, ∃ s, u = Value.string s
def OStr (e : TypeId) (w : World) (B : Nat) (v : Value) (l : List ByteArray) : Prop := OS e 1 cStr w B v l ∧ ∀ g, v.ownBlock = some g → AllStr w g
theorem OStr.nil {e : TypeId} {w : World} {B : Nat} : OStr e w B (.slice none 0 0) [] := ⟨OS.nil, fun g h => by cases h⟩
theorem AllStr.cell {w : World} {g o : Nat} {v : Value} (h : AllStr w g) (hc : w.cell? ⟨g, o, none⟩ = some v) : ∃ s, v = .string s := by
  obtain ⟨cur, T, hh, hs⟩ := h
  rw [cell_of_row w g o cur T _ hh] at hc
  exact hs v (List.mem_of_getElem? (by rw [Array.getElem?_toList]; exact hc))
theorem OStr.kept {e : TypeId} {w w' : World} {B : Nat} {v : Value} {l : List ByteArray} (h : OStr e w B v l) (hk : ∀ g, v.ownBlock = some g → g < w.heap.size → w'.heap[g]? = w.heap[g]?) : OStr e w' B v l := by
  obtain ⟨⟨h1, h2⟩, h3⟩ := h
  rcases h2 with ⟨rfl, hn⟩ | ⟨g, cap, cur, rfl, hB, hh, r⟩
  · exact ⟨⟨h1, .inl ⟨rfl, hn⟩⟩, fun g hg => by cases hg⟩
  · have e1 := hk g rfl (Array.getElem?_eq_some_iff.1 hh).1
    refine ⟨⟨h1, .inr ⟨g, cap, cur, rfl, hB, e1.trans hh, r⟩⟩, fun k hk' => ?_⟩
    obtain ⟨c2, T2, q1, q2⟩ := h3 k hk'
    simp only [Value.ownBlock, Option.some.injEq] at hk'
    subst hk'
    exact ⟨c2, T2, e1.trans q1, q2⟩
theorem OStr.below {e : TypeId} {w w' : World} {B : Nat} {v : Value} {l : List ByteArray} (h : OStr e w B v l) (hb : Below w.heap.size w w') : OStr e w' B v l := h.kept fun g _ hg => hb.block g hg
theorem OStr.alloc {e : TypeId} {w : World} {B : Nat} {v : Value} {l : List ByteArray} (h : OStr e w B v l) (o : Obj) : OStr e (w.alloc o) B v l := h.kept fun _ _ hg => heap_alloc_old w o hg
theorem OStr.drew {e : TypeId} {w : World} {B : Nat} {v : Value} {l : List ByteArray} (h : OStr e w B v l) : OStr e w.drew B v l := h
/-- A cell of a block that is no block of texts is written. -/
theorem OStr.set {e T : TypeId} {w : World} {B p q : Nat} {u v : Value} {l : List ByteArray} {cs : Array Value} (h : OStr e w B v l) (hp : w.heap[p]? = some (.cells cs T (0, 0))) (hT : T ≠ e) : OStr e (w.setCell ⟨p, q, none⟩ u) B v l :=
  h.kept fun g hg _ => Below.heap_setCell _ _ _ _ (fun e1 => OS.block_ne h.1 hp hT (by rw [hg]; exact congrArg some e1))
theorem zero_strs (n : Nat) : ∀ u ∈ (Builtin.zeroCells #[.string ⟨#[]⟩] n).toList, ∃ s, u = Value.string s := by
  intro u hu
  simp only [Builtin.zeroCells, List.size_toArray, List.length_cons, List.length_nil, Nat.zero_add, Nat.mul_one, Nat.mod_one, Array.toList_map, List.mem_map] at hu
  obtain ⟨i, _, rfl⟩ := hu
  exact ⟨_, rfl⟩
theorem flat_strs (l : List ByteArray) : ∀ u ∈ l.flatMap cStr, ∃ s, u = Value.string s := by
  intro u hu
  obtain ⟨x, _, hx⟩ := List.mem_flatMap.1 hu
  simp only [cStr, List.mem_singleton] at hx
  exact ⟨x, hx⟩
theorem run_append_str {P : Program} (w : World) (B : Nat) (t ty e : TypeId) (i : TypeInfo) (ht : P.underlying t = some (.slice e)) (hi : P.info? e = some i) (hz : i.zero = some (.string ⟨#[]⟩)) (hsize : i.size = 1) (hby : i.bytes = 16)
    (v : Value) (l : List ByteArray) (hown : OStr e w B v l) (ad : Addr) (m : List ByteArray) (c : Nat) (hc : ∀ j u, (m.flatMap cStr)[j]? = some u → w.cell? (ad.add j) = some u)
    (hlen : (l.length + m.length) * 16 ≤ 140737488355328) (hmax : l.length + m.length ≤ maxLen) (hB : B ≤ w.heap.size) :
    ∃ v' w', (Builtin.append_ #[t, t] ty #[v, .slice (some ad) m.length c]).run P w = .ok v' w' ∧ OStr e w' B v' (l ++ m) ∧ w.grownBy w' v.ownBlock := by
  have hl : (m.flatMap cStr).length = m.length * 1 := flat_len flat_str.len m
  have h1 : ∀ u ∈ m.flatMap cStr, u.oneCell' = true := fun u hu => by
    obtain ⟨s, rfl⟩ := flat_strs m u hu
    rfl
  obtain ⟨v', w', hr, h2, h3, h4⟩ := run_append_own (P := P) w B t ty e i (.string ⟨#[]⟩) 1 16 ht hi hz hsize hby rfl (by decide) v l.length _ hown.1 ad m.length c (m.flatMap cStr) hl hc h1 hmax hlen hB
  refine ⟨v', w', hr, ⟨by unfold OS; rw [List.length_append, List.flatMap_append]; exact h2, fun k hk => ?_⟩, h3⟩
  have hzc : (Value.string ⟨#[]⟩).cells = #[.string ⟨#[]⟩] := rfl
  have hm63 : l.length + m.length ≤ 9223372036854775807 := by simp only [maxLen] at hmax; omega
  rcases hown.1.2 with ⟨rfl, hn⟩ | ⟨g, cap, cur, rfl, hbg, hg, hnc, hcm, hcs, htake⟩
  · by_cases hm : m.length = 0
    · obtain rfl := h4.2 ⟨rfl, hm⟩
      cases hk
    · have hr2 := run_append_nil (P := P) w t ty e i _ ht hi hz ad m.length c (m.flatMap cStr) (by rw [hsize]; exact hl) hc (by omega) (by omega) (by rw [hby]; omega)
      rw [hr] at hr2
      injection hr2 with e1 e2
      subst e1 e2
      simp only [Value.ownBlock, Option.some.injEq] at hk
      subst hk
      refine ⟨_, e, heap_alloc_new w.drew _, fun u hu => ?_⟩
      rw [Array.toList_append] at hu
      rcases List.mem_append.1 hu with hu | hu
      · exact flat_strs m u hu
      · rw [hzc] at hu; exact zero_strs _ u hu
  · obtain ⟨c2, T2, q1, q2⟩ := hown.2 g rfl
    rw [hg] at q1
    simp only [Option.some.injEq, Obj.cells.injEq, and_true] at q1
    obtain ⟨rfl, rfl⟩ := q1
    by_cases hroom : l.length + m.length ≤ cap
    · have hr2 := run_append_room (P := P) w t ty e i ht hi g l.length cap cur hg ad m.length c (m.flatMap cStr) (by rw [hsize]; exact hl) hc h1 hroom (by rw [hsize, hl, hcs]; omega)
      rw [hr] at hr2
      injection hr2 with e1 e2
      subst e1 e2
      simp only [Value.ownBlock, Option.some.injEq] at hk
      subst hk
      refine ⟨_, e, setRow_heap w g cur _ e _ hg, fun u hu => ?_⟩
      simp only [List.append_assoc] at hu
      rcases List.mem_append.1 hu with hu | hu
      · exact q2 u (List.mem_of_mem_take hu)
      · rcases List.mem_append.1 hu with hu | hu
        · exact flat_strs m u hu
        · exact q2 u (List.mem_of_mem_drop hu)
    · have holds : ∀ j u, (l.flatMap cStr)[j]? = some u → w.cell? ((⟨g, 0, none⟩ : Addr).add j) = some u := World.ownsRow.cells hown.1 (g := g) rfl
      have hr2 := run_append_grow (P := P) w t ty e i _ ht hi hz ⟨g, 0, none⟩ l.length cap (l.flatMap cStr) (by rw [hsize]; exact hown.1.1) holds ad m.length c (m.flatMap cStr) (by rw [hsize]; exact hl) hc (by omega) (by omega) (by rw [hby]; exact growslice_fits (by omega) hlen)
      rw [hr] at hr2
      injection hr2 with e1 e2
      subst e1 e2
      simp only [Value.ownBlock, Option.some.injEq] at hk
      subst hk
      refine ⟨_, e, heap_alloc_new w.drew _, fun u hu => ?_⟩
      simp only [Array.toList_append, List.append_assoc] at hu
      rcases List.mem_append.1 hu with hu | hu
      · exact flat_strs l u hu
      · rcases List.mem_append.1 hu with hu | hu
        · exact flat_strs m u hu
        · rw [hzc] at hu; exact zero_strs _ u hu
theorem wpList_append_str {P : Program} {w : World} {ops : Array Oper} {rest : List Oper} {o : Oper} {a : Act} {Q : Exit → Act → World → Prop} {E : World → Nat → Nat → ByteArray → Prop} (F : Flat 1 cStr E)
    (hgd : o.guard = none) (x y : Operand) (t : TypeId) (ho : o.op = .call { callee := .builtin .append, args := #[x, y], argTypes := #[t, t] })
    (e : TypeId) (i : TypeInfo) (ht : P.underlying t = some (.slice e)) (hi : P.info? e = some i) (hz : i.zero = some (.string ⟨#[]⟩)) (hsize : i.size = 1) (hby : i.bytes = 16)
    (B : Nat) (v : Value) (l : List ByteArray) (hs : a.eval x = v) (hown : OStr e w B v l) (u : Value) (m : List ByteArray) (hx : a.eval y = u) (hsrc : RS 1 16 E w u m) (hm : m ≠ [])
    (hlen : (l.length + m.length) * 16 ≤ 140737488355328) (hmax : l.length + m.length ≤ maxLen) (hB : B ≤ w.heap.size)
    (h : ∀ v' w', OStr e w' B v' (l ++ m) → w.grownBy w' v.ownBlock → wpList P ops Q rest (a.put o.dst v') w') : wpList P ops Q (o :: rest) a w := by
  rcases hsrc.cells F with ⟨rfl, rfl⟩ | ⟨ad, c, rfl, hc⟩
  · exact absurd rfl hm
  · refine wpList_plain hgd fun K hK => ?_
    obtain ⟨v', w', hr, h2, h3⟩ := run_append_str (P := P) w B t o.type e i ht hi hz hsize hby v l hown ad m c hc hlen hmax hB
    unfold Oper.wp execOp
    simp only [ho, resolve, invoke, builtin, Sem.run_bind, Sem.run_pure, Result.andThen_ok, List.map_toArray, List.map_cons, List.map_nil, hs, hx, hr]
    exact hK _ _ (h v' w' h2 h3)
/-! ### What is read while texts are appended -/
theorem grown_apart {w : World} {v : Value} (ha : ∀ g, v.ownBlock = some g → AllStr w g) {b o : Nat} {u : Value} (hc : w.cell? ⟨b, o, none⟩ = some u) (hu : ∀ s, u ≠ .string s) : some b ≠ v.ownBlock := by
  intro h
  obtain ⟨s, hs⟩ := (ha b h.symm).cell hc
  exact hu s hs
theorem RS.grown {α : Type} {s bs : Nat} {E : World → Nat → Nat → α → Prop} {w w' : World} {v : Value} {l : List α} (hE : ∀ b o x, E w b o x → E w' b o x) (h : RS s bs E w v l) (hs : w.heap.size ≤ w'.heap.size) : RS s bs E w' v l := by
  obtain ⟨a, c, rfl, h1, h2, hr, hn, h3⟩ := h
  refine ⟨a, c, rfl, h1, h2, hr, hn, fun k x hk => ?_⟩
  obtain ⟨b, off, rfl, hlt, he⟩ := h3 k x hk
  exact ⟨b, off, rfl, Nat.lt_of_lt_of_le hlt hs, hE _ _ _ he⟩
section
variable {w w' : World} {v : Value} (hg : w.grownBy w' v.ownBlock) (ha : ∀ g, v.ownBlock = some g → AllStr w g)
include hg ha
theorem EU8.grown {b o : Nat} {x : UInt8} (h : EU8 w b o x) : EU8 w' b o x := hg.cell h (grown_apart ha h (by simp))
theorem EPart.grown {b o : Nat} {x : Part} (h : EPart w b o x) : EPart w' b o x := by
  obtain ⟨h1, h2, h3, h4⟩ := h
  have hne := grown_apart ha h3 (by simp)
  exact ⟨hg.cell h1 hne, hg.cell h2 hne, hg.cell h3 hne, h4⟩
theorem EBlob.grown {b o : Nat} {x : Blob} (h : EBlob w b o x) : EBlob w' b o x := by
  obtain ⟨dv, h1, h2, h3, h4, h5, h6⟩ := h
  have hne := grown_apart ha h3 (by simp)
  exact ⟨dv, hg.cell h1 hne, hg.cell h2 hne, hg.cell h3 hne, hg.cell h4 hne, RS.grown (fun _ _ _ => EU8.grown hg ha) h5 hg.size, h6⟩
theorem EEntry.grown {b o : Nat} {x : Entry} (h : EEntry w b o x) : EEntry w' b o x := by
  obtain ⟨dv, h1, h2, h3, h4, h5, h6⟩ := h
  have hne := grown_apart ha h3 (by simp)
  exact ⟨dv, hg.cell h1 hne, hg.cell h2 hne, hg.cell h3 hne, hg.cell h4 hne, RS.grown (fun _ _ _ => EPart.grown hg ha) h5 hg.size, h6⟩
end
/-- Own texts in a block of a later call stay. -/
theorem OS.grownLater {e : TypeId} {w w' : World} {v u : Value} {l : List ByteArray} {B : Nat} (hg : w.grownBy w' v.ownBlock) (h : OS e 1 cStr w B u l) (hlt : ∀ g, v.ownBlock = some g → g < B) : OS e 1 cStr w' B u l := by
  refine World.ownsRow.kept (row := v.ownBlock) h hg ?_
  cases hu : u.ownBlock with
  | none => exact .inl rfl
  | some k =>
    refine .inr fun e1 => ?_
    have h1 := OS.block h k hu
    have h2 := hlt k e1.symm
    omega
theorem grown_heap {w w' : World} {v : Value} (hg : w.grownBy w' v.ownBlock) {e T : TypeId} {B p : Nat} {l : List ByteArray} (h : OS e 1 cStr w B v l) {cs : Array Value} (hp : w.heap[p]? = some (.cells cs T (0, 0))) (hT : T ≠ e) : w'.heap[p]? = some (.cells cs T (0, 0)) :=
  (hg.block p (Array.getElem?_eq_some_iff.1 hp).1 (fun e1 => OS.block_ne h hp hT e1.symm)).trans hp
end Go.Proofs.YtpcnhldlfmdlhaaGreat
