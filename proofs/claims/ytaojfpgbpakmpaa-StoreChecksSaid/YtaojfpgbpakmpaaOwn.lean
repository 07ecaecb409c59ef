/-
  Lists of plain data that a call has made itself ('owned': it may append to them and write them), and the laws of append in these words.
-/
import Derived.Test.YtaojfpgbpakmpaaLib
import Derived.Laws.AppendOwnNone
namespace Go.Proofs.Ytaojfpgbpakmpaa
open Go.RowKit

/-- An element that is read by E at a place lies there as these cells. -/
structure Flat {α : Type} (s : Nat) (cells : α → List Value) (E : World → Nat → Nat → α → Prop) : Prop where
  pos : 0 < s
  len : ∀ x, (cells x).length = s
  one : ∀ x, ∀ u ∈ cells x, u.oneCell' = true
  get : ∀ w b o x, E w b o x → ∀ j, j < s → w.cell? ⟨b, o + j, none⟩ = (cells x)[j]?

theorem flat_get {α : Type} {s : Nat} {cells : α → List Value} (hl : ∀ x, (cells x).length = s) (hs : 0 < s) : ∀ (l : List α) (j : Nat), (l.flatMap cells)[j]? = (l[j / s]?).bind fun x => (cells x)[j % s]?
  | [], j => by simp
  | x :: l, j => by
    rw [List.flatMap_cons]
    by_cases h : j < s
    · rw [List.getElem?_append_left (by rw [hl]; exact h), Nat.div_eq_of_lt h, Nat.mod_eq_of_lt h]
      simp
    · rw [List.getElem?_append_right (by rw [hl]; omega), hl, flat_get hl hs l (j - s)]
      have e1 : j / s = (j - s) / s + 1 := by rw [Nat.div_eq_sub_div hs (by omega)]
      have e2 : j % s = (j - s) % s := by rw [Nat.mod_eq_sub_mod (by omega)]
      rw [e1, e2]
      simp

theorem flat_len {α : Type} {s : Nat} {cells : α → List Value} (hl : ∀ x, (cells x).length = s) (l : List α) : (l.flatMap cells).length = l.length * s := by
  induction l with
  | nil => simp
  | cons x l ih => rw [List.flatMap_cons, List.length_append, hl, ih, List.length_cons, Nat.add_mul]; omega

/-- The cells of a list that reads so. -/
theorem RS.cells {α : Type} {s bs : Nat} {E : World → Nat → Nat → α → Prop} {cells : α → List Value} {w : World} {v : Value} {l : List α} (F : Flat s cells E) (h : RS s bs E w v l) :
    (v = .slice none 0 0 ∧ l = []) ∨ ∃ ad c, v = .slice (some ad) l.length c ∧ ∀ j u, (l.flatMap cells)[j]? = some u → w.cell? (ad.add j) = some u := by
  obtain ⟨a, c, rfl, h1, h2, hr, hn, h3⟩ := h
  cases a with
  | none =>
    have := hn rfl
    subst this
    have hl : l = [] := List.eq_nil_of_length_eq_zero (by omega)
    exact .inl ⟨by rw [hl]; rfl, hl⟩
  | some ad =>
    refine .inr ⟨ad, c, rfl, fun j u hj => ?_⟩
    rw [flat_get F.len F.pos] at hj
    obtain ⟨x, hx, hu⟩ := Option.bind_eq_some_iff.1 hj
    obtain ⟨b, off, hb, hlt, he⟩ := h3 _ _ hx
    simp only [Option.some.injEq] at hb
    subst hb
    have := F.get _ _ _ _ he (j % s) (Nat.mod_lt _ F.pos)
    rw [hu] at this
    rw [← this]
    congr 1
    have e : j / s * s + j % s = j := by rw [Nat.mul_comm]; exact Nat.div_add_mod j s
    simp only [Addr.add]
    split
    · rename_i h0; subst h0; simp
    · rw [Nat.add_assoc, e]

/-- v is nil, or a row of this call's own (from block B on), and holds the list l. -/
def OS {α : Type} (e : TypeId) (s : Nat) (cells : α → List Value) (w : World) (B : Nat) (v : Value) (l : List α) : Prop := w.ownsRow B e s v l.length (l.flatMap cells)

theorem OS.nil {α : Type} {e : TypeId} {s : Nat} {cells : α → List Value} {w : World} {B : Nat} : OS (α := α) e s cells w B (.slice none 0 0) [] := World.ownsRow_nil w B e s
theorem OS.alloc {α : Type} {e : TypeId} {s : Nat} {cells : α → List Value} {w : World} {B : Nat} {v : Value} {l : List α} (h : OS e s cells w B v l) (o : Obj) : OS e s cells (w.alloc o) B v l := World.ownsRow.alloc h o
theorem OS.drewN {α : Type} {e : TypeId} {s : Nat} {cells : α → List Value} {w : World} {B : Nat} {v : Value} {l : List α} (h : OS e s cells w B v l) (n : Nat) : OS e s cells (w.drewN n) B v l := h
theorem OS.drew {α : Type} {e : TypeId} {s : Nat} {cells : α → List Value} {w : World} {B : Nat} {v : Value} {l : List α} (h : OS e s cells w B v l) : OS e s cells w.drew B v l := h
theorem OS.below {α : Type} {e : TypeId} {s : Nat} {cells : α → List Value} {w w' : World} {B : Nat} {v : Value} {l : List α} (h : OS e s cells w B v l) (hb : Below w.heap.size w w') : OS e s cells w' B v l :=
  World.ownsRow.kept (row := none) h ⟨hb.os, hb.tape, hb.output, hb.size, fun k hk _ => hb.block k hk⟩ (by cases hv : v.ownBlock <;> simp)
theorem OS.mono {α : Type} {e : TypeId} {s : Nat} {cells : α → List Value} {w : World} {B B' : Nat} {v : Value} {l : List α} (h : OS e s cells w B v l) (hB : B' ≤ B) : OS e s cells w B' v l := by
  obtain ⟨h1, h2⟩ := h
  refine ⟨h1, ?_⟩
  rcases h2 with h2 | ⟨g, cap, cur, hv, hg, r⟩
  · exact .inl h2
  · exact .inr ⟨g, cap, cur, hv, by omega, r⟩
theorem OS.len_le {α : Type} {e : TypeId} {s : Nat} {cells : α → List Value} {w : World} {B : Nat} {v : Value} {l : List α} (h : OS e s cells w B v l) : ∃ a c, v = .slice a l.length c ∧ l.length ≤ c ∧ c ≤ maxLen ∧ (a = none → c = 0) := by
  obtain ⟨h1, h2⟩ := h
  rcases h2 with ⟨rfl, hn⟩ | ⟨g, cap, cur, rfl, hg, hh, hnc, hcm, _⟩
  · exact ⟨none, 0, by rw [hn], by omega, by simp [maxLen], fun _ => rfl⟩
  · exact ⟨_, _, rfl, hnc, hcm, fun h => by simp at h⟩

/-- What is owned is read. -/
theorem OS.reads {α : Type} {e : TypeId} {s bs : Nat} {cells : α → List Value} {E : World → Nat → Nat → α → Prop} {w : World} {B : Nat} {v : Value} {l : List α} (hl : ∀ x, (cells x).length = s) (hs : 0 < s)
    (hE : ∀ b o x, x ∈ l → (∀ j, j < s → w.cell? ⟨b, o + j, none⟩ = (cells x)[j]?) → E w b o x) (h : OS e s cells w B v l) (hb : l.length * bs ≤ 140737488351232) : RS s bs E w v l := by
  obtain ⟨h1, h2⟩ := h
  rcases h2 with ⟨rfl, hn⟩ | ⟨g, cap, cur, rfl, hg, hh, hnc, hcm, hcs, htake⟩
  · have : l = [] := List.eq_nil_of_length_eq_zero hn
    subst this
    exact RS.nil
  · refine ⟨_, _, rfl, hnc, hcm, hb, fun h => by simp at h, fun k x hk => ⟨g, 0, rfl, (Array.getElem?_eq_some_iff.1 hh).1, ?_⟩⟩
    have hkl : k < l.length := (List.getElem?_eq_some_iff.1 hk).1
    refine hE _ _ _ (List.mem_of_getElem? hk) fun j hj => ?_
    rw [cell_of_row w g _ cur e (0, 0) hh]
    have hlt : k * s + j < l.length * s := by
      have : k * s + s ≤ l.length * s := by rw [← Nat.succ_mul]; exact Nat.mul_le_mul_right _ hkl
      omega
    have : (l.flatMap cells)[k * s + j]? = cur[0 + k * s + j]? := by
      rw [← htake, List.getElem?_take, if_pos hlt, Nat.zero_add, Array.getElem?_toList]
    rw [← this, flat_get hl hs, Nat.add_comm, Nat.add_mul_div_right _ _ hs, Nat.div_eq_of_lt hj, Nat.zero_add, hk, Nat.add_mul_mod_self_right, Nat.mod_eq_of_lt hj]
    rfl

/-- append(out, x...) where out is owned and x reads as a list of the same kind. -/
theorem wpL_append {α : Type} {P : Program} {w : World} {ops : Array Oper} {rest : List Oper} {o : Oper} {a : Act} {Q : Exit → Act → World → Prop} {s bs : Nat} {cells : α → List Value} {E : World → Nat → Nat → α → Prop} (F : Flat s cells E)
    (hgd : o.guard = none) (x y : Operand) (t : TypeId) (ho : o.op = .call { callee := .builtin .append, args := #[x, y], argTypes := #[t, t] })
    (e : TypeId) (i : TypeInfo) (z : Value) (ht : P.underlying t = some (.slice e)) (hi : P.info? e = some i) (hz : i.zero = some z) (hsize : i.size = s) (hby : i.bytes = bs) (hzs : z.cells.size = s)
    (B : Nat) (v : Value) (l : List α) (hs : a.eval x = v) (hown : OS e s cells w B v l) (u : Value) (m : List α) (hx : a.eval y = u) (hsrc : RS s bs E w u m)
    (hlen : (l.length + m.length) * bs ≤ 140737488355328) (hmax : l.length + m.length ≤ maxLen) (hB : B ≤ w.heap.size)
    (h : ∀ v' w', OS e s cells w' B v' (l ++ m) → w.grownBy w' v.ownBlock → wpList P ops Q rest (a.put o.dst v') w') : wpList P ops Q (o :: rest) a w := by
  rcases hsrc.cells F with ⟨rfl, rfl⟩ | ⟨ad, c, rfl, hc⟩
  · refine wpList_append_own_none hgd x y t ho B e i s ht hi v l.length _ hs hown hx ?_
    refine h v w (by simpa using hown) ⟨rfl, rfl, rfl, Nat.le_refl _, fun _ _ _ => rfl⟩
  · refine wpList_append_own w hgd x y t ho B e i z s bs ht hi hz hsize hby hzs F.pos v l.length _ hs hown ad m.length c (m.flatMap cells) hx (flat_len F.len m) hc ?_ hmax hlen hB ?_
    · intro u hu
      obtain ⟨x, _, hux⟩ := List.mem_flatMap.1 hu
      exact F.one x u hux
    · intro v' w' h1 h2 _
      exact h v' w' (by unfold OS; rw [List.length_append, List.flatMap_append]; exact h1) h2

/-! ### The kinds -/
def cU8 (x : UInt8) : List Value := [.int .u8 (x.toNat : Int)]
def cU32 (x : UInt32) : List Value := [.int .u32 (x.toNat : Int)]
def cI (x : Int) : List Value := [.int .i64 x]
def cStr (x : ByteArray) : List Value := [.string x]
theorem flat_u8 : Flat 1 cU8 EU8 := ⟨by decide, fun _ => rfl, fun _ u hu => by simp [cU8] at hu; subst hu; rfl, fun w b o x h j hj => by obtain rfl : j = 0 := (by omega); exact h⟩
theorem flat_u32 : Flat 1 cU32 EU32 := ⟨by decide, fun _ => rfl, fun _ u hu => by simp [cU32] at hu; subst hu; rfl, fun w b o x h j hj => by obtain rfl : j = 0 := (by omega); exact h⟩
theorem flat_i : Flat 1 cI EI := ⟨by decide, fun _ => rfl, fun _ u hu => by simp [cI] at hu; subst hu; rfl, fun w b o x h j hj => by obtain rfl : j = 0 := (by omega); exact h.1⟩
theorem flat_str : Flat 1 cStr EStr := ⟨by decide, fun _ => rfl, fun _ u hu => by simp [cStr] at hu; subst hu; rfl, fun w b o x h j hj => by obtain rfl : j = 0 := (by omega); exact h.1⟩

theorem reads_u8 {e : TypeId} {w : World} {B : Nat} {v : Value} {l : List UInt8} (h : OS e 1 cU8 w B v l) (hb : l.length ≤ 140737488351232) : RB w v l :=
  OS.reads (cells := cU8) (fun _ => rfl) (by decide) (fun _ _ _ _ h => h 0 (by omega)) h (by omega)
theorem reads_u32 {e : TypeId} {w : World} {B : Nat} {v : Value} {l : List UInt32} (h : OS e 1 cU32 w B v l) (hb : l.length ≤ 35184372087808) : RW w v l :=
  OS.reads (cells := cU32) (fun _ => rfl) (by decide) (fun _ _ _ _ h => h 0 (by omega)) h (by omega)

theorem flat1_set {α : Type} {cells : α → List Value} : ∀ (l : List α) (k : Nat) (y : α) (u : Value), (∀ x, (cells x).length = 1) → cells y = [u] → (l.flatMap cells).set k u = (l.set k y).flatMap cells
  | [], k, y, u, h1, h2 => by simp
  | x :: l, 0, y, u, h1, h2 => by
    obtain ⟨c, hc⟩ : ∃ c, cells x = [c] := by
      have := h1 x
      match h : cells x with
      | [c] => exact ⟨c, rfl⟩
      | [] => rw [h] at this; simp at this
      | _ :: _ :: _ => rw [h] at this; simp at this
    simp [hc, h2]
  | x :: l, k + 1, y, u, h1, h2 => by
    obtain ⟨c, hc⟩ : ∃ c, cells x = [c] := by
      have := h1 x
      match h : cells x with
      | [c] => exact ⟨c, rfl⟩
      | [] => rw [h] at this; simp at this
      | _ :: _ :: _ => rw [h] at this; simp at this
    simp [hc, flat1_set l k y u h1 h2]

/-- One element of an owned list of one-cell elements: it is read, and it may be written. -/
theorem OS.cell1 {α : Type} {e : TypeId} {cells : α → List Value} {w : World} {B : Nat} {v : Value} {l : List α} (h : OS e 1 cells w B v l) (h1 : ∀ x, (cells x).length = 1) (k : Nat) (x : α) (hk : l[k]? = some x) :
    ∃ g cap, v = .slice (some ⟨g, 0, none⟩) l.length cap ∧ B ≤ g ∧ g < w.heap.size ∧ w.cell? ⟨g, k, none⟩ = (cells x)[0]? ∧ w.frozen? ⟨g, k, none⟩ = false ∧ ∀ y u, cells y = [u] → OS e 1 cells (w.setCell ⟨g, k, none⟩ u) B v (l.set k y) := by
  have hkl : k < l.length := (List.getElem?_eq_some_iff.1 hk).1
  have hh := h
  obtain ⟨hl, h2⟩ := h
  rcases h2 with ⟨rfl, hn⟩ | ⟨g, cap, cur, rfl, hg, hgg, hr⟩
  · omega
  · have hcell := World.ownsRow.cellAt hh k (by omega)
    rw [flat_get h1 (by decide)] at hcell
    simp only [Nat.div_one, Nat.mod_one, hk, Option.bind_some] at hcell
    refine ⟨g, cap, rfl, hg, (Array.getElem?_eq_some_iff.1 hgg).1, hcell, World.ownsRow.frozenAt hh k, fun y u hy => ?_⟩
    have := World.ownsRow.stored hh k u
    rw [flat1_set l k y u h1 hy] at this
    unfold OS
    rw [List.length_set]
    exact this.1

/-- The string of these bytes. -/
def bstr (l : List UInt8) : ByteArray := ⟨l.toArray⟩

theorem flat_cU8 (l : List UInt8) : l.flatMap cU8 = (l.map fun x => (x.toNat : Int)).map (Value.int .u8) := by
  induction l with
  | nil => rfl
  | cons x l ih => rw [List.flatMap_cons, ih]; rfl

theorem run_string_of {P : Program} {w : World} {v : Value} {l : List UInt8} (src e : TypeId) (hs : P.underlying src = some (.slice e)) (he : P.underlying e = some (.int .u8)) (dst : TypeId) (hd : P.underlying dst = some .string) (h : RB w v l) :
    (convert src dst v).run P w = .ok (.string (bstr l)) w := by
  rcases h.cells flat_u8 with ⟨rfl, rfl⟩ | ⟨ad, c, rfl, hc⟩
  · exact run_convert_bytes_nil w src e hs he 0 0 dst hd
  · have hl : (loadCells ad l.length).run P w = .ok ((l.map fun x => (x.toNat : Int)).map (Value.int .u8)).toArray w := by
      have := run_loadCells_list (P := P) w ad ((l.map fun x => (x.toNat : Int)).map (Value.int .u8)) (fun j v hj => hc j v (by rw [flat_cU8]; exact hj))
      simpa using this
    rw [run_convert_bytes_string w src dst e _ l.length c hs he hd, run_bytesToString w _ _ c _ hl, foldl_push_bytes]
    simp [bstr, ByteArray.empty, ByteArray.emptyWithCapacity, Function.comp_def]
    rfl

/-- A new block of one byte. -/
theorem one_u8 (w : World) (t : TypeId) (n : Int) (b : UInt8) (k : Nat) (hk : k = w.heap.size) (h : n = (b.toNat : Int)) : RB (w.alloc (.cells #[.int .u8 n] t)) (.slice (some ⟨k, 0, none⟩) 1 1) [b] := by
  subst hk
  refine ⟨_, _, rfl, by simp, by simp [maxLen], by simp, fun h => by simp at h, fun k x hk => ⟨w.heap.size, 0, rfl, by simp, ?_⟩⟩
  obtain rfl : k = 0 := by have := (List.getElem?_eq_some_iff.1 hk).1; simp at this; omega
  simp at hk
  subst hk
  have e : (w.alloc (.cells #[.int .u8 n] t)).heap[w.heap.size]? = some (.cells #[.int .u8 n] t) := heap_alloc_new w _
  unfold EU8
  rw [cell_of_row _ _ _ _ _ _ e, h]
  rfl

/-- A world that grew by a law on an owned row: what lay below the call's own blocks lies there still. -/
theorem b_grown {w W W' : World} {v : Value} (h : Below w.heap.size w W) (hg : W.grownBy W' v.ownBlock) (hv : ∀ k, v.ownBlock = some k → w.heap.size ≤ k) : Below w.heap.size w W' := h.grown hg h.size hv
theorem OS.block {α : Type} {e : TypeId} {s : Nat} {cells : α → List Value} {w : World} {B : Nat} {v : Value} {l : List α} (h : OS e s cells w B v l) : ∀ k, v.ownBlock = some k → B ≤ k := fun k hk => (World.ownsRow.lt h k hk).1

end Go.Proofs.Ytaojfpgbpakmpaa
