import Derived.Test.YtpkpgehiplhkpaaGreatProg
import Derived.WalkSpells
import Derived.WalkLawsBesides
import Derived.Laws.AppendOwnNone
import Derived.Deep.AppendLies
import Derived.ProofKit
import Derived.OpenShut
import Derived.ShutString
import Derived.Deep.Strs
namespace Go.Proofs.YtpkpgehiplhkpaaGreat
open Go.RowKit
theorem qzbas_3 {P : Prop} (h : P := by omega) : P := h
theorem qzbas_2 {P : Prop} (h : P := by
 have hn : l.length ≤ cap := hnc
 simp [Builtin.append_, run_underlying ht, sizeOf, typeInfo, hi, Builtin.lenOf, Builtin.firstCells, loadCells, storeCells, hn]) : P := h
theorem qzbas_1 {P : Prop} (h : P := by
 intro u hu
 obtain ⟨x, _, hux⟩ := List.mem_flatMap.1 hu
 exact F.one x u hux) : P := h
theorem hid {p : Prop} (h : p) : Hid p := h
theorem ret_i {k : IntKind} {a b : Int} (h : a = b) : Ending.returned (.int k a) = .returned (.int k b) := by rw [h]
def RS {α : Type} (s bs : Nat) (E : World → Nat → Nat → α → Prop) (w : World) (v : Value) (l : List α) : Prop :=
 ∃ a c, v = .slice a l.length c ∧ l.length ≤ c ∧ c ≤ maxLen ∧ l.length * bs ≤ 140737488351232 ∧ (a = none → c = 0) ∧ ∀ k x, l[k]? = some x → ∃ b off, a = some ⟨b, off, none⟩ ∧ b < w.heap.size ∧ E w b (off + k * s) x
def Stable {α : Type} (E : World → Nat → Nat → α → Prop) : Prop := ∀ w w' b o x, Below w.heap.size w w' → b < w.heap.size → E w b o x → E w' b o x
theorem RS.mono {α : Type} {s bs : Nat} {E : World → Nat → Nat → α → Prop} {w w' : World} {v : Value} {l : List α} (hE : Stable E) (h : RS s bs E w v l) (hb : Below w.heap.size w w') : RS s bs E w' v l := by
 obtain ⟨a, c, rfl, h1, h2, hr, hn, h3⟩ := h
 refine ⟨a, c, rfl, h1, h2, hr, hn, fun k x hk => ?_⟩
 obtain ⟨b, off, rfl, hlt, he⟩ := h3 k x hk
 exact ⟨b, off, rfl, Nat.lt_of_lt_of_le hlt hb.size, hE _ _ _ _ _ hb hlt he⟩
theorem RS.nil {α : Type} {s bs : Nat} {E : World → Nat → Nat → α → Prop} {w : World} : RS (α := α) s bs E w (.slice none 0 0) [] :=
 ⟨none, 0, rfl, Nat.le_refl _, by simp [maxLen], by simp, fun _ => rfl, fun k x h => by simp at h⟩
theorem RS.sub {α : Type} {s bs : Nat} {E : World → Nat → Nat → α → Prop} {w : World} {a : Option Addr} {n c : Nat} {l : List α} (h : RS s bs E w (.slice a n c) l) (lo hi : Nat) (h1 : lo ≤ hi) (h2 : hi ≤ n) (a' : Option Addr) (c' : Nat)
 (hc : hi - lo ≤ c') (hc' : c' ≤ maxLen) (hn : a' = none → c' = 0) (ha : lo < hi → a' = a.map (·.add (lo * s))) : RS s bs E w (.slice a' (hi - lo) c') ((l.take hi).drop lo) := by
 obtain ⟨x, y, hv, g1, g2, gr, gn, g3⟩ := h
 simp only [Value.slice.injEq] at hv
 obtain ⟨rfl, rfl, rfl⟩ := hv
 have hlen : ((l.take hi).drop lo).length = hi - lo := by simp; omega
 refine ⟨a', c', by rw [hlen], by omega, hc', by rw [hlen]; exact Nat.le_trans (Nat.mul_le_mul_right _ qzbas_3) gr, hn, fun k x hk => ?_⟩
 have hkl : k < hi - lo := by
  have := (List.getElem?_eq_some_iff.1 hk).1
  omega
 rw [List.getElem?_drop, List.getElem?_take, if_pos qzbas_3] at hk
 obtain ⟨b, off, rfl, hlt, he⟩ := g3 _ _ hk
 refine ⟨b, off + lo * s, ?_, hlt, ?_⟩
 · rw [ha qzbas_3]
   simp only [Option.map_some, Addr.add]
   split
   · simp_all
   rfl
 rw [show off + lo * s + k * s = off + (lo + k) * s by rw [Nat.add_mul]; omega]
 exact he
theorem RS.from {α : Type} {s bs : Nat} {E : World → Nat → Nat → α → Prop} {w : World} {a : Option Addr} {n c : Nat} {l : List α} (h : RS s bs E w (.slice a n c) l) (lo : Nat) (h1 : lo ≤ n) :
 RS s bs E w (.slice (if c = lo then a else a.map (·.add (lo * s))) (n - lo) (c - lo)) (l.drop lo) := by
 have hh := h
 obtain ⟨x, y, hv, g1, g2, gr, gn, g3⟩ := hh
 simp only [Value.slice.injEq] at hv
 obtain ⟨rfl, rfl, rfl⟩ := hv
 have := RS.sub h lo l.length h1 (Nat.le_refl _) (if c = lo then a else a.map (·.add (lo * s))) (c - lo) qzbas_3 qzbas_3 (fun h0 => by split at h0 <;> simp_all) (fun hlt => by rw [if_neg qzbas_3])
 rwa [List.take_length] at this
theorem RS.upto {α : Type} {s bs : Nat} {E : World → Nat → Nat → α → Prop} {w : World} {a : Option Addr} {n c : Nat} {l : List α} (h : RS s bs E w (.slice a n c) l) (hi : Nat) (h1 : hi ≤ n) :
 RS s bs E w (.slice a hi c) (l.take hi) := by
 have hh := h
 obtain ⟨x, y, hv, g1, g2, gr, gn, g3⟩ := hh
 simp only [Value.slice.injEq] at hv
 obtain ⟨rfl, rfl, rfl⟩ := hv
 have := RS.sub h 0 hi (Nat.zero_le _) h1 a c qzbas_3 g2 gn (fun _ => by cases a <;> simp [Addr.add])
 simpa using this
def EU8 (w : World) (b o : Nat) (x : UInt8) : Prop := w.cell? ⟨b, o, none⟩ = some (.int .u8 (x.toNat : Int))
def EU32 (w : World) (b o : Nat) (x : UInt32) : Prop := w.cell? ⟨b, o, none⟩ = some (.int .u32 (x.toNat : Int))
def EI (w : World) (b o : Nat) (x : Int) : Prop := w.cell? ⟨b, o, none⟩ = some (.int .i64 x) ∧ (Lit.int .i64 x).wf = true
def EStr (w : World) (b o : Nat) (x : ByteArray) : Prop := w.cell? ⟨b, o, none⟩ = some (.string x) ∧ x.size ≤ 140737488351232
theorem cell_stays {w w' : World} {b o : Nat} {v : Value} (hb : Below w.heap.size w w') (hlt : b < w.heap.size) (h : w.cell? ⟨b, o, none⟩ = some v) : w'.cell? ⟨b, o, none⟩ = some v :=
 (hb.cell (p := ⟨b, o, none⟩) hlt).trans h
theorem EU8.stable : Stable EU8 := fun _ _ _ _ _ hb hlt h => cell_stays hb hlt h
theorem EU32.stable : Stable EU32 := fun _ _ _ _ _ hb hlt h => cell_stays hb hlt h
theorem EI.stable : Stable EI := fun _ _ _ _ _ hb hlt h => ⟨cell_stays hb hlt h.1, h.2⟩
theorem EStr.stable : Stable EStr := fun _ _ _ _ _ hb hlt h => ⟨cell_stays hb hlt h.1, h.2⟩
abbrev RB (w : World) (v : Value) (l : List UInt8) : Prop := RS 1 1 EU8 w v l
abbrev RW (w : World) (v : Value) (l : List UInt32) : Prop := RS 1 4 EU32 w v l
abbrev RI (w : World) (v : Value) (l : List Int) : Prop := RS 1 8 EI w v l
abbrev RT (w : World) (v : Value) (l : List ByteArray) : Prop := RS 1 16 EStr w v l
structure Part where
 name : ByteArray
 digest : ByteArray
 size : Int
structure Blob where
 digest : ByteArray
 data : List UInt8
 pins : Int
 mark : Bool
structure Entry where
 key : ByteArray
 parts : List Part
 pins : Int
 stamp : Int
structure Flight where
 key : ByteArray
 leader : Int
 waiters : List Int
def EPart (w : World) (b o : Nat) (x : Part) : Prop :=
 w.cell? ⟨b, o, none⟩ = some (.string x.name) ∧ w.cell? ⟨b, o + 1, none⟩ = some (.string x.digest) ∧ w.cell? ⟨b, o + 2, none⟩ = some (.int .i64 x.size) ∧
 x.name.size ≤ 140737488351232 ∧ x.digest.size ≤ 140737488351232 ∧ (Lit.int .i64 x.size).wf = true
theorem EPart.stable : Stable EPart := fun _ _ _ _ _ hb hlt ⟨h1, h2, h3, h4⟩ => ⟨cell_stays hb hlt h1, cell_stays hb hlt h2, cell_stays hb hlt h3, h4⟩
abbrev RP (w : World) (v : Value) (l : List Part) : Prop := RS 3 40 EPart w v l
def EBlob (w : World) (b o : Nat) (x : Blob) : Prop :=
 ∃ dv, w.cell? ⟨b, o, none⟩ = some (.string x.digest) ∧ w.cell? ⟨b, o + 1, none⟩ = some dv ∧ w.cell? ⟨b, o + 2, none⟩ = some (.int .i64 x.pins) ∧ w.cell? ⟨b, o + 3, none⟩ = some (.bool x.mark) ∧
 RB w dv x.data ∧ x.digest.size ≤ 140737488351232 ∧ (Lit.int .i64 x.pins).wf = true
theorem EBlob.stable : Stable EBlob := fun _ _ _ _ _ hb hlt ⟨dv, h1, h2, h3, h4, h5, h6⟩ => ⟨dv, cell_stays hb hlt h1, cell_stays hb hlt h2, cell_stays hb hlt h3, cell_stays hb hlt h4, h5.mono EU8.stable hb, h6⟩
abbrev RBl (w : World) (v : Value) (l : List Blob) : Prop := RS 4 56 EBlob w v l
def EEntry (w : World) (b o : Nat) (x : Entry) : Prop :=
 ∃ pv, w.cell? ⟨b, o, none⟩ = some (.string x.key) ∧ w.cell? ⟨b, o + 1, none⟩ = some pv ∧ w.cell? ⟨b, o + 2, none⟩ = some (.int .i64 x.pins) ∧ w.cell? ⟨b, o + 3, none⟩ = some (.int .i64 x.stamp) ∧
 RP w pv x.parts ∧ x.key.size ≤ 140737488351232 ∧ (Lit.int .i64 x.pins).wf = true ∧ (Lit.int .i64 x.stamp).wf = true
theorem EEntry.stable : Stable EEntry := fun _ _ _ _ _ hb hlt ⟨dv, h1, h2, h3, h4, h5, h6⟩ => ⟨dv, cell_stays hb hlt h1, cell_stays hb hlt h2, cell_stays hb hlt h3, cell_stays hb hlt h4, h5.mono EPart.stable hb, h6⟩
abbrev RE (w : World) (v : Value) (l : List Entry) : Prop := RS 4 56 EEntry w v l
def EFlight (w : World) (b o : Nat) (x : Flight) : Prop :=
 ∃ dv, w.cell? ⟨b, o, none⟩ = some (.string x.key) ∧ w.cell? ⟨b, o + 1, none⟩ = some (.int .i64 x.leader) ∧ w.cell? ⟨b, o + 2, none⟩ = some dv ∧
 RI w dv x.waiters ∧ x.key.size ≤ 140737488351232 ∧ (Lit.int .i64 x.leader).wf = true
theorem EFlight.stable : Stable EFlight := fun _ _ _ _ _ hb hlt ⟨dv, h1, h2, h3, h5, h6⟩ => ⟨dv, cell_stays hb hlt h1, cell_stays hb hlt h2, cell_stays hb hlt h3, h5.mono EI.stable hb, h6⟩
abbrev RF (w : World) (v : Value) (l : List Flight) : Prop := RS 3 48 EFlight w v l
theorem b_alloc {w W : World} (h : Below w.heap.size w W) (o : Obj) : Below w.heap.size w (W.alloc o) := h.alloc h.size o
theorem b_set {w W : World} (h : Below w.heap.size w W) {p : Addr} (hp : w.heap.size ≤ p.block) (u : Value) : Below w.heap.size w (W.setCell p u) := h.setCell hp u
theorem b_call {w W W' : World} (h : Below w.heap.size w W) (h' : Below W.heap.size W W') : Below w.heap.size w W' := h.trans (h'.mono h.size)
theorem bcell {W w1 : World} (hb : Below W.heap.size W w1) : (∀ b o, b < W.heap.size → w1.cell? ⟨b, o, none⟩ = W.cell? ⟨b, o, none⟩) ∧ (∀ b o, b < W.heap.size → w1.frozen? ⟨b, o, none⟩ = W.frozen? ⟨b, o, none⟩) :=
 ⟨fun b o h => hb.cell (p := ⟨b, o, none⟩) h, fun b o h => hb.frozen (p := ⟨b, o, none⟩) h⟩
def slt (a b : ByteArray) : Bool := Op.bytesLess a.toList b.toList
theorem bl_irrefl : ∀ l : List UInt8, Op.bytesLess l l = false
 | [] => rfl
 | a :: l => by simp [Op.bytesLess, bl_irrefl l]
theorem bl_trans : ∀ a b c : List UInt8, Op.bytesLess a b = true → Op.bytesLess b c = true → Op.bytesLess a c = true
 | _, [], _, h, _ => by cases ‹List UInt8› <;> simp [Op.bytesLess] at h
 | _, _ :: _, [], _, h => by simp [Op.bytesLess] at h
 | [], _ :: _, _ :: _, _, _ => rfl
 | a :: x, b :: y, c :: z, h, k => by
   simp only [Op.bytesLess, Bool.or_eq_true, Bool.and_eq_true, beq_iff_eq, decide_eq_true_eq] at h k ⊢
   rcases h with h | ⟨rfl, h⟩ <;> rcases k with k | ⟨rfl, k⟩
   · exact .inl (UInt8.lt_trans h k)
   · exact .inl h
   · exact .inl k
   exact .inr ⟨rfl, bl_trans x y z h k⟩
theorem bl_tri : ∀ a b : List UInt8, Op.bytesLess a b = false → Op.bytesLess b a = false → a = b
 | [], [], _, _ => rfl
 | [], _ :: _, h, _ => by simp [Op.bytesLess] at h
 | _ :: _, [], _, h => by simp [Op.bytesLess] at h
 | a :: x, b :: y, h, k => by
   simp only [Op.bytesLess, Bool.or_eq_false_iff, decide_eq_false_iff_not, Bool.and_eq_false_iff, beq_eq_false_iff_ne] at h k
   have hab : a = b := by
    have h1 := h.1
    have k1 := k.1
    rw [UInt8.lt_iff_toNat_lt] at h1 k1
    apply UInt8.toNat_inj.1
    omega
   subst hab
   rw [bl_tri x y (h.2.resolve_left (fun h => h rfl)) (k.2.resolve_left (fun h => h rfl))]
theorem slt_irrefl (a : ByteArray) : slt a a = false := bl_irrefl _
theorem slt_trans {a b c : ByteArray} (h : slt a b = true) (k : slt b c = true) : slt a c = true := bl_trans _ _ _ h k
theorem slt_asymm {a b : ByteArray} (h : slt a b = true) : slt b a = false := by
 cases hk : slt b a with
 | false => rfl
 | true => have := slt_trans h hk; rw [slt_irrefl] at this; cases this
theorem toList_data (s : ByteArray) : s.toList = s.data.toList := by
 obtain ⟨⟨l⟩⟩ := s
 simp
theorem toList_inj {a b : ByteArray} (h : a.toList = b.toList) : a = b := by
 obtain ⟨⟨l⟩⟩ := a
 obtain ⟨⟨m⟩⟩ := b
 simp at h
 rw [h]
theorem slt_tri {a b : ByteArray} (h : slt a b = false) (k : slt b a = false) : a = b := toList_inj (bl_tri _ _ h k)
structure Flat {α : Type} (s : Nat) (cells : α → List Value) (E : World → Nat → Nat → α → Prop) : Prop where
 pos : 0 < s
 len : ∀ x, (cells x).length = s
 one : ∀ x, ∀ u ∈ cells x, u.oneCell' = true
 get : ∀ w b o x, E w b o x → ∀ j, j < s → w.cell? ⟨b, o + j, none⟩ = (cells x)[j]?
theorem flat_get {α : Type} {s : Nat} {cells : α → List Value} (hl : ∀ x, (cells x).length = s) (hs : 0 < s) : ∀ (l : List α) (j : Nat), (l.flatMap cells)[j]? = (l[j / s]?).bind fun x => (cells x)[j % s]?
 | [], j => by simp
 | x :: l, j => by
   rw [List.flatMap_cons]
   by_cases h : j < s
   · rw [List.getElem?_append_left (by rw [hl]; exact h), Nat.div_eq_of_lt h, Nat.mod_eq_of_lt h]
     simp
   rw [List.getElem?_append_right (by rw [hl]; omega), hl, flat_get hl hs l (j - s)]
   have e1 : j / s = (j - s) / s + 1 := by rw [Nat.div_eq_sub_div hs qzbas_3]
   have e2 : j % s = (j - s) % s := by rw [Nat.mod_eq_sub_mod qzbas_3]
   rw [e1, e2]
   simp
theorem flat_len {α : Type} {s : Nat} {cells : α → List Value} (hl : ∀ x, (cells x).length = s) (l : List α) : (l.flatMap cells).length = l.length * s := by
 induction l with
 | nil => simp
 | cons x l ih => rw [List.flatMap_cons, List.length_append, hl, ih, List.length_cons, Nat.add_mul]; omega
theorem RS.cells {α : Type} {s bs : Nat} {E : World → Nat → Nat → α → Prop} {cells : α → List Value} {w : World} {v : Value} {l : List α} (F : Flat s cells E) (h : RS s bs E w v l) :
 (v = .slice none 0 0 ∧ l = []) ∨ ∃ ad c, v = .slice (some ad) l.length c ∧ ∀ j u, (l.flatMap cells)[j]? = some u → w.cell? (ad.add j) = some u := by
 obtain ⟨a, c, rfl, h1, h2, hr, hn, h3⟩ := h
 cases a with
 | none =>
   have := hn rfl
   subst this
   have hl : l = [] := List.eq_nil_of_length_eq_zero qzbas_3
   exact .inl ⟨by rw [hl]; rfl, hl⟩
 | some ad =>
   refine .inr ⟨ad, c, rfl, fun j u hj => ?_⟩
   rw [flat_get F.len F.pos] at hj
   obtain ⟨x, hx, hu⟩ := Option.bind_eq_some_iff.1 hj
   obtain ⟨b, off, hb, hlt, he⟩ := h3 _ _ hx
   simp only [Option.some.injEq] at hb
   subst hb
   have := F.get _ _ _ _ he (j % s) (Nat.mod_lt _ F.pos)
   rw [hu] at this
   rw [← this]
   congr 1
   have e : j / s * s + j % s = j := by rw [Nat.mul_comm]; exact Nat.div_add_mod j s
   simp only [Addr.add]
   split
   · rename_i h0; subst h0; simp
   rw [Nat.add_assoc, e]
def OS {α : Type} (e : TypeId) (s : Nat) (cells : α → List Value) (w : World) (B : Nat) (v : Value) (l : List α) : Prop := w.ownsRow B e s v l.length (l.flatMap cells)
theorem OS.nil {α : Type} {e : TypeId} {s : Nat} {cells : α → List Value} {w : World} {B : Nat} : OS (α := α) e s cells w B (.slice none 0 0) [] := World.ownsRow_nil w B e s
theorem OS.alloc {α : Type} {e : TypeId} {s : Nat} {cells : α → List Value} {w : World} {B : Nat} {v : Value} {l : List α} (h : OS e s cells w B v l) (o : Obj) : OS e s cells (w.alloc o) B v l := World.ownsRow.alloc h o
theorem OS.drewN {α : Type} {e : TypeId} {s : Nat} {cells : α → List Value} {w : World} {B : Nat} {v : Value} {l : List α} (h : OS e s cells w B v l) (n : Nat) : OS e s cells (w.drewN n) B v l := h
theorem OS.drew {α : Type} {e : TypeId} {s : Nat} {cells : α → List Value} {w : World} {B : Nat} {v : Value} {l : List α} (h : OS e s cells w B v l) : OS e s cells w.drew B v l := h
theorem OS.below {α : Type} {e : TypeId} {s : Nat} {cells : α → List Value} {w w' : World} {B : Nat} {v : Value} {l : List α} (h : OS e s cells w B v l) (hb : Below w.heap.size w w') : OS e s cells w' B v l :=
 World.ownsRow.kept (row := none) h ⟨hb.os, hb.tape, hb.output, hb.size, fun k hk _ => hb.block k hk⟩ (by cases hv : v.ownBlock <;> simp)
theorem OS.mono {α : Type} {e : TypeId} {s : Nat} {cells : α → List Value} {w : World} {B B' : Nat} {v : Value} {l : List α} (h : OS e s cells w B v l) (hB : B' ≤ B) : OS e s cells w B' v l := by
 obtain ⟨h1, h2⟩ := h
 refine ⟨h1, ?_⟩
 rcases h2 with h2 | ⟨g, cap, cur, hv, hg, r⟩
 · exact .inl h2
 exact .inr ⟨g, cap, cur, hv, by omega, r⟩
theorem OS.len_le {α : Type} {e : TypeId} {s : Nat} {cells : α → List Value} {w : World} {B : Nat} {v : Value} {l : List α} (h : OS e s cells w B v l) : ∃ a c, v = .slice a l.length c ∧ l.length ≤ c ∧ c ≤ maxLen ∧ (a = none → c = 0) := by
 obtain ⟨h1, h2⟩ := h
 rcases h2 with ⟨rfl, hn⟩ | ⟨g, cap, cur, rfl, hg, hh, hnc, hcm, _⟩
 · exact ⟨none, 0, by rw [hn], by omega, by simp [maxLen], fun _ => rfl⟩
 exact ⟨_, _, rfl, hnc, hcm, fun h => by simp at h⟩
theorem OS.reads {α : Type} {e : TypeId} {s bs : Nat} {cells : α → List Value} {E : World → Nat → Nat → α → Prop} {w : World} {B : Nat} {v : Value} {l : List α} (hl : ∀ x, (cells x).length = s) (hs : 0 < s)
 (hE : ∀ b o x, x ∈ l → (∀ j, j < s → w.cell? ⟨b, o + j, none⟩ = (cells x)[j]?) → E w b o x) (h : OS e s cells w B v l) (hb : l.length * bs ≤ 140737488351232) : RS s bs E w v l := by
 obtain ⟨h1, h2⟩ := h
 rcases h2 with ⟨rfl, hn⟩ | ⟨g, cap, cur, rfl, hg, hh, hnc, hcm, hcs, htake⟩
 · have : l = [] := List.eq_nil_of_length_eq_zero hn
   subst this
   exact RS.nil
 refine ⟨_, _, rfl, hnc, hcm, hb, fun h => by simp at h, fun k x hk => ⟨g, 0, rfl, (Array.getElem?_eq_some_iff.1 hh).1, ?_⟩⟩
 have hkl : k < l.length := (List.getElem?_eq_some_iff.1 hk).1
 refine hE _ _ _ (List.mem_of_getElem? hk) fun j hj => ?_
 rw [cell_of_row w g _ cur e (0, 0) hh]
 have hlt : k * s + j < l.length * s := by
  have : k * s + s ≤ l.length * s := by rw [← Nat.succ_mul]; exact Nat.mul_le_mul_right _ hkl
  omega
 have : (l.flatMap cells)[k * s + j]? = cur[0 + k * s + j]? := by
  rw [← htake, List.getElem?_take, if_pos hlt, Nat.zero_add, Array.getElem?_toList]
 rw [← this, flat_get hl hs, Nat.add_comm, Nat.add_mul_div_right _ _ hs, Nat.div_eq_of_lt hj, Nat.zero_add, hk, Nat.add_mul_mod_self_right, Nat.mod_eq_of_lt hj]
 rfl
theorem wpL_append {α : Type} {P : Program} {w : World} {ops : Array Oper} {rest : List Oper} {o : Oper} {a : Act} {Q : Exit → Act → World → Prop} {s bs : Nat} {cells : α → List Value} {E : World → Nat → Nat → α → Prop} (F : Flat s cells E)
 (hgd : o.guard = none) (x y : Operand) (t : TypeId) (ho : o.op = .call { callee := .builtin .append, args := #[x, y], argTypes := #[t, t] })
 (e : TypeId) (i : TypeInfo) (z : Value) (ht : P.underlying t = some (.slice e)) (hi : P.info? e = some i) (hz : i.zero = some z) (hsize : i.size = s) (hby : i.bytes = bs) (hzs : z.cells.size = s)
 (B : Nat) (v : Value) (l : List α) (hs : a.eval x = v) (hown : OS e s cells w B v l) (u : Value) (m : List α) (hx : a.eval y = u) (hsrc : RS s bs E w u m)
 (hlen : (l.length + m.length) * bs ≤ 140737488355328) (hmax : l.length + m.length ≤ maxLen) (hB : B ≤ w.heap.size)
 (h : ∀ v' w', OS e s cells w' B v' (l ++ m) → w.grownBy w' v.ownBlock → wpList P ops Q rest (a.put o.dst v') w') : wpList P ops Q (o :: rest) a w := by
 rcases hsrc.cells F with ⟨rfl, rfl⟩ | ⟨ad, c, rfl, hc⟩
 · refine wpList_append_own_none hgd x y t ho B e i s ht hi v l.length _ hs hown hx ?_
   refine h v w (by simpa using hown) ⟨rfl, rfl, rfl, Nat.le_refl _, fun _ _ _ => rfl⟩
 refine wpList_append_own w hgd x y t ho B e i z s bs ht hi hz hsize hby hzs F.pos v l.length _ hs hown ad m.length c (m.flatMap cells) hx (flat_len F.len m) hc ?_ hmax hlen hB ?_
 · exact qzbas_1
 intro v' w' h1 h2 _
 exact h v' w' (by unfold OS; rw [List.length_append, List.flatMap_append]; exact h1) h2
def cU8 (x : UInt8) : List Value := [.int .u8 (x.toNat : Int)]
def cU32 (x : UInt32) : List Value := [.int .u32 (x.toNat : Int)]
def cI (x : Int) : List Value := [.int .i64 x]
def cStr (x : ByteArray) : List Value := [.string x]
theorem flat_u8 : Flat 1 cU8 EU8 := ⟨by decide, fun _ => rfl, fun _ u hu => by simp [cU8] at hu; subst hu; rfl, fun w b o x h j hj => by obtain rfl : j = 0 := qzbas_3; exact h⟩
theorem flat_u32 : Flat 1 cU32 EU32 := ⟨by decide, fun _ => rfl, fun _ u hu => by simp [cU32] at hu; subst hu; rfl, fun w b o x h j hj => by obtain rfl : j = 0 := qzbas_3; exact h⟩
theorem flat_i : Flat 1 cI EI := ⟨by decide, fun _ => rfl, fun _ u hu => by simp [cI] at hu; subst hu; rfl, fun w b o x h j hj => by obtain rfl : j = 0 := qzbas_3; exact h.1⟩
theorem flat_str : Flat 1 cStr EStr := ⟨by decide, fun _ => rfl, fun _ u hu => by simp [cStr] at hu; subst hu; rfl, fun w b o x h j hj => by obtain rfl : j = 0 := qzbas_3; exact h.1⟩
theorem reads_u8 {e : TypeId} {w : World} {B : Nat} {v : Value} {l : List UInt8} (h : OS e 1 cU8 w B v l) (hb : l.length ≤ 140737488351232) : RB w v l :=
 OS.reads (cells := cU8) (fun _ => rfl) (by decide) (fun _ _ _ _ h => h 0 qzbas_3) h qzbas_3
theorem reads_u32 {e : TypeId} {w : World} {B : Nat} {v : Value} {l : List UInt32} (h : OS e 1 cU32 w B v l) (hb : l.length ≤ 35184372087808) : RW w v l :=
 OS.reads (cells := cU32) (fun _ => rfl) (by decide) (fun _ _ _ _ h => h 0 qzbas_3) h qzbas_3
theorem flat1_set {α : Type} {cells : α → List Value} : ∀ (l : List α) (k : Nat) (y : α) (u : Value), (∀ x, (cells x).length = 1) → cells y = [u] → (l.flatMap cells).set k u = (l.set k y).flatMap cells
 | [], k, y, u, h1, h2 => by simp
 | x :: l, 0, y, u, h1, h2 => by
   obtain ⟨c, hc⟩ : ∃ c, cells x = [c] := by
    have := h1 x
    match h : cells x with
    | [c] => exact ⟨c, rfl⟩
    | [] => rw [h] at this; simp at this
    | _ :: _ :: _ => rw [h] at this; simp at this
   simp [hc, h2]
 | x :: l, k + 1, y, u, h1, h2 => by
   obtain ⟨c, hc⟩ : ∃ c, cells x = [c] := by
    have := h1 x
    match h : cells x with
    | [c] => exact ⟨c, rfl⟩
    | [] => rw [h] at this; simp at this
    | _ :: _ :: _ => rw [h] at this; simp at this
   simp [hc, flat1_set l k y u h1 h2]
def bstr (l : List UInt8) : ByteArray := ⟨l.toArray⟩
theorem flat_cU8 (l : List UInt8) : l.flatMap cU8 = (l.map fun x => (x.toNat : Int)).map (Value.int .u8) := by
 induction l with
 | nil => rfl
 | cons x l ih => rw [List.flatMap_cons, ih]; rfl
theorem run_string_of {P : Program} {w : World} {v : Value} {l : List UInt8} (src e : TypeId) (hs : P.underlying src = some (.slice e)) (he : P.underlying e = some (.int .u8)) (dst : TypeId) (hd : P.underlying dst = some .string) (h : RB w v l) :
 (convert src dst v).run P w = .ok (.string (bstr l)) w := by
 rcases h.cells flat_u8 with ⟨rfl, rfl⟩ | ⟨ad, c, rfl, hc⟩
 · exact run_convert_bytes_nil w src e hs he 0 0 dst hd
 have hl : (loadCells ad l.length).run P w = .ok ((l.map fun x => (x.toNat : Int)).map (Value.int .u8)).toArray w := by
  have := run_loadCells_list (P := P) w ad ((l.map fun x => (x.toNat : Int)).map (Value.int .u8)) (fun j v hj => hc j v (by rw [flat_cU8]; exact hj))
  simpa using this
 rw [run_convert_bytes_string w src dst e _ l.length c hs he hd, run_bytesToString w _ _ c _ hl, foldl_push_bytes]
 simp [bstr, ByteArray.empty, ByteArray.emptyWithCapacity, Function.comp_def]
 rfl
theorem one_u8 (w : World) (t : TypeId) (n : Int) (b : UInt8) (k : Nat) (hk : k = w.heap.size) (h : n = (b.toNat : Int)) : RB (w.alloc (.cells #[.int .u8 n] t)) (.slice (some ⟨k, 0, none⟩) 1 1) [b] := by
 subst hk
 refine ⟨_, _, rfl, by simp, by simp [maxLen], by simp, fun h => by simp at h, fun k x hk => ⟨w.heap.size, 0, rfl, by simp, ?_⟩⟩
 obtain rfl : k = 0 := by have := (List.getElem?_eq_some_iff.1 hk).1; simp at this; omega
 simp at hk
 subst hk
 have e : (w.alloc (.cells #[.int .u8 n] t)).heap[w.heap.size]? = some (.cells #[.int .u8 n] t) := heap_alloc_new w _
 unfold EU8
 rw [cell_of_row _ _ _ _ _ _ e, h]
 rfl
theorem b_grown {w W W' : World} {v : Value} (h : Below w.heap.size w W) (hg : W.grownBy W' v.ownBlock) (hv : ∀ k, v.ownBlock = some k → w.heap.size ≤ k) : Below w.heap.size w W' := h.grown hg h.size hv
theorem OS.block {α : Type} {e : TypeId} {s : Nat} {cells : α → List Value} {w : World} {B : Nat} {v : Value} {l : List α} (h : OS e s cells w B v l) : ∀ k, v.ownBlock = some k → B ≤ k := fun k hk => (World.ownsRow.lt h k hk).1
theorem OS.lt {α : Type} {e : TypeId} {s : Nat} {cells : α → List Value} {w : World} {B : Nat} {v : Value} {l : List α} (h : OS e s cells w B v l) : ∀ k, v.ownBlock = some k → k < w.heap.size := fun k hk => (World.ownsRow.lt h k hk).2
theorem w_and (x y : UInt32) : bits .and .u32 (x.toNat : Int) (y.toNat : Int) = ((x &&& y).toNat : Int) := by
 rw [u32_and_nat _ _ x.toNat_lt y.toNat_lt, UInt32.toNat_and]
theorem w_or (x y : UInt32) : bits .or .u32 (x.toNat : Int) (y.toNat : Int) = ((x ||| y).toNat : Int) := by
 rw [u32_or_nat _ _ x.toNat_lt y.toNat_lt, UInt32.toNat_or]
theorem w_xor (x y : UInt32) : bits .xor .u32 (x.toNat : Int) (y.toNat : Int) = ((x ^^^ y).toNat : Int) := by
 rw [u32_xor_nat _ _ x.toNat_lt y.toNat_lt, UInt32.toNat_xor]
theorem w_max : IntKind.u32.max = ((4294967295 : UInt32).toNat : Int) := by decide
theorem w_not (x : UInt32) : bits .xor .u32 IntKind.u32.max (x.toNat : Int) = ((~~~x).toNat : Int) := by
 rw [w_max, w_xor]
 congr 2
open Go.Deep Go.ChangeShapes Go.WideShapes
def Opens {α : Type} (P : Program) (t : TypeId) (V : World → List Value → α → Prop) : Prop :=
 ∀ (H : Type) (enc : TypeId × Value → H) (w : World) (n : Nat) (cs : List Value) (x : DataW H × List MemPlace), DataW.trod enc P w 0 (fun _ => true) true n t cs = some x → (∀ m ∈ x.1.weights P t, m ≤ reachBytes) → ∃ a, V w cs a
def VStr (_ : World) (cs : List Value) (x : ByteArray) : Prop := cs = [.string x] ∧ x.size ≤ 140737488351232
def VI (_ : World) (cs : List Value) (x : Int) : Prop := cs = [.int .i64 x] ∧ (Lit.int .i64 x).wf = true
def VSl {α : Type} (s bs : Nat) (E : World → Nat → Nat → α → Prop) (w : World) (cs : List Value) (l : List α) : Prop := ∃ v, cs = [v] ∧ RS s bs E w v l
def Lies {α : Type} (s : Nat) (V : World → List Value → α → Prop) (E : World → Nat → Nat → α → Prop) : Prop :=
 ∀ w cs b o x, cs.length = s → V w cs x → (∀ j, j < s → w.cell? ⟨b, o + j, none⟩ = cs[j]?) → E w b o x
section
variable {P : Program}
theorem opens_string {t : TypeId} (ht : P.underlying t = some .string) : Opens P t VStr := by
 intro H enc w n cs x h hw
 obtain ⟨s, rfl, rfl, hs⟩ := DataW.trod_string ht h
 refine ⟨s, rfl, ?_⟩
 have := hw s.data.toList.length (by simp [DataW.weights])
 simpa [reachBytes] using this
theorem opens_i {t : TypeId} (ht : P.underlying t = some (.int .i64)) : Opens P t VI := by
 intro H enc w n cs x h hw
 obtain ⟨a, rfl, rfl, hs⟩ := DataW.trod_int ht h
 exact ⟨a, rfl, hs⟩
theorem weightsAll_mem {H : Type} {e : TypeId} : ∀ {l : List (DataW H)} {d : DataW H}, d ∈ l → ∀ m ∈ d.weights P e, m ∈ DataW.weightsAll P e l
 | d0 :: l, d, hd, m, hm => by
   rw [DataW.weightsAll, List.mem_append]
   rcases List.mem_cons.1 hd with rfl | hd
   · exact .inl hm
   exact .inr (weightsAll_mem hd m hm)
theorem list_of_lt {α : Type} {Q : Nat → α → Prop} : ∀ (n : Nat), (∀ i, i < n → ∃ y, Q i y) → ∃ l : List α, l.length = n ∧ ∀ i y, l[i]? = some y → Q i y
 | 0, _ => ⟨[], rfl, fun i y h => by simp at h⟩
 | n + 1, h => by
   obtain ⟨l, hl, hq⟩ := list_of_lt n (fun i hi => h i qzbas_3)
   obtain ⟨y, hy⟩ := h n qzbas_3
   refine ⟨l ++ [y], by simp [hl], fun i z hz => ?_⟩
   by_cases hi : i < n
   · rw [List.getElem?_append_left qzbas_3] at hz
     exact hq i z hz
   rw [List.getElem?_append_right qzbas_3] at hz
   have hin : i = n := by
    have := (List.getElem?_eq_some_iff.1 hz).1
    simp at this; omega
   subst hin
   simp [hl] at hz
   subst hz
   exact hy
theorem opens_slice {α : Type} {t e : TypeId} {s bs : Nat} {V : World → List Value → α → Prop} {E : World → Nat → Nat → α → Prop} (ht : P.underlying t = some (.slice e)) (hs : P.cellsOf e = s) (hbs : P.bytesOf e = bs) (h0 : 0 < s)
 (hV : Opens P e V) (hE : Lies s V E) : Opens P t (VSl s bs E) := by
 intro H enc w n cs x h hw
 rcases open_slice ht h with ⟨rfl, rfl⟩ | ⟨a, len, cap, m, n', D, Pl, rfl, hb, hl, hm, hmm, rfl, hx⟩
 · exact ⟨[], _, rfl, RS.nil⟩
 simp only [if_true] at hmm
 subst hmm
 subst hs
 have key : ∀ i, i < len → ∃ y, w.cell? ⟨a.block, a.off + i * P.cellsOf e, none⟩ ≠ none ∧ a.spot = none ∧ E w a.block (a.off + i * P.cellsOf e) y := by
  intro i hi
  obtain ⟨cs', h1, h2⟩ := hx i qzbas_3
  obtain ⟨_, hlen, hcell⟩ := World.cells?_some h1
  obtain ⟨y, hy⟩ := hV H enc w n' cs' _ h2 (fun m hm => hw m (by
   rw [DataW.weights, ht]
   refine List.mem_cons_of_mem _ (List.mem_append_left _ ?_)
   exact weightsAll_mem (List.mem_map.2 ⟨i, List.mem_range.2 hi, rfl⟩) m hm))
  have hsp : a.spot = none := by
   have h00 := hcell 0 h0
   have : w.cell? ((a.add (i * P.cellsOf e)).add 0) ≠ none := by rw [h00, List.getElem?_eq_getElem qzbas_3]; simp
   by_cases hsp : a.spot = none
   · exact hsp
   exfalso
   have hi0 : i = 0 := by
    apply Classical.byContradiction; intro hne
    obtain ⟨cs0, g1, _⟩ := hx 0 qzbas_3
    have g2 := (World.cells?_some g1).2.2 0 h0
    rw [List.getElem?_eq_getElem (by have := (World.cells?_some g1).2.1; omega)] at g2
    simp only [Nat.zero_mul, Addr.add, if_true] at g2
    rw [World.cell?_spot g2] at hsp
    exact hsp rfl
   subst hi0
   simp only [Nat.zero_mul, Addr.add, if_true] at this
   exact this (by unfold World.cell?; split <;> simp_all)
  have hadd : ∀ j, j < P.cellsOf e → w.cell? ⟨a.block, a.off + i * P.cellsOf e + j, none⟩ = cs'[j]? := by
   intro j hj
   rw [← hcell j hj]
   congr 1
   obtain ⟨b, o, sp⟩ := a
   simp only at hsp
   subst hsp
   simp only [Addr.add]
   split <;> split <;> simp_all
  refine ⟨y, ?_, hsp, hE _ _ _ _ _ hlen hy hadd⟩
  have := hadd 0 h0
  rw [Nat.add_zero] at this
  rw [this, List.getElem?_eq_getElem qzbas_3]; simp
 obtain ⟨l, hll, hlq⟩ := list_of_lt len key
 have hwt := hw ((len + (m - len)) * P.bytesOf e) (by
  rw [DataW.weights, ht]
  refine List.mem_cons.2 (.inl ?_)
  simp)
 refine ⟨l, _, rfl, some a, m, by rw [hll], by omega, hm, ?_, (fun h0 => by simp at h0), fun k x hk => ?_⟩
 · rw [hll, ← hbs]
   refine Nat.le_trans (Nat.mul_le_mul_right _ qzbas_3) (Nat.le_trans hwt (by decide))
 obtain ⟨g1, g2, g3⟩ := hlq k x hk
 refine ⟨a.block, a.off, ?_, ?_, g3⟩
 · obtain ⟨b, o, sp⟩ := a
   simp only at g2
   rw [g2]
 cases hc : w.cell? ⟨a.block, a.off + k * P.cellsOf e, none⟩ with
 | none => exact absurd hc g1
 | some u => exact World.block_lt_of_cell? w ⟨a.block, a.off + k * P.cellsOf e, none⟩ hc
theorem struct4 {H : Type} {enc : TypeId × Value → H} {w : World} {n : Nat} {cs : List Value} {x : DataW H × List MemPlace} {t : TypeId} {f0 f1 f2 f3 : Field} (ht : P.underlying t = some (.struct #[f0, f1, f2, f3]))
 (ho : f0.offset = 0 ∧ f1.offset = 1 ∧ f2.offset = 2 ∧ f3.offset = 3) (hc : P.cellsOf t = 4) (hs : P.cellsOf f0.type = 1 ∧ P.cellsOf f1.type = 1 ∧ P.cellsOf f2.type = 1 ∧ P.cellsOf f3.type = 1)
 (h : DataW.trod enc P w 0 (fun _ => true) true n t cs = some x) (hw : ∀ m ∈ x.1.weights P t, m ≤ reachBytes) :
 ∃ c0 c1 c2 c3 y0 y1 y2 y3 n', cs = [c0, c1, c2, c3] ∧ DataW.trod enc P w 0 (fun _ => true) true n' f0.type [c0] = some y0 ∧ DataW.trod enc P w 0 (fun _ => true) true n' f1.type [c1] = some y1 ∧
   DataW.trod enc P w 0 (fun _ => true) true n' f2.type [c2] = some y2 ∧ DataW.trod enc P w 0 (fun _ => true) true n' f3.type [c3] = some y3 ∧
   (∀ m ∈ y0.1.weights P f0.type, m ≤ reachBytes) ∧ (∀ m ∈ y1.1.weights P f1.type, m ≤ reachBytes) ∧ (∀ m ∈ y2.1.weights P f2.type, m ≤ reachBytes) ∧ (∀ m ∈ y3.1.weights P f3.type, m ≤ reachBytes) := by
 obtain ⟨xs, n', _, rfl, hl, hlen, hf⟩ := DataW.trod_struct ht h
 obtain ⟨o0, o1, o2, o3⟩ := ho
 obtain ⟨s0, s1, s2, s3⟩ := hs
 rw [hc] at hl
 match xs, hlen, cs, hl with
 | [y0, y1, y2, y3], _, [c0, c1, c2, c3], _ =>
   have g0 := hf 0 f0 rfl
   have g1 := hf 1 f1 rfl
   have g2 := hf 2 f2 rfl
   have g3 := hf 3 f3 rfl
   rw [o0, s0] at g0
   rw [o1, s1] at g1
   rw [o2, s2] at g2
   rw [o3, s3] at g3
   have hww : ∀ m, m ∈ DataW.weightsEach P [f0.type, f1.type, f2.type, f3.type] [y0.1, y1.1, y2.1, y3.1] → m ≤ reachBytes := fun m hm => hw m (by rw [DataW.weights, ht]; exact hm)
   simp only [DataW.weightsEach, List.append_nil, List.mem_append] at hww
   exact ⟨c0, c1, c2, c3, y0, y1, y2, y3, n', rfl, g0, g1, g2, g3, fun m hm => hww m (.inl hm), fun m hm => hww m (.inr (.inl hm)), fun m hm => hww m (.inr (.inr (.inl hm))), fun m hm => hww m (.inr (.inr (.inr hm)))⟩
theorem open_arg {α : Type} {H : Type} {enc : TypeId × Value → H} {w : World} {t : TypeId} {V : World → List Value → α → Prop} {v : Value} {d : DataW H} {ps : List MemPlace} (hV : Opens P t V)
 (h : DataW.Trod enc P w 0 (fun _ => true) true t v d ps) (hw : ∀ m ∈ d.weights P t, m ≤ reachBytes) : ∃ a, V w v.cells.toList a := by
 obtain ⟨n, hn⟩ := h
 exact hV H enc w n _ _ hn hw
theorem cells_slice {v : Value} {e : TypeId} {t : TypeId} {r : Reach} {w : World} {b : Nat} (ht : P.underlying t = some (.slice e)) (h : Value.okWide P w r b t v) : v.cells.toList = [v] := by
 obtain ⟨a, l, c, rfl⟩ := okWide_slice ht h
 rfl
theorem sized_arg {H : Type} {ts : List TypeId} {ds : List (DataW H)} (h : (DataW.weightsEach P ts ds).all (· ≤ reachBytes) = true) {j : Nat} {t : TypeId} {d : DataW H} (ht : ts[j]? = some t) (hd : ds[j]? = some d) : ∀ m ∈ d.weights P t, m ≤ reachBytes := by
 intro m hm
 have := List.all_eq_true.1 h _ (DataW.weights_mem_each ht hd m hm)
 simpa using this
end
def idxOf {α : Type} (q : α → Bool) : List α → Int
 | [] => -1
 | x :: l => if q x = true then 0 else if idxOf q l = -1 then -1 else idxOf q l + 1
theorem idxOf_hit {α : Type} {q : α → Bool} : ∀ {l : List α} {k : Nat} {x : α}, l[k]? = some x → q x = true → (∀ j y, j < k → l[j]? = some y → q y = false) → idxOf q l = (k : Int)
 | [], k, x, hx, _, _ => by simp at hx
 | y :: l, 0, x, hx, hq, _ => by
   simp only [List.getElem?_cons_zero, Option.some.injEq] at hx
   subst hx
   rw [idxOf, if_pos hq]; rfl
 | y :: l, k + 1, x, hx, hq, ha => by
   have h0 := ha 0 y qzbas_3 rfl
   have h1 := idxOf_hit (q := q) (l := l) (k := k) (x := x) hx hq (fun j z hj hz => ha (j + 1) z qzbas_3 hz)
   rw [idxOf, if_neg (by rw [h0]; decide), h1, if_neg qzbas_3]
   omega
theorem idxOf_miss {α : Type} {q : α → Bool} : ∀ {l : List α}, (∀ (j : Nat) y, l[j]? = some y → q y = false) → idxOf q l = -1
 | [], _ => rfl
 | y :: l, ha => by
   have h0 := ha 0 y rfl
   have h1 := idxOf_miss (q := q) (l := l) (fun j z hz => ha (j + 1) z hz)
   rw [idxOf, if_neg (by rw [h0]; decide), h1, if_pos rfl]
def atKey {α : Type} (f : α → ByteArray) (s : ByteArray) : List α → Nat
 | [] => 0
 | x :: l => if (f x).toList == s.toList then 0 else atKey f s l + 1
theorem atKey_le {α : Type} (f : α → ByteArray) (s : ByteArray) : ∀ l : List α, atKey f s l ≤ l.length
 | [] => Nat.le_refl _
 | x :: l => by
   rw [atKey]
   split
   · omega
   have := atKey_le f s l; simp; omega
theorem idx_at {α : Type} (f : α → ByteArray) (s : ByteArray) : ∀ l : List α, idxOf (fun x => (f x).toList == s.toList) l = if atKey f s l = l.length then -1 else (atKey f s l : Int)
 | [] => rfl
 | x :: l => by
   have ih := idx_at f s l
   have hle := atKey_le f s l
   rw [idxOf, atKey]
   by_cases h : ((f x).toList == s.toList) = true
   · rw [if_pos h, if_pos h, if_neg (by simp)]; rfl
   rw [if_neg h, if_neg h, ih]
   by_cases h2 : atKey f s l = l.length
   · rw [if_pos h2, if_pos rfl, if_pos (by simp [h2])]
   rw [if_neg h2, if_neg qzbas_3, if_neg (by simp; omega)]; omega
def findI {α : Type} (f : α → ByteArray) (s : ByteArray) (l : List α) : Int := if atKey f s l = l.length then 0 else (atKey f s l : Int)
def findE {α : Type} (f : α → ByteArray) (s : ByteArray) (l : List α) : Int := if atKey f s l = l.length then 5 else 0
theorem idx_cases {α : Type} (f : α → ByteArray) (s : ByteArray) (l : List α) :
 (idxOf (fun x => (f x).toList == s.toList) l = -1 ∧ findI f s l = 0 ∧ findE f s l = 5) ∨ (0 ≤ idxOf (fun x => (f x).toList == s.toList) l ∧ findI f s l = idxOf (fun x => (f x).toList == s.toList) l ∧ findE f s l = 0) := by
 rw [idx_at]
 unfold findI findE
 split
 · exact .inl ⟨rfl, rfl, rfl⟩
 exact .inr ⟨by omega, rfl, rfl⟩
theorem upto_next_l {α : Type} {q : α → Bool} {l : List α} {k : Nat} {x : α} (h : ∀ j y, j < k → l[j]? = some y → q y = false) (hx : l[k]? = some x) (hq : q x = false) : ∀ j y, j < k + 1 → l[j]? = some y → q y = false := fun j y hj hy => by
 by_cases e : j = k
 · subst e; rw [hx] at hy; simp only [Option.some.injEq] at hy; subst hy; exact hq
 exact h j y qzbas_3 hy
structure XR (α : Type) where
 x : α
 a : Option Addr
 c : Nat
def XR.v {α β : Type} (comp : α → List β) (r : XR α) : Value := .slice r.a (comp r.x).length r.c
def xc {α β : Type} (cells : α → Value → List Value) (comp : α → List β) (r : XR α) : List Value := cells r.x (r.v comp)
def ERaw {ρ : Type} (cells : ρ → List Value) (w : World) (b o : Nat) (r : ρ) : Prop := ∀ j u, (cells r)[j]? = some u → w.cell? ⟨b, o + j, none⟩ = some u
theorem ERaw.stable {ρ : Type} {cells : ρ → List Value} : Stable (ERaw cells) := fun _ _ _ _ _ hb hlt h j u hj => cell_stays hb hlt (h j u hj)
theorem flat_raw {ρ : Type} {cells : ρ → List Value} {s : Nat} (hs : 0 < s) (hl : ∀ r, (cells r).length = s) (h1 : ∀ r u, u ∈ cells r → u.oneCell' = true) : Flat s cells (ERaw cells) :=
 ⟨hs, hl, h1, fun w b o x h j hj => by
  have hj' : j < (cells x).length := by rw [hl]; exact hj
  rw [List.getElem?_eq_getElem hj']
  exact h j _ (List.getElem?_eq_getElem hj')⟩
def EX {α β : Type} (cells : α → Value → List Value) (comp : α → List β) (s' bs' : Nat) (E' : World → Nat → Nat → β → Prop) (ok : α → Prop) (w : World) (b o : Nat) (x : α) : Prop :=
 ∃ dv, (∀ j u, (cells x dv)[j]? = some u → w.cell? ⟨b, o + j, none⟩ = some u) ∧ RS s' bs' E' w dv (comp x) ∧ ok x
section
variable {α β : Type} {cells : α → Value → List Value} {comp : α → List β} {s bs s' bs' : Nat} {E' : World → Nat → Nat → β → Prop} {ok : α → Prop}
theorem of_raw {w : World} {v : Value} {rs : List (XR α)} (h : RS s bs (ERaw (xc cells comp)) w v rs) (hr : ∀ r ∈ rs, RS s' bs' E' w (r.v comp) (comp r.x) ∧ ok r.x) : RS s bs (EX cells comp s' bs' E' ok) w v (rs.map (·.x)) := by
 obtain ⟨a, c, rfl, h1, h2, hb, hn, h3⟩ := h
 refine ⟨a, c, by rw [List.length_map], by rw [List.length_map]; exact h1, h2, by rw [List.length_map]; exact hb, hn, fun k x hk => ?_⟩
 rw [List.getElem?_map] at hk
 obtain ⟨r, hk2, rfl⟩ := Option.map_eq_some_iff.1 hk
 obtain ⟨b, off, ha, hlt, he⟩ := h3 k r hk2
 obtain ⟨g1, g2⟩ := hr r (List.mem_of_getElem? hk2)
 exact ⟨b, off, ha, hlt, _, he, g1, g2⟩
theorem RS.iff {γ : Type} {E E2 : World → Nat → Nat → γ → Prop} {w : World} {v : Value} {l : List γ} (hE : ∀ b o x, E w b o x → E2 w b o x) (h : RS s bs E w v l) : RS s bs E2 w v l := by
 obtain ⟨a, c, rfl, h1, h2, hb, hn, h3⟩ := h
 refine ⟨a, c, rfl, h1, h2, hb, hn, fun k x hk => ?_⟩
 obtain ⟨b, off, ha, hlt, he⟩ := h3 k x hk
 exact ⟨b, off, ha, hlt, hE _ _ _ he⟩
def OX (e : TypeId) (s : Nat) (cells : α → Value → List Value) (comp : α → List β) (C : World → Value → List β → Prop) (w : World) (B : Nat) (v : Value) (l : List α) : Prop :=
 ∃ rs : List (XR α), rs.map (·.x) = l ∧ OS e s (xc cells comp) w B v rs ∧ ∀ r ∈ rs, C w (r.v comp) (comp r.x)
variable {e : TypeId} {C : World → Value → List β → Prop}
theorem OX.nil {w : World} {B : Nat} : OX e s cells comp C w B (.slice none 0 0) [] := ⟨[], rfl, OS.nil, fun r h => by simp at h⟩
theorem OX.below {w w' : World} {B : Nat} {v : Value} {l : List α} (hC : ∀ v l, C w v l → C w' v l) (h : OX e s cells comp C w B v l) (hb : Below w.heap.size w w') : OX e s cells comp C w' B v l := by
 obtain ⟨rs, h1, h2, h3⟩ := h
 exact ⟨rs, h1, h2.below hb, fun r hr => hC _ _ (h3 r hr)⟩
theorem OX.mono {w : World} {B B' : Nat} {v : Value} {l : List α} (h : OX e s cells comp C w B v l) (hB : B' ≤ B) : OX e s cells comp C w B' v l := by
 obtain ⟨rs, h1, h2, h3⟩ := h
 exact ⟨rs, h1, h2.mono hB, h3⟩
theorem OX.to {C' : World → Value → List β → Prop} {w : World} {B : Nat} {v : Value} {l : List α} (hC : ∀ v l, C w v l → C' w v l) (h : OX e s cells comp C w B v l) : OX e s cells comp C' w B v l := by
 obtain ⟨rs, h1, h2, h3⟩ := h
 exact ⟨rs, h1, h2, fun r hr => hC _ _ (h3 r hr)⟩
theorem OX.reads {w : World} {B : Nat} {v : Value} {l : List α} (hs : 0 < s) (hl : ∀ r : XR α, (xc cells comp r).length = s) (h : OX e s cells comp C w B v l) (hb : l.length * bs ≤ 140737488351232)
 (hC : ∀ x v, x ∈ l → C w v (comp x) → RS s' bs' E' w v (comp x)) (ho : ∀ x ∈ l, ok x) : RS s bs (EX cells comp s' bs' E' ok) w v l := by
 obtain ⟨rs, rfl, h2, h3⟩ := h
 rw [List.length_map] at hb
 refine of_raw (OS.reads (cells := xc cells comp) hl hs (fun b o r _ hc j u hj => ?_) h2 hb) fun r hr => ?_
 · have hlt := (List.getElem?_eq_some_iff.1 hj).1
   rw [hc j (by rw [hl] at hlt; exact hlt), hj]
 have := List.mem_map_of_mem (f := fun r : XR α => r.x) hr
 exact ⟨hC _ _ this (h3 r hr), ho _ this⟩
end
def CO {β : Type} (e' : TypeId) (s' : Nat) (cells' : β → List Value) (B : Nat) (w : World) (v : Value) (l : List β) : Prop := OS e' s' cells' w B v l
theorem CO.below {β : Type} {e' : TypeId} {s' : Nat} {cells' : β → List Value} {B : Nat} {w w' : World} (hb : Below w.heap.size w w') : ∀ v l, CO e' s' cells' B w v l → CO e' s' cells' B w' v l := fun _ _ h => OS.below h hb
theorem OS.block_ne {β : Type} {e T : TypeId} {s B p : Nat} {cells : β → List Value} {w : World} {v : Value} {l : List β} {cs : Array Value} {fr : Nat × Nat} (h : OS e s cells w B v l) (hp : w.heap[p]? = some (.cells cs T fr)) (hT : T ≠ e) : v.ownBlock ≠ some p := by
 rcases h.2 with ⟨rfl, _⟩ | ⟨g, cap, cur, rfl, _, hg, _⟩
 · simp [Value.ownBlock]
 intro h
 simp only [Value.ownBlock, Option.some.injEq] at h
 subst h
 rw [hg] at hp
 simp only [Option.some.injEq, Obj.cells.injEq] at hp
 exact hT hp.2.1.symm
theorem OS.apart {α β : Type} {e e' : TypeId} {s s' : Nat} {cells : α → List Value} {cells' : β → List Value} {B B' : Nat} {w w' : World} {v u : Value} {l : List α} {m : List β}
 (h : OS e s cells w B v l) (ho : OS e' s' cells' w B' u m) (hne : e ≠ e') (hg : w.grownBy w' v.ownBlock) : OS e' s' cells' w' B' u m := by
 rcases h.2 with ⟨rfl, _⟩ | ⟨g, cap, cur, rfl, _, hp, _⟩
 · exact World.ownsRow.kept (row := none) ho hg (by cases hv : u.ownBlock <;> simp)
 exact World.ownsRow.kept (row := some g) ho hg (Or.inr (OS.block_ne ho hp hne))
theorem OS.upto {α : Type} {e : TypeId} {s : Nat} {cells : α → List Value} {w : World} {B g n cap : Nat} {l : List α} (hl : ∀ x, (cells x).length = s) (h : OS e s cells w B (.slice (some ⟨g, 0, none⟩) n cap) l) (k : Nat) (hk : k ≤ n) :
 OS e s cells w B (.slice (some ⟨g, 0, none⟩) k cap) (l.take k) := by
 obtain ⟨h1, h2⟩ := h
 rcases h2 with ⟨h2, _⟩ | ⟨g', cap', cur, hv, hg, hh, hnc, hcm, hcs, htake⟩
 · cases h2
 simp only [Value.slice.injEq, Option.some.injEq, Addr.mk.injEq, and_true] at hv
 obtain ⟨rfl, rfl, rfl⟩ := hv
 have hlt : (l.take k).length = k := by rw [List.length_take]; omega
 have hfl := flat_len hl (l.take k)
 rw [hlt] at hfl
 refine ⟨by rw [hlt]; exact hfl, .inr ⟨g, cap, cur, by rw [hlt], hg, hh, by rw [hlt]; omega, hcm, hcs, ?_⟩⟩
 rw [hlt]
 have e1 : l.flatMap cells = (l.take k).flatMap cells ++ (l.drop k).flatMap cells := by rw [← List.flatMap_append, List.take_append_drop]
 rw [e1] at htake
 have hmin : k * s ≤ l.length * s := Nat.mul_le_mul_right _ hk
 have e2 := congrArg (List.take (k * s)) htake
 rw [List.take_take, Nat.min_eq_left hmin, ← hfl, List.take_left] at e2
 rw [← hfl]
 exact e2
theorem run_append_roomL {α : Type} {P : Program} {w : World} {s bs : Nat} {cells : α → List Value} {E : World → Nat → Nat → α → Prop} (F : Flat s cells E) (t ty e : TypeId) (i : TypeInfo) (ht : P.underlying t = some (.slice e)) (hi : P.info? e = some i) (hsize : i.size = s)
 (B g n cap : Nat) (l : List α) (hown : OS e s cells w B (.slice (some ⟨g, 0, none⟩) n cap) l) (u : Value) (m : List α) (hsrc : RS s bs E w u m) (hroom : n + m.length ≤ cap) :
 ∃ w', (Builtin.append_ #[t, t] ty #[.slice (some ⟨g, 0, none⟩) n cap, u]).run P w = .ok (.slice (some ⟨g, 0, none⟩) (n + m.length) cap) w' ∧
  OS e s cells w' B (.slice (some ⟨g, 0, none⟩) (n + m.length) cap) (l ++ m) ∧ w.grownBy w' (some g) := by
 obtain ⟨h1, h2⟩ := hown
 rcases h2 with ⟨h2, _⟩ | ⟨g', cap', cur, hv, hg, hh, hnc, hcm, hcs, htake⟩
 · cases h2
 simp only [Value.slice.injEq, Option.some.injEq, Addr.mk.injEq, and_true] at hv
 obtain ⟨rfl, rfl, rfl⟩ := hv
 subst hsize
 have hfm := flat_len F.len m
 have hfl := flat_len F.len l
 have hone : ∀ u ∈ m.flatMap cells, u.oneCell' = true := by
  exact qzbas_1
 rcases hsrc.cells F with ⟨rfl, rfl⟩ | ⟨ad, c, rfl, hc⟩
 · refine ⟨w, ?_, ⟨by simpa using h1, .inr ⟨g, cap, cur, by simp, hg, hh, by simpa using hnc, hcm, hcs, by simpa using htake⟩⟩, ⟨rfl, rfl, rfl, Nat.le_refl _, fun _ _ _ => rfl⟩⟩
   exact qzbas_2
 have hfit : l.length * i.size + (m.flatMap cells).length ≤ cur.size := by rw [hfm, hcs, ← Nat.add_mul]; exact Nat.mul_le_mul_right _ hroom
 have hr := run_append_room (P := P) w t ty e i ht hi g l.length cap cur hh ad m.length c (m.flatMap cells) hfm hc hone hroom hfit
 refine ⟨_, hr, ⟨?_, .inr ⟨g, cap, _, by rw [List.length_append], hg, setRow_heap w g cur _ e _ hh, by rw [List.length_append]; exact hroom, hcm, ?_, ?_⟩⟩, ⟨rfl, rfl, rfl, by simp, fun k _ hk => setRow_other w g k _ (fun e => hk (by simp [e]))⟩⟩
 · rw [flat_len F.len]
 · simp only [List.size_toArray, List.length_append, List.length_take, List.length_drop, Array.length_toList]
   omega
 rw [htake, List.flatMap_append, List.length_append, Nat.add_mul, ← hfm, ← hfl, ← List.length_append]
 exact List.take_left
theorem wpL_append_room {α : Type} {P : Program} {w : World} {ops : Array Oper} {rest : List Oper} {o : Oper} {a : Act} {Q : Exit → Act → World → Prop} {s bs : Nat} {cells : α → List Value} {E : World → Nat → Nat → α → Prop} (F : Flat s cells E)
 (hgd : o.guard = none) (x y : Operand) (t : TypeId) (ho : o.op = .call { callee := .builtin .append, args := #[x, y], argTypes := #[t, t] })
 (e : TypeId) (i : TypeInfo) (ht : P.underlying t = some (.slice e)) (hi : P.info? e = some i) (hsize : i.size = s)
 (B g n cap : Nat) (l : List α) (hs : a.eval x = .slice (some ⟨g, 0, none⟩) n cap) (hown : OS e s cells w B (.slice (some ⟨g, 0, none⟩) n cap) l) (u : Value) (m : List α) (hx : a.eval y = u) (hsrc : RS s bs E w u m)
 (hroom : n + m.length ≤ cap)
 (h : ∀ w', OS e s cells w' B (.slice (some ⟨g, 0, none⟩) (n + m.length) cap) (l ++ m) → w.grownBy w' (some g) → wpList P ops Q rest (a.put o.dst (.slice (some ⟨g, 0, none⟩) (n + m.length) cap)) w') : wpList P ops Q (o :: rest) a w := by
 obtain ⟨w', hr, hO, hG⟩ := run_append_roomL (P := P) F t o.type e i ht hi hsize B g n cap l hown u m hsrc hroom
 refine wpList_plain hgd fun K hK => ?_
 unfold Oper.wp execOp
 simp only [ho, resolve, invoke, builtin, Sem.run_bind, Sem.run_pure, Result.andThen_ok, List.map_toArray, List.map_cons, List.map_nil, hs, hx, hr]
 exact hK _ _ (h w' hO hG)
theorem stepL_append {α : Type} {P : Program} {w : World} {ops : Array Oper} {o : Oper} {a : Act} {K : Act → World → Prop} {Q : Exit → Act → World → Prop} {X : Prop} {s bs : Nat} {cells : α → List Value} {E : World → Nat → Nat → α → Prop} (F : Flat s cells E)
 (hgd : o.guard = none) (x y : Operand) (t : TypeId) (ho : o.op = .call { callee := .builtin .append, args := #[x, y], argTypes := #[t, t] })
 (e : TypeId) (i : TypeInfo) (z : Value) (ht : P.underlying t = some (.slice e)) (hi : P.info? e = some i) (hz : i.zero = some z) (hsize : i.size = s) (hby : i.bytes = bs) (hzs : z.cells.size = s)
 (B : Nat) (v : Value) (l : List α) (hs : a.eval x = v) (hown : OS e s cells w B v l) (u : Value) (m : List α) (hx : a.eval y = u) (hsrc : RS s bs E w u m)
 (hlen : (l.length + m.length) * bs ≤ 140737488355328) (hmax : l.length + m.length ≤ maxLen) (hB : B ≤ w.heap.size)
 (h : ∀ v' w', OS e s cells w' B v' (l ++ m) → w.grownBy w' v.ownBlock → K (a.put o.dst v') w') : if Region.wanted o (yielded ops a.tmps) = true then Oper.wp P o a w K Q else X := by
 have hw : Region.wanted o (yielded ops a.tmps) = true := by simp [Region.wanted, hgd]
 rw [if_pos hw]
 rcases hsrc.cells F with ⟨rfl, rfl⟩ | ⟨ad, c, rfl, hc⟩
 · obtain ⟨w', hr, hO, hG⟩ : ∃ w', (Builtin.append_ #[t, t] o.type #[v, .slice none 0 0]).run P w = .ok v w' ∧ OS e s cells w' B v l ∧ w.grownBy w' v.ownBlock := by
    refine ⟨w, ?_, hown, ⟨rfl, rfl, rfl, Nat.le_refl _, fun _ _ _ => rfl⟩⟩
    rcases hown.2 with ⟨rfl, hn⟩ | ⟨g, cap, cur, rfl, _, hh, hnc, _⟩
    · simp [Builtin.append_, run_underlying ht, sizeOf, typeInfo, hi, Builtin.lenOf, Builtin.firstCells]
    exact qzbas_2
   unfold Oper.wp execOp
   simp only [ho, resolve, invoke, builtin, Sem.run_bind, Sem.run_pure, Result.andThen_ok, List.map_toArray, List.map_cons, List.map_nil, hs, hx, hr]
   exact h v w' (by simpa using hO) hG
 refine wp_append_own (P := P) w x y t ho B e i z s bs ht hi hz hsize hby hzs F.pos v l.length (l.flatMap cells) hs hown ad m.length c (m.flatMap cells) hx (flat_len F.len m) hc ?_ hmax hlen hB ?_
 · exact qzbas_1
 intro v' w' h1 h2 _
 exact h v' w' (by unfold OS; rw [List.length_append, List.flatMap_append]; exact h1) h2
theorem clear_own {α : Type} {P : Program} {w : World} {s : Nat} {cells : α → List Value} {e t : TypeId} {z : Value} (ht : P.underlying t = some (.slice e)) (hv : ∀ w, (zeroValue e).run P w = .ok z w) (hz : z.cells.size = s) (h1 : z.cells.all (·.oneCell') = true)
 {B g n cap : Nat} {l : List α} (hown : OS e s cells w B (.slice (some ⟨g, 0, none⟩) n cap) l) (k c : Nat) (hk : 0 < k) (hroom : n + k ≤ cap) :
 ∃ w', (∀ ty, (Builtin.clear_ #[t] ty #[.slice (some ⟨g, n * s, none⟩) k c]).run P w = .ok (.tuple #[]) w') ∧ OS e s cells w' B (.slice (some ⟨g, 0, none⟩) n cap) l ∧ w.grownBy w' (some g) := by
 obtain ⟨h0, h2⟩ := hown
 rcases h2 with ⟨h2, _⟩ | ⟨g', cap', cur, hvv, hg, hh, hnc, hcm, hcs, htake⟩
 · cases h2
 simp only [Value.slice.injEq, Option.some.injEq, Addr.mk.injEq, and_true] at hvv
 obtain ⟨rfl, rfl, rfl⟩ := hvv
 have hzl : (Builtin.zeroCells z.cells k).toList.length = k * s := by rw [Array.length_toList, size_zeroCells, hz]
 have hone : ∀ v ∈ (Builtin.zeroCells z.cells k).toList, v.oneCell' = true := by
  intro v hv
  simp only [Builtin.zeroCells, Array.toList_map, List.mem_map] at hv
  obtain ⟨i, hi, rfl⟩ := hv
  have hpos : 0 < z.cells.size := by
   rcases Nat.eq_zero_or_pos z.cells.size with h | h
   · rw [h] at hi; simp at hi
   exact h
  rw [Array.all_eq_true] at h1
  have hlt := Nat.mod_lt i hpos
  have := h1 (i % z.cells.size) hlt
  rw [getElem!_pos z.cells _ hlt]
  exact this
 have hst := run_storeCells_at P g (l.length * s) e (Builtin.zeroCells z.cells k).toList 0 cur w hh (by rw [hzl, hcs, Nat.add_zero, ← Nat.add_mul]; exact Nat.mul_le_mul_right _ hroom) hone
 obtain ⟨j, rfl⟩ : ∃ j, k = j + 1 := ⟨k - 1, by omega⟩
 rw [Nat.add_zero] at hst
 generalize hnew : (List.take (l.length * s) cur.toList ++ (Builtin.zeroCells z.cells (j + 1)).toList ++ List.drop (l.length * s + (Builtin.zeroCells z.cells (j + 1)).toList.length) cur.toList).toArray = new at hst
 have hns : new.size = cap * s := by
  rw [← hnew]
  simp only [List.size_toArray, List.length_append, List.length_take, List.length_drop, Array.length_toList, hcs]
  rw [Array.length_toList] at hzl
  have h9 : (l.length + (j + 1)) * s ≤ cap * s := Nat.mul_le_mul_right _ hroom
  rw [Nat.add_mul] at h9
  omega
 have hnt : new.toList.take (l.length * s) = l.flatMap cells := by
  rw [← hnew, htake]
  simp only [List.append_assoc]
  have h9 : (l.flatMap cells).length = l.length * s := h0
  rw [← h9]
  exact List.take_left
 refine ⟨w.setRow g new, fun ty => ?_, ⟨h0, .inr ⟨g, cap, new, rfl, hg, setRow_heap w g cur _ e _ hh, hnc, hcm, hns, hnt⟩⟩, ⟨rfl, rfl, rfl, by simp, fun q _ hq => setRow_other w g q _ (fun e => hq (by simp [e]))⟩⟩
 simp [Builtin.clear_, run_underlying ht, hv, hst]
theorem os_empty' {α : Type} {s : Nat} {cells : α → List Value} (w : World) (t : TypeId) (B k : Nat) (hk : k = w.heap.size) (hB : B ≤ w.heap.size) : OS t s cells (w.alloc (.cells #[] t)) B (.slice (some ⟨k, 0, none⟩) 0 0) [] := by
 subst hk
 exact ⟨by simp, .inr ⟨w.heap.size, 0, #[], rfl, hB, heap_alloc_new w _, by simp, by simp [maxLen], by simp, by simp⟩⟩
theorem row_one {ρ : Type} {cells : ρ → List Value} {s bs : Nat} (W : World) (T : TypeId) (r : ρ) (A : Array Value) (k : Nat) (hk : k = W.heap.size) (hA : A.toList = cells r) (hbs : bs ≤ 140737488351232) : RS s bs (ERaw cells) (W.alloc (.cells A T)) (.slice (some ⟨k, 0, none⟩) 1 1) [r] := by
 subst hk
 refine ⟨_, _, rfl, by simp, by simp [maxLen], by simpa using hbs, fun h => by simp at h, fun j x hj => ⟨W.heap.size, 0, rfl, by simp, ?_⟩⟩
 obtain rfl : j = 0 := by have := (List.getElem?_eq_some_iff.1 hj).1; simp at this; omega
 simp only [List.getElem?_cons_zero, Option.some.injEq] at hj
 subst hj
 intro i u hi
 rw [cell_of_row _ _ _ _ _ _ (heap_alloc_new W _), ← hi, ← hA]
 simp
theorem OS.setOld {α : Type} {e : TypeId} {s B q o : Nat} {cells : α → List Value} {w : World} {v u : Value} {l : List α} (h : OS e s cells w B v l) (hq : q < B) : OS e s cells (w.setCell ⟨q, o, none⟩ u) B v l := by
 refine World.ownsRow.kept (row := some q) h ⟨rfl, rfl, rfl, by simp [World.setCell], fun k _ hk => Below.heap_setCell _ _ _ _ (fun e => hk (by simp [e]))⟩ (Or.inr fun hb => ?_)
 have := (World.ownsRow.lt h q hb).1
 omega
theorem OX.join {α β : Type} {e e' : TypeId} {s s' B : Nat} {cells : α → Value → List Value} {comp : α → List β} {cells' : β → List Value} {W w' : World} {v v' : Value} {rs r2 : List (XR α)}
 (hO : OS e s (xc cells comp) w' B v' (rs ++ r2)) (hg : W.grownBy w' v.ownBlock) (hv : OS e s (xc cells comp) W B v rs) (hne : e ≠ e')
 (hc : ∀ q ∈ rs, CO e' s' cells' B W (q.v comp) (comp q.x)) (hr : ∀ q ∈ r2, CO e' s' cells' B W (q.v comp) (comp q.x)) : OX e s cells comp (CO e' s' cells' B) w' B v' (rs.map (·.x) ++ r2.map (·.x)) := by
 refine ⟨rs ++ r2, by simp, hO, fun q hq => ?_⟩
 rcases List.mem_append.1 hq with hq | hq
 · exact OS.apart hv (hc q hq) hne hg
 exact OS.apart hv (hr q hq) hne hg
theorem OX.grow {α β : Type} {e e' : TypeId} {s s' B : Nat} {cells : α → Value → List Value} {comp : α → List β} {cells' : β → List Value} {W w' : World} {v v' : Value} {rs : List (XR α)} {r : XR α}
 (hO : OS e s (xc cells comp) w' B v' (rs ++ [r])) (hg : W.grownBy w' v.ownBlock) (hv : OS e s (xc cells comp) W B v rs) (hne : e ≠ e')
 (hc : ∀ q ∈ rs, CO e' s' cells' B W (q.v comp) (comp q.x)) (hr : CO e' s' cells' B W (r.v comp) (comp r.x)) : OX e s cells comp (CO e' s' cells' B) w' B v' (rs.map (·.x) ++ [r.x]) := by
 refine ⟨rs ++ [r], by simp, hO, fun q hq => ?_⟩
 rcases List.mem_append.1 hq with hq | hq
 · exact OS.apart hv (hc q hq) hne hg
 simp only [List.mem_singleton] at hq
 subst hq
 exact OS.apart hv hr hne hg
theorem frozen_heap {w : World} {b : Nat} {cs : Array Value} {T : TypeId} (h : w.heap[b]? = some (.cells cs T (0, 0))) (o : Nat) : w.frozen? ⟨b, o, none⟩ = false := by
 simp [World.frozen?, h]
theorem box3f {w : World} {b : Nat} {c0 c1 c2 : Value} {T : TypeId} (h : w.heap[b]? = some (.cells #[c0, c1, c2] T (0, 0))) : w.cell? ⟨b, 0, none⟩ = some c0 ∧ w.cell? ⟨b, 1, none⟩ = some c1 ∧ w.cell? ⟨b, 2, none⟩ = some c2 ∧
 w.frozen? ⟨b, 0, none⟩ = false ∧ w.frozen? ⟨b, 1, none⟩ = false ∧ w.frozen? ⟨b, 2, none⟩ = false :=
 ⟨cell_of_row _ _ 0 _ _ _ h, cell_of_row _ _ 1 _ _ _ h, cell_of_row _ _ 2 _ _ _ h, frozen_heap h 0, frozen_heap h 1, frozen_heap h 2⟩
theorem flatMap_set {α : Type} {cells : α → List Value} {s : Nat} (hl : ∀ x, (cells x).length = s) : ∀ (l : List α) (i o : Nat) (x' : α) (u : Value) (x : α), l[i]? = some x → o < s → cells x' = (cells x).set o u →
 (l.set i x').flatMap cells = (l.flatMap cells).set (i * s + o) u
 | [], i, _, _, _, _, h, _, _ => by simp at h
 | y :: l, 0, o, x', u, x, h, ho, hc => by
   simp only [List.getElem?_cons_zero, Option.some.injEq] at h
   subst h
   simp only [List.set_cons_zero, List.flatMap_cons, Nat.zero_mul, Nat.zero_add]
   rw [hc, List.set_append_left _ _ (by rw [hl]; exact ho)]
 | y :: l, i + 1, o, x', u, x, h, ho, hc => by
   simp only [List.getElem?_cons_succ] at h
   simp only [List.set_cons_succ, List.flatMap_cons]
   rw [flatMap_set hl l i o x' u x h ho hc, List.set_append_right _ _ (by rw [hl, Nat.succ_mul]; omega), hl]
   rw [show (i + 1) * s + o - s = i * s + o by rw [Nat.succ_mul]; omega]
theorem OS.put {α : Type} {e : TypeId} {s B g n cap i o : Nat} {cells : α → List Value} {w : World} {l : List α} {x x' : α} {u : Value} (h : OS e s cells w B (.slice (some ⟨g, 0, none⟩) n cap) l) (hl : ∀ x, (cells x).length = s)
 (hx : l[i]? = some x) (ho : o < s) (hc : cells x' = (cells x).set o u) : OS e s cells (w.setCell ⟨g, i * s + o, none⟩ u) B (.slice (some ⟨g, 0, none⟩) n cap) (l.set i x') := by
 obtain ⟨h1, hcase⟩ := h
 rcases hcase with ⟨hv, -⟩ | ⟨g', cap', cur, hv, hB, hh, hnc, hm, hsz, hcur⟩
 · cases hv
 simp only [Value.slice.injEq, Option.some.injEq, Addr.mk.injEq, and_true] at hv
 obtain ⟨rfl, rfl, rfl⟩ := hv
 refine ⟨?_, .inr ⟨g, cap, cur.setIfInBounds (i * s + o) u, by rw [List.length_set], hB, ?_, by rw [List.length_set]; exact hnc, hm, by rw [Array.size_setIfInBounds]; exact hsz, ?_⟩⟩
 · rw [flatMap_set hl l i o x' u x hx ho hc, List.length_set, List.length_set]; exact h1
 · simp [World.setCell, Array.getElem?_modify, hh]
 rw [flatMap_set hl l i o x' u x hx ho hc, List.length_set, Array.toList_setIfInBounds, List.take_set, hcur]
theorem OS.owns {α : Type} {e : TypeId} {s B g n cap : Nat} {cells : α → List Value} {w : World} {l : List α} (h : OS e s cells w B (.slice (some ⟨g, 0, none⟩) n cap) l) : ∃ cur, w.heap[g]? = some (.cells cur e (0, 0)) := by
 rcases h.2 with ⟨hv, -⟩ | ⟨g', cap', cur, hv, hB, hh, -⟩
 · cases hv
 simp only [Value.slice.injEq, Option.some.injEq, Addr.mk.injEq, and_true] at hv
 obtain ⟨rfl, -, -⟩ := hv
 exact ⟨cur, hh⟩
theorem OX.put {α β : Type} {e e' : TypeId} {s s' B g n cap i o : Nat} {cells : α → Value → List Value} {comp : α → List β} {cells' : β → List Value} {w : World} {l : List α} {x x' : α} {u : Value}
 (h : OX e s cells comp (CO e' s' cells' B) w B (.slice (some ⟨g, 0, none⟩) n cap) l) (hne : e ≠ e') (hl : ∀ r : XR α, (xc cells comp r).length = s)
 (hx : l[i]? = some x) (ho : o < s) (hcomp : comp x' = comp x) (hc : ∀ v, cells x' v = (cells x v).set o u) :
 OX e s cells comp (CO e' s' cells' B) (w.setCell ⟨g, i * s + o, none⟩ u) B (.slice (some ⟨g, 0, none⟩) n cap) (l.set i x') := by
 obtain ⟨rs, rfl, h2, h3⟩ := h
 rw [List.getElem?_map] at hx
 obtain ⟨r, hr, rfl⟩ := Option.map_eq_some_iff.1 hx
 obtain ⟨cur, hcur⟩ := OS.owns h2
 have hv : XR.v comp ⟨x', r.a, r.c⟩ = r.v comp := by unfold XR.v; simp only [hcomp]
 have kept : ∀ v l, CO e' s' cells' B w v l → CO e' s' cells' B (w.setCell ⟨g, i * s + o, none⟩ u) v l := fun v l hC =>
  World.ownsRow.kept (row := some g) hC ⟨rfl, rfl, rfl, by simp [World.setCell], fun k _ hk => Below.heap_setCell _ _ _ _ (fun e => hk (by simp [e]))⟩ (Or.inr (OS.block_ne hC hcur hne))
 refine ⟨rs.set i ⟨x', r.a, r.c⟩, by rw [List.map_set], OS.put h2 hl hr ho (by unfold xc; rw [hv]; exact hc _), fun q hq => ?_⟩
 rcases List.mem_or_eq_of_mem_set hq with hq | rfl
 · exact kept _ _ (h3 q hq)
 rw [hv, hcomp]; exact kept _ _ (h3 r (List.mem_of_getElem? hr))
theorem hold {w : World} {k : Nat} {x o : Obj} (h : w.heap[k]? = some x) : (w.alloc o).heap[k]? = some x := (heap_alloc_old w o (Array.getElem?_eq_some_iff.1 h).1).trans h
end Go.Proofs.YtpkpgehiplhkpaaGreat
