/-
  From the reading of an argument as data to the reading predicates of Lib. General laws; instances by the kinds of elements.
-/
import Derived.Test.YtaojfpgbpakmpaaLib
import Derived.ProofKit
import Derived.OpenShut
import Derived.ShutString
import Derived.SizedLaws
import Derived.Deep.Strs
namespace Go.Proofs.Ytaojfpgbpakmpaa
open Go.RowKit Go.Deep Go.ChangeShapes Go.WideShapes

/-- Cells that read as data at type t are cells that read by V, where no part of the data is larger than an argument may be. -/
def Opens {α : Type} (P : Program) (t : TypeId) (V : World → List Value → α → Prop) : Prop :=
  ∀ (H : Type) (enc : TypeId × Value → H) (w : World) (n : Nat) (cs : List Value) (x : DataW H × List MemPlace), DataW.trod enc P w 0 (fun _ => true) true n t cs = some x → (∀ m ∈ x.1.weights P t, m ≤ reachBytes) → ∃ a, V w cs a

def VStr (_ : World) (cs : List Value) (x : ByteArray) : Prop := cs = [.string x] ∧ x.size ≤ 140737488351232
def VI (_ : World) (cs : List Value) (x : Int) : Prop := cs = [.int .i64 x] ∧ (Lit.int .i64 x).wf = true
def VB (_ : World) (cs : List Value) (x : Bool) : Prop := cs = [.bool x]
def VU8 (_ : World) (cs : List Value) (x : UInt8) : Prop := cs = [.int .u8 (x.toNat : Int)]
def VU32 (_ : World) (cs : List Value) (x : UInt32) : Prop := cs = [.int .u32 (x.toNat : Int)]
def VSl {α : Type} (s bs : Nat) (E : World → Nat → Nat → α → Prop) (w : World) (cs : List Value) (l : List α) : Prop := ∃ v, cs = [v] ∧ RS s bs E w v l
def VPart (_ : World) (cs : List Value) (x : Part) : Prop := cs = [.string x.name, .string x.digest, .int .i64 x.size] ∧ x.name.size ≤ 140737488351232 ∧ x.digest.size ≤ 140737488351232 ∧ (Lit.int .i64 x.size).wf = true
def VBlob (w : World) (cs : List Value) (x : Blob) : Prop := ∃ dv, cs = [.string x.digest, dv, .int .i64 x.pins, .bool x.mark] ∧ RB w dv x.data ∧ x.digest.size ≤ 140737488351232 ∧ (Lit.int .i64 x.pins).wf = true
def VEntry (w : World) (cs : List Value) (x : Entry) : Prop := ∃ pv, cs = [.string x.key, pv, .int .i64 x.pins, .int .i64 x.stamp] ∧ RP w pv x.parts ∧ x.key.size ≤ 140737488351232 ∧ (Lit.int .i64 x.pins).wf = true ∧ (Lit.int .i64 x.stamp).wf = true
def VFlight (w : World) (cs : List Value) (x : Flight) : Prop := ∃ pv, cs = [.string x.key, .int .i64 x.leader, pv] ∧ RI w pv x.waiters ∧ x.key.size ≤ 140737488351232 ∧ (Lit.int .i64 x.leader).wf = true

/-- Cells in memory that read by V read by E at their place. -/
def Lies {α : Type} (s : Nat) (V : World → List Value → α → Prop) (E : World → Nat → Nat → α → Prop) : Prop :=
  ∀ w cs b o x, cs.length = s → V w cs x → (∀ j, j < s → w.cell? ⟨b, o + j, none⟩ = cs[j]?) → E w b o x

theorem lies_u8 : Lies 1 VU8 EU8 := fun w cs b o x _ h hc => by rw [h] at hc; exact hc 0 (by omega)
theorem lies_u32 : Lies 1 VU32 EU32 := fun w cs b o x _ h hc => by rw [h] at hc; exact hc 0 (by omega)
theorem lies_i : Lies 1 VI EI := fun w cs b o x _ h hc => by obtain ⟨rfl, h⟩ := h; exact ⟨hc 0 (by omega), h⟩
theorem lies_str : Lies 1 VStr EStr := fun w cs b o x _ h hc => by obtain ⟨rfl, h⟩ := h; exact ⟨hc 0 (by omega), h⟩
theorem lies_part : Lies 3 VPart EPart := fun w cs b o x _ h hc => by obtain ⟨rfl, h⟩ := h; exact ⟨hc 0 (by omega), hc 1 (by omega), hc 2 (by omega), h⟩
theorem lies_blob : Lies 4 VBlob EBlob := fun w cs b o x _ h hc => by obtain ⟨dv, rfl, h⟩ := h; exact ⟨dv, hc 0 (by omega), hc 1 (by omega), hc 2 (by omega), hc 3 (by omega), h⟩
theorem lies_entry : Lies 4 VEntry EEntry := fun w cs b o x _ h hc => by obtain ⟨dv, rfl, h⟩ := h; exact ⟨dv, hc 0 (by omega), hc 1 (by omega), hc 2 (by omega), hc 3 (by omega), h⟩
theorem lies_flight : Lies 3 VFlight EFlight := fun w cs b o x _ h hc => by obtain ⟨dv, rfl, h⟩ := h; exact ⟨dv, hc 0 (by omega), hc 1 (by omega), hc 2 (by omega), h⟩

section
variable {P : Program}

theorem opens_string {t : TypeId} (ht : P.underlying t = some .string) : Opens P t VStr := by
  intro H enc w n cs x h hw
  obtain ⟨s, rfl, rfl, hs⟩ := DataW.trod_string ht h
  refine ⟨s, rfl, ?_⟩
  have := hw s.data.toList.length (by simp [DataW.weights])
  simpa [reachBytes] using this

theorem opens_i {t : TypeId} (ht : P.underlying t = some (.int .i64)) : Opens P t VI := by
  intro H enc w n cs x h hw
  obtain ⟨a, rfl, rfl, hs⟩ := DataW.trod_int ht h
  exact ⟨a, rfl, hs⟩

theorem opens_bool {t : TypeId} (ht : P.underlying t = some .bool) : Opens P t VB := by
  intro H enc w n cs x h hw
  obtain ⟨a, rfl, rfl⟩ := DataW.trod_bool ht h
  exact ⟨a, rfl⟩

theorem opens_u8 {t : TypeId} (ht : P.underlying t = some (.int .u8)) : Opens P t VU8 := by
  intro H enc w n cs x h hw
  obtain ⟨a, rfl, rfl, hs⟩ := DataW.trod_int ht h
  have hb : 0 ≤ a ∧ a ≤ 255 := by simpa [Lit.wf, IntKind.min, IntKind.max, IntKind.signed, IntKind.bits] using hs
  refine ⟨UInt8.ofNat a.toNat, ?_⟩
  show [Value.int .u8 a] = [_]
  congr 2
  simp only [UInt8.toNat_ofNat']
  omega

theorem opens_u32 {t : TypeId} (ht : P.underlying t = some (.int .u32)) : Opens P t VU32 := by
  intro H enc w n cs x h hw
  obtain ⟨a, rfl, rfl, hs⟩ := DataW.trod_int ht h
  have hb : 0 ≤ a ∧ a ≤ 4294967295 := by simpa [Lit.wf, IntKind.min, IntKind.max, IntKind.signed, IntKind.bits] using hs
  refine ⟨UInt32.ofNat a.toNat, ?_⟩
  show [Value.int .u32 a] = [_]
  congr 2
  simp only [UInt32.toNat_ofNat']
  omega

theorem weightsAll_mem {H : Type} {e : TypeId} : ∀ {l : List (DataW H)} {d : DataW H}, d ∈ l → ∀ m ∈ d.weights P e, m ∈ DataW.weightsAll P e l
  | d0 :: l, d, hd, m, hm => by
    rw [DataW.weightsAll, List.mem_append]
    rcases List.mem_cons.1 hd with rfl | hd
    · exact .inl hm
    · exact .inr (weightsAll_mem hd m hm)

theorem list_of_lt {α : Type} {Q : Nat → α → Prop} : ∀ (n : Nat), (∀ i, i < n → ∃ y, Q i y) → ∃ l : List α, l.length = n ∧ ∀ i y, l[i]? = some y → Q i y
  | 0, _ => ⟨[], rfl, fun i y h => by simp at h⟩
  | n + 1, h => by
    obtain ⟨l, hl, hq⟩ := list_of_lt n (fun i hi => h i (by omega))
    obtain ⟨y, hy⟩ := h n (by omega)
    refine ⟨l ++ [y], by simp [hl], fun i z hz => ?_⟩
    by_cases hi : i < n
    · rw [List.getElem?_append_left (by omega)] at hz
      exact hq i z hz
    · rw [List.getElem?_append_right (by omega)] at hz
      have hin : i = n := by
        have := (List.getElem?_eq_some_iff.1 hz).1
        simp at this; omega
      subst hin
      simp [hl] at hz
      subst hz
      exact hy

/-- A slice of elements that open opens. -/
theorem opens_slice {α : Type} {t e : TypeId} {s bs : Nat} {V : World → List Value → α → Prop} {E : World → Nat → Nat → α → Prop} (ht : P.underlying t = some (.slice e)) (hs : P.cellsOf e = s) (hbs : P.bytesOf e = bs) (h0 : 0 < s)
    (hV : Opens P e V) (hE : Lies s V E) : Opens P t (VSl s bs E) := by
  intro H enc w n cs x h hw
  rcases open_slice ht h with ⟨rfl, rfl⟩ | ⟨a, len, cap, m, n', D, Pl, rfl, hb, hl, hm, hmm, rfl, hx⟩
  · exact ⟨[], _, rfl, RS.nil⟩
  · simp only [if_true] at hmm
    subst hmm
    subst hs
    have key : ∀ i, i < len → ∃ y, w.cell? ⟨a.block, a.off + i * P.cellsOf e, none⟩ ≠ none ∧ a.spot = none ∧ E w a.block (a.off + i * P.cellsOf e) y := by
      intro i hi
      obtain ⟨cs', h1, h2⟩ := hx i (by omega)
      obtain ⟨_, hlen, hcell⟩ := World.cells?_some h1
      obtain ⟨y, hy⟩ := hV H enc w n' cs' _ h2 (fun m hm => hw m (by
        rw [DataW.weights, ht]
        refine List.mem_cons_of_mem _ (List.mem_append_left _ ?_)
        exact weightsAll_mem (List.mem_map.2 ⟨i, List.mem_range.2 hi, rfl⟩) m hm))
      have hsp : a.spot = none := by
        have h00 := hcell 0 h0
        have : w.cell? ((a.add (i * P.cellsOf e)).add 0) ≠ none := by rw [h00, List.getElem?_eq_getElem (by omega)]; simp
        by_cases hsp : a.spot = none
        · exact hsp
        · exfalso
          have hi0 : i = 0 := by
            apply Classical.byContradiction; intro hne
            -- a later element's address has no spot, but element 0 has
            obtain ⟨cs0, g1, _⟩ := hx 0 (by omega)
            have g2 := (World.cells?_some g1).2.2 0 h0
            rw [List.getElem?_eq_getElem (by have := (World.cells?_some g1).2.1; omega)] at g2
            simp only [Nat.zero_mul, Addr.add, if_true] at g2
            rw [World.cell?_spot g2] at hsp
            exact hsp rfl
          subst hi0
          simp only [Nat.zero_mul, Addr.add, if_true] at this
          exact this (by unfold World.cell?; split <;> simp_all)
      have hadd : ∀ j, j < P.cellsOf e → w.cell? ⟨a.block, a.off + i * P.cellsOf e + j, none⟩ = cs'[j]? := by
        intro j hj
        rw [← hcell j hj]
        congr 1
        obtain ⟨b, o, sp⟩ := a
        simp only at hsp
        subst hsp
        simp only [Addr.add]
        split <;> split <;> simp_all
      refine ⟨y, ?_, hsp, hE _ _ _ _ _ hlen hy hadd⟩
      have := hadd 0 h0
      rw [Nat.add_zero] at this
      rw [this, List.getElem?_eq_getElem (by omega)]; simp
    obtain ⟨l, hll, hlq⟩ := list_of_lt len key
    have hwt := hw ((len + (m - len)) * P.bytesOf e) (by
      rw [DataW.weights, ht]
      refine List.mem_cons.2 (.inl ?_)
      simp)
    refine ⟨l, _, rfl, some a, m, by rw [hll], by omega, hm, ?_, (fun h0 => by simp at h0), fun k x hk => ?_⟩
    · rw [hll, ← hbs]
      refine Nat.le_trans (Nat.mul_le_mul_right _ (by omega)) (Nat.le_trans hwt (by decide))
    · obtain ⟨g1, g2, g3⟩ := hlq k x hk
      refine ⟨a.block, a.off, ?_, ?_, g3⟩
      · obtain ⟨b, o, sp⟩ := a
        simp only at g2
        rw [g2]
      · cases hc : w.cell? ⟨a.block, a.off + k * P.cellsOf e, none⟩ with
        | none => exact absurd hc g1
        | some u => exact World.block_lt_of_cell? w ⟨a.block, a.off + k * P.cellsOf e, none⟩ hc

theorem opens_part {t : TypeId} {f0 f1 f2 : Field} (ht : P.underlying t = some (.struct #[f0, f1, f2])) (h0 : f0.offset = 0 ∧ P.underlying f0.type = some .string) (h1 : f1.offset = 1 ∧ P.underlying f1.type = some .string)
    (h2 : f2.offset = 2 ∧ P.underlying f2.type = some (.int .i64)) (hc : P.cellsOf t = 3) (hs : P.cellsOf f0.type = 1) (hs1 : P.cellsOf f1.type = 1) (hs2 : P.cellsOf f2.type = 1) : Opens P t VPart := by
  intro H enc w n cs x h hw
  obtain ⟨y0, y1, y2, n', rfl, hl, g0, g1, g2⟩ := trod_struct3 ht h
  rw [h0.1, hs] at g0
  rw [h1.1, hs1] at g1
  rw [h2.1, hs2] at g2
  rw [hc] at hl
  match cs, hl with
  | [c0, c1, c2], _ =>
    simp only [List.drop_zero, List.drop_succ_cons, List.take_succ_cons, List.take_zero] at g0 g1 g2
    have hww : ∀ m, m ∈ DataW.weightsEach P [f0.type, f1.type, f2.type] [y0.1, y1.1, y2.1] → m ≤ reachBytes := fun m hm => hw m (by rw [DataW.weights, ht]; exact hm)
    simp only [DataW.weightsEach, List.append_nil, List.mem_append] at hww
    obtain ⟨a0, e0, b0⟩ := opens_string h0.2 H enc w n' _ _ g0 (fun m hm => hww m (.inl hm))
    obtain ⟨a1, e1, b1⟩ := opens_string h1.2 H enc w n' _ _ g1 (fun m hm => hww m (.inr (.inl hm)))
    obtain ⟨a2, e2, b2⟩ := opens_i h2.2 H enc w n' _ _ g2 (fun m hm => hww m (.inr (.inr hm)))
    simp only [List.cons.injEq, and_true] at e0 e1 e2
    subst e0 e1 e2
    exact ⟨⟨a0, a1, a2⟩, rfl, b0, b1, b2⟩

theorem struct4 {H : Type} {enc : TypeId × Value → H} {w : World} {n : Nat} {cs : List Value} {x : DataW H × List MemPlace} {t : TypeId} {f0 f1 f2 f3 : Field} (ht : P.underlying t = some (.struct #[f0, f1, f2, f3]))
    (ho : f0.offset = 0 ∧ f1.offset = 1 ∧ f2.offset = 2 ∧ f3.offset = 3) (hc : P.cellsOf t = 4) (hs : P.cellsOf f0.type = 1 ∧ P.cellsOf f1.type = 1 ∧ P.cellsOf f2.type = 1 ∧ P.cellsOf f3.type = 1)
    (h : DataW.trod enc P w 0 (fun _ => true) true n t cs = some x) (hw : ∀ m ∈ x.1.weights P t, m ≤ reachBytes) :
    ∃ c0 c1 c2 c3 y0 y1 y2 y3 n', cs = [c0, c1, c2, c3] ∧ DataW.trod enc P w 0 (fun _ => true) true n' f0.type [c0] = some y0 ∧ DataW.trod enc P w 0 (fun _ => true) true n' f1.type [c1] = some y1 ∧
      DataW.trod enc P w 0 (fun _ => true) true n' f2.type [c2] = some y2 ∧ DataW.trod enc P w 0 (fun _ => true) true n' f3.type [c3] = some y3 ∧
      (∀ m ∈ y0.1.weights P f0.type, m ≤ reachBytes) ∧ (∀ m ∈ y1.1.weights P f1.type, m ≤ reachBytes) ∧ (∀ m ∈ y2.1.weights P f2.type, m ≤ reachBytes) ∧ (∀ m ∈ y3.1.weights P f3.type, m ≤ reachBytes) := by
  obtain ⟨xs, n', _, rfl, hl, hlen, hf⟩ := DataW.trod_struct ht h
  obtain ⟨o0, o1, o2, o3⟩ := ho
  obtain ⟨s0, s1, s2, s3⟩ := hs
  rw [hc] at hl
  match xs, hlen, cs, hl with
  | [y0, y1, y2, y3], _, [c0, c1, c2, c3], _ =>
    have g0 := hf 0 f0 rfl
    have g1 := hf 1 f1 rfl
    have g2 := hf 2 f2 rfl
    have g3 := hf 3 f3 rfl
    rw [o0, s0] at g0
    rw [o1, s1] at g1
    rw [o2, s2] at g2
    rw [o3, s3] at g3
    have hww : ∀ m, m ∈ DataW.weightsEach P [f0.type, f1.type, f2.type, f3.type] [y0.1, y1.1, y2.1, y3.1] → m ≤ reachBytes := fun m hm => hw m (by rw [DataW.weights, ht]; exact hm)
    simp only [DataW.weightsEach, List.append_nil, List.mem_append] at hww
    exact ⟨c0, c1, c2, c3, y0, y1, y2, y3, n', rfl, g0, g1, g2, g3, fun m hm => hww m (.inl hm), fun m hm => hww m (.inr (.inl hm)), fun m hm => hww m (.inr (.inr (.inl hm))), fun m hm => hww m (.inr (.inr (.inr hm)))⟩

theorem opens_blob {t : TypeId} {f0 f1 f2 f3 : Field} (ht : P.underlying t = some (.struct #[f0, f1, f2, f3]))
    (ho : f0.offset = 0 ∧ f1.offset = 1 ∧ f2.offset = 2 ∧ f3.offset = 3) (hc : P.cellsOf t = 4) (hs : P.cellsOf f0.type = 1 ∧ P.cellsOf f1.type = 1 ∧ P.cellsOf f2.type = 1 ∧ P.cellsOf f3.type = 1)
    (h0 : Opens P f0.type VStr) (h1 : Opens P f1.type (VSl 1 1 EU8)) (h2 : Opens P f2.type VI) (h3 : Opens P f3.type VB) : Opens P t VBlob := by
  intro H enc w n cs x h hw
  obtain ⟨c0, c1, c2, c3, y0, y1, y2, y3, n', rfl, g0, g1, g2, g3, w0, w1, w2, w3⟩ := struct4 ht ho hc hs h hw
  obtain ⟨a0, e0, b0⟩ := h0 H enc w n' _ _ g0 w0
  obtain ⟨a1, v1, e1, b1⟩ := h1 H enc w n' _ _ g1 w1
  obtain ⟨a2, e2, b2⟩ := h2 H enc w n' _ _ g2 w2
  obtain ⟨a3, e3⟩ := h3 H enc w n' _ _ g3 w3
  simp only [VB, List.cons.injEq, and_true] at e0 e1 e2 e3
  subst e0 e1 e2 e3
  exact ⟨⟨a0, a1, a2, a3⟩, _, rfl, b1, b0, b2⟩

theorem opens_entry {t : TypeId} {f0 f1 f2 f3 : Field} (ht : P.underlying t = some (.struct #[f0, f1, f2, f3]))
    (ho : f0.offset = 0 ∧ f1.offset = 1 ∧ f2.offset = 2 ∧ f3.offset = 3) (hc : P.cellsOf t = 4) (hs : P.cellsOf f0.type = 1 ∧ P.cellsOf f1.type = 1 ∧ P.cellsOf f2.type = 1 ∧ P.cellsOf f3.type = 1)
    (h0 : Opens P f0.type VStr) (h1 : Opens P f1.type (VSl 3 40 EPart)) (h2 : Opens P f2.type VI) (h3 : Opens P f3.type VI) : Opens P t VEntry := by
  intro H enc w n cs x h hw
  obtain ⟨c0, c1, c2, c3, y0, y1, y2, y3, n', rfl, g0, g1, g2, g3, w0, w1, w2, w3⟩ := struct4 ht ho hc hs h hw
  obtain ⟨a0, e0, b0⟩ := h0 H enc w n' _ _ g0 w0
  obtain ⟨a1, v1, e1, b1⟩ := h1 H enc w n' _ _ g1 w1
  obtain ⟨a2, e2, b2⟩ := h2 H enc w n' _ _ g2 w2
  obtain ⟨a3, e3, b3⟩ := h3 H enc w n' _ _ g3 w3
  simp only [List.cons.injEq, and_true] at e0 e1 e2 e3
  subst e0 e1 e2 e3
  exact ⟨⟨a0, a1, a2, a3⟩, _, rfl, b1, b0, b2, b3⟩

theorem opens_flight {t : TypeId} {f0 f1 f2 : Field} (ht : P.underlying t = some (.struct #[f0, f1, f2]))
    (ho : f0.offset = 0 ∧ f1.offset = 1 ∧ f2.offset = 2) (hc : P.cellsOf t = 3) (hs : P.cellsOf f0.type = 1 ∧ P.cellsOf f1.type = 1 ∧ P.cellsOf f2.type = 1)
    (h0 : Opens P f0.type VStr) (h1 : Opens P f1.type VI) (h2 : Opens P f2.type (VSl 1 8 EI)) : Opens P t VFlight := by
  intro H enc w n cs x h hw
  obtain ⟨y0, y1, y2, n', rfl, hl, g0, g1, g2⟩ := trod_struct3 ht h
  rw [ho.1, hs.1] at g0
  rw [ho.2.1, hs.2.1] at g1
  rw [ho.2.2, hs.2.2] at g2
  rw [hc] at hl
  match cs, hl with
  | [c0, c1, c2], _ =>
    simp only [List.drop_zero, List.drop_succ_cons, List.take_succ_cons, List.take_zero] at g0 g1 g2
    have hww : ∀ m, m ∈ DataW.weightsEach P [f0.type, f1.type, f2.type] [y0.1, y1.1, y2.1] → m ≤ reachBytes := fun m hm => hw m (by rw [DataW.weights, ht]; exact hm)
    simp only [DataW.weightsEach, List.append_nil, List.mem_append] at hww
    obtain ⟨a0, e0, b0⟩ := h0 H enc w n' _ _ g0 (fun m hm => hww m (.inl hm))
    obtain ⟨a1, e1, b1⟩ := h1 H enc w n' _ _ g1 (fun m hm => hww m (.inr (.inl hm)))
    obtain ⟨a2, v2, e2, b2⟩ := h2 H enc w n' _ _ g2 (fun m hm => hww m (.inr (.inr hm)))
    simp only [List.cons.injEq, and_true] at e0 e1 e2
    subst e0 e1 e2
    exact ⟨⟨a0, a1, a2⟩, _, rfl, b2, b0, b1⟩

/-- An argument of a slice's type. -/
theorem open_arg {α : Type} {H : Type} {enc : TypeId × Value → H} {w : World} {t : TypeId} {V : World → List Value → α → Prop} {v : Value} {d : DataW H} {ps : List MemPlace} (hV : Opens P t V)
    (h : DataW.Trod enc P w 0 (fun _ => true) true t v d ps) (hw : ∀ m ∈ d.weights P t, m ≤ reachBytes) : ∃ a, V w v.cells.toList a := by
  obtain ⟨n, hn⟩ := h
  exact hV H enc w n _ _ hn hw

theorem cells_slice {v : Value} {e : TypeId} {t : TypeId} {r : Reach} {w : World} {b : Nat} (ht : P.underlying t = some (.slice e)) (h : Value.okWide P w r b t v) : v.cells.toList = [v] := by
  obtain ⟨a, l, c, rfl⟩ := okWide_slice ht h
  rfl

/-- THE BOUND ON EACH ARGUMENT. -/
theorem sized_arg {H : Type} {ts : List TypeId} {ds : List (DataW H)} (h : (DataW.weightsEach P ts ds).all (· ≤ reachBytes) = true) {j : Nat} {t : TypeId} {d : DataW H} (ht : ts[j]? = some t) (hd : ds[j]? = some d) : ∀ m ∈ d.weights P t, m ≤ reachBytes := by
  intro m hm
  have := List.all_eq_true.1 h _ (DataW.weights_mem_each ht hd m hm)
  simpa using this

end
end Go.Proofs.Ytaojfpgbpakmpaa
