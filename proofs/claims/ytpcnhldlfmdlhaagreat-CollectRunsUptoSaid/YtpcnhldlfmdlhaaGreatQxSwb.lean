/-
  sweep.Next and the reference's SweepNext: what each answers. slices.Delete on a full row of blobs: besides, no other block turns. The outcome of a step of the sweep. A collector's box in memory.
-/
import Derived.Test.YtpcnhldlfmdlhaaGreatQxKB
import Derived.Test.YtpcnhldlfmdlhaaGreatQxMnf
import Derived.Test.YtpcnhldlfmdlhaaGreatQxStF
import Derived.StillTailTactics
namespace Go.Proofs.YtpcnhldlfmdlhaaGreat
open Go.RowKit

/-- The first place where q holds; as many as there are: there is none. -/
def firstAt {α : Type} (q : α → Bool) : List α → Nat
  | [] => 0
  | x :: l => if q x = true then 0 else firstAt q l + 1
theorem firstAt_le {α : Type} (q : α → Bool) : ∀ l : List α, firstAt q l ≤ l.length
  | [] => Nat.le_refl _
  | x :: l => by
    rw [firstAt]
    have := firstAt_le q l
    split <;> simp <;> omega
theorem firstAt_hit {α : Type} {q : α → Bool} : ∀ {l : List α} {k : Nat} {x : α}, l[k]? = some x → q x = true → (∀ j y, j < k → l[j]? = some y → q y = false) → firstAt q l = k
  | [], k, x, hx, _, _ => by simp at hx
  | y :: l, 0, x, hx, hq, _ => by
    simp only [List.getElem?_cons_zero, Option.some.injEq] at hx
    subst hx
    rw [firstAt, if_pos hq]
  | y :: l, k + 1, x, hx, hq, ha => by
    have h0 := ha 0 y (by omega) rfl
    have h1 := firstAt_hit (q := q) (l := l) (k := k) (x := x) hx hq (fun j z hj hz => ha (j + 1) z (by omega) hz)
    rw [firstAt, if_neg (by rw [h0]; decide), h1]
theorem firstAt_miss {α : Type} {q : α → Bool} : ∀ {l : List α}, (∀ (j : Nat) y, l[j]? = some y → q y = false) → firstAt q l = l.length
  | [], _ => rfl
  | y :: l, ha => by
    have h0 := ha 0 y rfl
    have h1 := firstAt_miss (q := q) (l := l) (fun j z hz => ha (j + 1) z hz)
    rw [firstAt, if_neg (by rw [h0]; decide), h1]; rfl
theorem idx_first {α : Type} (q : α → Bool) : ∀ l : List α, idxOf q l = if firstAt q l = l.length then -1 else (firstAt q l : Int)
  | [] => rfl
  | x :: l => by
    have ih := idx_first q l
    have hle := firstAt_le q l
    rw [idxOf, firstAt]
    by_cases h : q x = true
    · rw [if_pos h, if_pos h, if_neg (by simp)]; rfl
    · rw [if_neg h, if_neg h, ih]
      by_cases h2 : firstAt q l = l.length
      · rw [if_pos h2, if_pos rfl, if_pos (by simp [h2])]
      · rw [if_neg h2, if_neg (by omega), if_neg (by simp; omega)]; omega
/-- The place of the next blob to sweep. -/
def swAt (s : ByteArray) (l : List Blob) : Nat := firstAt (fun x : Blob => slt s x.digest) l
def swI (s : ByteArray) (l : List Blob) : Int := if swAt s l = l.length then 0 else (swAt s l : Int)
def swE (s : ByteArray) (l : List Blob) : Int := if swAt s l = l.length then 5 else 0
theorem sw_cases (s : ByteArray) (l : List Blob) :
    (idxOf (fun x : Blob => slt s x.digest) l = -1 ∧ swI s l = 0 ∧ swE s l = 5) ∨ (0 ≤ idxOf (fun x : Blob => slt s x.digest) l ∧ swI s l = idxOf (fun x : Blob => slt s x.digest) l ∧ swE s l = 0) := by
  rw [idx_first]
  unfold swI swE swAt
  split
  · exact .inl ⟨rfl, rfl, rfl⟩
  · exact .inr ⟨by omega, rfl, rfl⟩

set_option maxRecDepth 100000 in
set_option maxHeartbeats 400000 in
theorem next1 (x : Blob) (a : Option Addr) (n c : Nat) (s : ByteArray) (p : Nat) (w : World) (hc : w.cell? ⟨p, 0, none⟩ = some (.string s)) (hp : p < w.heap.size) :
    Calls Tryz.prog 250 #[.agg #[.string x.digest, .slice a n c, .int .i64 x.pins, .bool x.mark], .pointer (some ⟨p, 0, none⟩)] w fun e w' => e = .returned (.bool (slt s x.digest)) ∧ Below w.heap.size w w' := by
  rcases sle_atoms x.digest s with ⟨a1, a2⟩ | ⟨a1, a3, a2⟩ | ⟨a1, a3, a2⟩
  · rw [a2]
    have a4 : Op.bytesLess s.toList x.digest.toList = false := a2
    go_enter Tryz.func250, Tryz.ntmps250
    go_wp2_with fail
    go_ret
    exact ⟨rfl, b_alloc (Below.refl _ _) _⟩
  · rw [a2]
    have a4 : Op.bytesLess s.toList x.digest.toList = false := a2
    have a5 : (x.digest.toList == s.toList) = true := by rw [a3]; simp
    go_enter Tryz.func250, Tryz.ntmps250
    go_wp2_with fail
    go_ret
    exact ⟨rfl, b_alloc (Below.refl _ _) _⟩
  · rw [a2]
    have a4 : Op.bytesLess s.toList x.digest.toList = true := a2
    go_enter Tryz.func250, Tryz.ntmps250
    go_wp2_with fail
    go_ret
    exact ⟨rfl, b_alloc (Below.refl _ _) _⟩

set_option maxRecDepth 100000 in
set_option maxHeartbeats 400000 in
theorem sweep_Next (v : Value) (l : List Blob) (s : ByteArray) (w : World) (h : RBl w v l) :
    Calls Tryz.prog 201 #[v, .string s] w fun e w' => e = .returned (.tuple #[.int .i64 (swI s l), .int .i64 (swE s l)]) ∧ Below w.heap.size w w' := by
  have hl : l.length ≤ 140737488351232 := by obtain ⟨_, _, _, _, _, hre, _⟩ := h; omega
  have hi := idxFunc_B 250 #[.pointer (some ⟨w.heap.size, 0, none⟩)] (fun x => slt s x.digest) (enters_of Tryz.func250 (by kernel_rfl) rfl) v l (w.alloc (.cells #[.string s] 9)) (h.mono EBlob.stable (b_alloc (Below.refl _ _) _))
    (fun W x dv hb _ hd => by
      obtain ⟨a, c, rfl, -⟩ := hd
      exact next1 x a _ c s w.heap.size W (by rw [hb.cell (p := ⟨w.heap.size, 0, none⟩) (by simp)]; rw [cell_of_row _ _ _ _ _ _ (heap_alloc_new w _)]; rfl) (by have := hb.size; simp at this; omega))
  have hcase := sw_cases s l
  generalize idxOf (fun x : Blob => slt s x.digest) l = r at hi hcase
  generalize swI s l = fi at hcase ⊢
  generalize swE s l = fe at hcase ⊢
  replace hi := hid hi
  rcases hcase with ⟨rfl, rfl, rfl⟩ | ⟨h0, rfl, rfl⟩
  · go_enter Tryz.func201, Tryz.ntmps201
    go_wp2_with fail
    ((with_reducible refine hi.out.mono ?_); rintro e w1 ⟨rfl, b1⟩)
    go_wp2_with fail
    go_ret2
    exact ⟨rfl, b_call (b_alloc (Below.refl _ _) _) b1⟩
  · have hneg : decide (fi < 0) = false := by simp; omega
    go_enter Tryz.func201, Tryz.ntmps201
    go_wp2_with fail
    ((with_reducible refine hi.out.mono ?_); rintro e w1 ⟨rfl, b1⟩)
    go_wp2_with fail
    go_ret2
    exact ⟨rfl, b_call (b_alloc (Below.refl _ _) _) b1⟩

set_option maxRecDepth 100000 in
set_option maxHeartbeats 400000 in
theorem ref_SweepNext (v : Value) (l : List Blob) (s : ByteArray) (w : World) (h : RBl w v l) :
    Calls Tryz.prog 212 #[v, .string s] w fun e w' => e = .returned (.int .i64 (swAt s l : Nat)) ∧ w = w' := by
  obtain ⟨a, c, rfl, hlc, hcm, hre, hno, hat⟩ := h
  unfold maxLen at hcm
  replace hat := hid hat
  have hy := hid (fun k x hx hq ha => firstAt_hit (q := fun x : Blob => slt s x.digest) (l := l) (k := k) (x := x) hx hq ha)
  have hn := hid (fun ha => firstAt_miss (q := fun x : Blob => slt s x.digest) (l := l) ha)
  unfold swAt
  generalize firstAt (fun x : Blob => slt s x.digest) l = fa at *
  clear hno
  go_enter Tryz.func212, Tryz.ntmps212
  go_wp2_with fail
  go_loopw [5] (fun i wr => ∃ k : Nat, k ≤ l.length ∧ i = .int .i64 k ∧ Hid (∀ j y, j < k → l[j]? = some y → slt s y.digest = false) ∧ wr = w) (fun i _ => l.length - (intOf i).toNat)
  case atStart => exact ⟨0, by omega, rfl, hid (fun j x hj => by omega), rfl⟩
  case round =>
    obtain ⟨k, hk, rfl, hall, rfl⟩ := hrel
    by_cases hlt : k < l.length
    · have hx : l[k]? = some l[k] := List.getElem?_eq_getElem hlt
      generalize l[k] = x at hx
      obtain ⟨bb, off, rfl, hbb, he⟩ := hat.out k _ hx
      obtain ⟨dv, c0, c1, c2, c3, rdv, okx⟩ := he
      have hy1 := hid (fun hq => hy.out k x hx hq hall.out)
      have hnx := hid (fun (hq : slt s x.digest = false) => upto_next_l (q := fun y : Blob => slt s y.digest) hall.out hx hq)
      clear hx rdv
      rcases sle_atoms x.digest s with ⟨a1, a2⟩ | ⟨a1, a3, a2⟩ | ⟨a1, a3, a2⟩
      · have a4 : Op.bytesLess s.toList x.digest.toList = false := a2
        have hr := hid (hnx.out a2)
        clear hall a2
        go_wp2_with fail
        go_roundw
        case rel => exact ⟨k + 1, by omega, by go_num, hr, trivial⟩
        case measure => simp [intOf]; omega
      · have a4 : Op.bytesLess s.toList x.digest.toList = false := a2
        have a5 : (x.digest.toList == s.toList) = true := by rw [a3]; simp
        have hr := hid (hnx.out a2)
        clear hall a2 a3
        go_wp2_with fail
        go_roundw
        case rel => exact ⟨k + 1, by omega, by go_num, hr, trivial⟩
        case measure => simp [intOf]; omega
      · have a4 : Op.bytesLess s.toList x.digest.toList = true := a2
        have hr := hid (hy1.out a2)
        clear hall a2
        go_wp2_with fail
        go_ret
        exact ⟨ret_i (by rw [hr.out]), rfl⟩
    · obtain rfl : k = l.length := by omega
      have hr := hid (hn.out (fun j x hj => hall.out j x (List.getElem?_eq_some_iff.1 hj).1 hj))
      clear hall
      go_wp2_with fail
      go_ret
      exact ⟨ret_i (by rw [hr.out]), rfl⟩
end Go.Proofs.YtpcnhldlfmdlhaaGreat

namespace Go.Proofs.YtpcnhldlfmdlhaaGreat
open Go.RowKit

set_option maxRecDepth 100000 in
set_option maxHeartbeats 1000000 in
theorem slices_Delete_G (l : List Blob) (i B : Nat) (w : World) (h : OBlob w B (.slice (some ⟨B, 0, none⟩) l.length l.length) l) (hi : i < l.length) (hB : B ≤ w.heap.size) (hbs : l.length * 56 ≤ 140737488351232) :
    Calls Tryz.prog 202 #[.slice (some ⟨B, 0, none⟩) l.length l.length, .int .i64 i, .int .i64 ((i : Int) + 1)] w (fun e w' => DeletedBlob l i B w e w' ∧ w.grownBy w' (some B)) := by
  obtain ⟨i0, hi0, hz0, hz1, hz2⟩ := info_parts info_B
  obtain ⟨rs, rfl, hown, hcs⟩ := h
  simp only [List.length_map] at hi hbs hown ⊢
  unfold DeletedBlob
  rw [List.length_map]
  have hn := (show rs.length ≤ 140737488351232 by omega)
  have hrd : RS 4 56 (ERaw (xc cBlob (·.data))) w (.slice (some ⟨B, 0, none⟩) rs.length rs.length) rs := OS.reads (cells := xc cBlob (·.data)) xcBlob_len (by decide) (fun b o r _ hc j u hj => by
    have hlt := (List.getElem?_eq_some_iff.1 hj).1
    rw [hc j (by rw [xcBlob_len] at hlt; exact hlt), hj]) hown hbs
  have hfrom := RS.from hrd (i + 1) (by omega)
  have hile : i ≤ rs.length := by omega
  have hie : i + 1 ≤ rs.length := by omega
  obtain ⟨A, hA⟩ : ∃ A, (if rs.length = i + 1 then (some ⟨B, 0, none⟩ : Option Addr) else some ⟨B, (i + 1) * 4, none⟩) = A := ⟨_, rfl⟩
  have hA2 : (if rs.length = i + 1 then (some ⟨B, 0, none⟩ : Option Addr) else (some (⟨B, 0, none⟩ : Addr)).map (·.add ((i + 1) * 4))) = A := by
    rw [← hA]; simp [Addr.add_lit]
  rw [hA2] at hfrom
  have hg0 : (0 : Int) ≤ (i : Int) + 1 := by omega
  have hg1 : (i : Int) + 1 ≤ (rs.length : Int) := by omega
  have hup := hid (hown.upto xcBlob_len i (by omega))
  replace hfrom := hid hfrom
  replace hown := hid hown
  replace hcs := hid hcs
  clear hrd hA2
  go_enter Tryz.func202, Tryz.ntmps202
  go_wp2_with fail
  go_still_tail 6, (by kernel_rfl)
  change wpList _ _ _ _ _ w.drew
  replace hup := hid (hup.out.drew)
  replace hfrom := hid (hfrom.out.mono ERaw.stable (Below.refl _ w).drew)
  go_wp2_with (at_builtin; go_must (refine wpL_append_room flat_cBlob (by rfl) (.tmp 22) (.tmp 25) 26 (by rfl) 50 i0 Tryz.underlying26 hi0 hz1 B B i rs.length (rs.take i) (by rfl) hup.out _ (rs.drop (i + 1)) (by rfl) hfrom.out (by simp; omega) ?_))
  intro w2 ho2 hg2
  obtain ⟨m, hm⟩ : ∃ m, i + (rs.length - (i + 1)) = m := ⟨_, rfl⟩
  have hmn : m + 1 = rs.length := by omega
  rw [hm] at ho2
  have hmn1 : m ≤ rs.length := by omega
  have hmn2 : ¬ rs.length = m := by omega
  have hzv : ∀ w, (zeroValue 50).run Tryz.prog w = .ok (.agg #[.string ⟨#[]⟩, .slice none 0 0, .int .i64 0, .bool false]) w := fun w => by simp [zeroValue, typeInfo, hi0, hz0]
  obtain ⟨w3, hcl, ho3, hg3⟩ := clear_own (s := 4) (t := 26) (cells := xc cBlob (·.data)) Tryz.underlying26 hzv rfl (by simp [Value.cells, Value.oneCell']) ho2 (rs.length - m) (rs.length - m) (by omega) (by omega)
  have hG := hg2.size
  have hx := hid (show (rs.take i ++ rs.drop (i + 1)).map (·.x) = (rs.map (·.x)).take i ++ (rs.map (·.x)).drop (i + 1) by simp)
  have hO3 : Hid (OBlob w3 B (.slice (some ⟨B, 0, none⟩) m rs.length) ((rs.map (·.x)).take i ++ (rs.map (·.x)).drop (i + 1))) := hid ⟨rs.take i ++ rs.drop (i + 1), hx.out, ho3, fun q hq => by
    have hq' : q ∈ rs := by
      rcases List.mem_append.1 hq with hq | hq
      · exact List.mem_of_mem_take hq
      · exact List.mem_of_mem_drop hq
    have h1 : CO 5 1 cU8 B w.drew (q.v (·.data)) q.x.data := hcs.out q hq'
    have h2 := OS.apart hup.out h1 (by decide) hg2
    exact OS.apart ho2 h2 (by decide) hg3⟩
  have hb3 : Hid (Below B w w3) := hid (((Below.refl B w).drew.grown hg2 hB (fun k hk => by simp at hk; omega)).grown hg3 (Nat.le_trans hB hG) (fun k hk => by simp at hk; omega))
  have hgg : Hid (w.grownBy w3 (some B)) := hid ⟨hg3.os.trans hg2.os, hg3.tape.trans hg2.tape, hg3.output.trans hg2.output, Nat.le_trans hg2.size hg3.size, fun k hk hne => (hg3.block k (Nat.lt_of_lt_of_le hk hg2.size) hne).trans (hg2.block k hk hne)⟩
  rw [hm]
  replace hmn := hid hmn
  clear hzv ho2 hg2 ho3 hg3 hup hfrom hcs hown hm hx hA hi0 hz0 hz1 hz2 hile hie hg0 hg1
  go_wp2_with fail
  go_ret
  exact ⟨⟨rs.length, by rw [← hmn.out]; simp, by rw [← hmn.out, Nat.add_sub_cancel, hmn.out]; exact hO3.out, hb3.out⟩, hgg.out⟩
end Go.Proofs.YtpcnhldlfmdlhaaGreat

namespace Go.Proofs.YtpcnhldlfmdlhaaGreat
open Go.RowKit

/-- What a step of a collector that sweeps answers. -/
structure SwOut where
  err : Int
  store : Store
  phase : Int
  place : ByteArray
  gone : ByteArray
def swOut (z f ph : Int) (i : Nat) (bs : List Blob) (es : List Entry) (r t : Int) : SwOut :=
  if z ≠ 0 then ⟨z, noStore, 0, ⟨#[]⟩, ⟨#[]⟩⟩ else if ph ≠ 2 then ⟨11, noStore, 0, ⟨#[]⟩, ⟨#[]⟩⟩ else match bs[i]? with
  | none => ⟨0, ⟨bs, es, r, t⟩, 0, ⟨#[]⟩, ⟨#[]⟩⟩
  | some x => if x.mark = true then ⟨0, ⟨bs, es, r, t⟩, 2, x.digest, ⟨#[]⟩⟩ else if 0 < x.pins ∨ f ≠ 0 then ⟨10, noStore, 0, ⟨#[]⟩, ⟨#[]⟩⟩ else ⟨0, ⟨bs.take i ++ bs.drop (i + 1), es, r, t⟩, 2, x.digest, x.digest⟩
section
variable {z f ph r t : Int} {i : Nat} {bs : List Blob} {es : List Entry} {x : Blob}
theorem sw_bad (h : z ≠ 0) : swOut z f ph i bs es r t = ⟨z, noStore, 0, ⟨#[]⟩, ⟨#[]⟩⟩ := if_pos h
theorem sw_idle (h : ph ≠ 2) : swOut 0 f ph i bs es r t = ⟨11, noStore, 0, ⟨#[]⟩, ⟨#[]⟩⟩ := by unfold swOut; rw [if_neg (by simp), if_pos h]
theorem sw_none (h : bs[i]? = none) : swOut 0 f 2 i bs es r t = ⟨0, ⟨bs, es, r, t⟩, 0, ⟨#[]⟩, ⟨#[]⟩⟩ := by unfold swOut; rw [if_neg (by simp), if_neg (by simp), h]
theorem sw_mark (h : bs[i]? = some x) (hm : x.mark = true) : swOut 0 f 2 i bs es r t = ⟨0, ⟨bs, es, r, t⟩, 2, x.digest, ⟨#[]⟩⟩ := by unfold swOut; rw [if_neg (by simp), if_neg (by simp), h]; simp only []; rw [if_pos hm]
theorem sw_held (h : bs[i]? = some x) (hm : x.mark = false) (hp : 0 < x.pins ∨ f ≠ 0) : swOut 0 f 2 i bs es r t = ⟨10, noStore, 0, ⟨#[]⟩, ⟨#[]⟩⟩ := by
  unfold swOut; rw [if_neg (by simp), if_neg (by simp), h]; simp only []; rw [if_neg (by rw [hm]; decide), if_pos hp]
theorem sw_gone (h : bs[i]? = some x) (hm : x.mark = false) (hp : ¬ 0 < x.pins) (hf : f = 0) : swOut 0 f 2 i bs es r t = ⟨0, ⟨bs.take i ++ bs.drop (i + 1), es, r, t⟩, 2, x.digest, x.digest⟩ := by
  unfold swOut; rw [if_neg (by simp), if_neg (by simp), h]; simp only []; rw [if_neg (by rw [hm]; decide), if_neg (fun h => h.elim hp (fun h => h hf))]
end
def SwRes (o : SwOut) (w : World) (e : Ending) (w' : World) : Prop :=
  ∃ v, e = .returned (.tuple #[v, .agg #[.int .i64 o.phase, .slice none 0 0, .string o.place], .string o.gone, .int .i64 o.err]) ∧ VS w' v o.store ∧ Below w.heap.size w w'
theorem sw_no {o : SwOut} {n : Int} {w w' : World} (h : o = ⟨n, noStore, 0, ⟨#[]⟩, ⟨#[]⟩⟩) (hb : Below w.heap.size w w') :
    SwRes o w (.returned (.tuple #[.agg #[.slice none 0 0, .slice none 0 0, .int .i64 0, .int .i64 0], .agg #[.int .i64 0, .slice none 0 0, .string ⟨#[]⟩], .string ⟨#[]⟩, .int .i64 n])) w' := by
  subst h
  exact ⟨_, rfl, ⟨_, _, rfl, RS.nil, RS.nil⟩, hb⟩
theorem sw_ok {o : SwOut} {k : Int} {s d : ByteArray} {bs : List Blob} {es : List Entry} {r t : Int} {v1 v2 : Value} {w w' : World} (h : o = ⟨0, ⟨bs, es, r, t⟩, k, s, d⟩) (h1 : RBl w' v1 bs) (h2 : RE w' v2 es) (hb : Below w.heap.size w w') :
    SwRes o w (.returned (.tuple #[.agg #[v1, v2, .int .i64 r, .int .i64 t], .agg #[.int .i64 k, .slice none 0 0, .string s], .string d, .int .i64 0])) w' := by
  subst h
  exact ⟨_, rfl, ⟨v1, v2, rfl, h1, h2⟩, hb⟩

/-- A block that holds a collector. -/
def CBox (w : World) (p : Nat) : Prop := ∃ k a n c s T, w.heap[p]? = some (.cells #[.int .i64 k, .slice a n c, .string s] T (0, 0))
theorem CBox.str {w : World} {p b o : Nat} {s : ByteArray} {v : Value} (h : CBox w p) (hc : w.cell? ⟨b, o, none⟩ = some (.string s)) (hd : w.cell? ⟨b, o + 1, none⟩ = some v) : b ≠ p := by
  rintro rfl
  obtain ⟨k, a, n, c, s', T, hp⟩ := h
  rw [cell_of_row _ _ _ _ _ _ hp] at hc hd
  rcases o with _ | _ | _ | o
  · simp at hc
  · simp at hc
  · simp at hd
  · simp at hc
theorem CBox.u8 {w : World} {p b o : Nat} {k : Int} (h : CBox w p) (hc : w.cell? ⟨b, o, none⟩ = some (.int .u8 k)) : b ≠ p := by
  rintro rfl
  obtain ⟨k, a, n, c, s', T, hp⟩ := h
  rw [cell_of_row _ _ _ _ _ _ hp] at hc
  rcases o with _ | _ | _ | o <;> simp at hc
section
variable {w : World} {p q : Nat} {u : Value}
theorem EU8.writeC (hp : CBox w p) {b o : Nat} {x : UInt8} (h : EU8 w b o x) : EU8 (w.setCell ⟨p, q, none⟩ u) b o x := (cell_apart (hp.u8 h)).trans h
theorem EPart.writeC (hp : CBox w p) {b o : Nat} {x : Part} (h : EPart w b o x) : EPart (w.setCell ⟨p, q, none⟩ u) b o x := by
  obtain ⟨h1, h2, h3, h4⟩ := h
  have hne := hp.str h1 h2
  exact ⟨(cell_apart hne).trans h1, (cell_apart hne).trans h2, (cell_apart hne).trans h3, h4⟩
theorem EBlob.writeC (hp : CBox w p) {b o : Nat} {x : Blob} (h : EBlob w b o x) : EBlob (w.setCell ⟨p, q, none⟩ u) b o x := by
  obtain ⟨dv, h1, h2, h3, h4, h5, h6⟩ := h
  have hne := hp.str h1 h2
  exact ⟨dv, (cell_apart hne).trans h1, (cell_apart hne).trans h2, (cell_apart hne).trans h3, (cell_apart hne).trans h4, RS.write h5 (fun _ _ _ => EU8.writeC hp), h6⟩
theorem EEntry.writeC (hp : CBox w p) {b o : Nat} {x : Entry} (h : EEntry w b o x) : EEntry (w.setCell ⟨p, q, none⟩ u) b o x := by
  obtain ⟨dv, h1, h2, h3, h4, h5, h6⟩ := h
  have hne := hp.str h1 h2
  exact ⟨dv, (cell_apart hne).trans h1, (cell_apart hne).trans h2, (cell_apart hne).trans h3, (cell_apart hne).trans h4, RS.write h5 (fun _ _ _ => EPart.writeC hp), h6⟩
end
def World.box3 (w : World) (q : Nat) (u0 u1 u2 : Value) : World := ((w.setCell ⟨q, 0, none⟩ u0).setCell ⟨q, 1, none⟩ u1).setCell ⟨q, 2, none⟩ u2
theorem box3_0 {w : World} {q : Nat} {a b c u : Value} {T : TypeId} (h : w.heap[q]? = some (.cells #[a, b, c] T (0, 0))) : (w.setCell ⟨q, 0, none⟩ u).heap[q]? = some (.cells #[u, b, c] T (0, 0)) := by
  simp [World.setCell, Array.getElem?_modify, h]
theorem box3_1 {w : World} {q : Nat} {a b c u : Value} {T : TypeId} (h : w.heap[q]? = some (.cells #[a, b, c] T (0, 0))) : (w.setCell ⟨q, 1, none⟩ u).heap[q]? = some (.cells #[a, u, c] T (0, 0)) := by
  simp [World.setCell, Array.getElem?_modify, h]
theorem box3_2 {w : World} {q : Nat} {a b c u : Value} {T : TypeId} (h : w.heap[q]? = some (.cells #[a, b, c] T (0, 0))) : (w.setCell ⟨q, 2, none⟩ u).heap[q]? = some (.cells #[a, b, u] T (0, 0)) := by
  simp [World.setCell, Array.getElem?_modify, h]
theorem box3_same {w : World} {q : Nat} {a b c u0 u1 u2 : Value} {T : TypeId} (h : w.heap[q]? = some (.cells #[a, b, c] T (0, 0))) : (World.box3 w q u0 u1 u2).heap[q]? = some (.cells #[u0, u1, u2] T (0, 0)) := box3_2 (box3_1 (box3_0 h))
theorem box3_other {w : World} {q p : Nat} {u0 u1 u2 : Value} {x : Obj} (h : w.heap[p]? = some x) (hn : p ≠ q) : (World.box3 w q u0 u1 u2).heap[p]? = some x := box_other (box_other (box_other h hn) hn) hn
theorem b_box3 {w W : World} (h : Below w.heap.size w W) {q : Nat} (hq : w.heap.size ≤ q) (u0 u1 u2 : Value) : Below w.heap.size w (World.box3 W q u0 u1 u2) :=
  b_set (b_set (b_set h (p := ⟨q, 0, none⟩) hq u0) (p := ⟨q, 1, none⟩) hq u1) (p := ⟨q, 2, none⟩) hq u2
theorem RS.box3 {α : Type} {s bs p : Nat} {E : World → Nat → Nat → α → Prop} {w : World} {v : Value} {l : List α} (hE : ∀ (w : World) (p q : Nat) (u : Value), CBox w p → ∀ b o x, E w b o x → E (w.setCell ⟨p, q, none⟩ u) b o x)
    (h : RS s bs E w v l) {T : TypeId} (hp : ∃ k a n c s', w.heap[p]? = some (.cells #[.int .i64 k, .slice a n c, .string s'] T (0, 0))) (k : Int) (a : Option Addr) (n c : Nat) (s' : ByteArray) :
    RS s bs E (World.box3 w p (.int .i64 k) (.slice a n c) (.string s')) v l := by
  obtain ⟨b0, b1, b2, b3, b4, hp⟩ := hp
  have p0 := box3_0 (u := .int .i64 k) hp
  have p1 := box3_1 (u := .slice a n c) p0
  exact ((h.write (hE _ _ _ _ ⟨_, _, _, _, _, _, hp⟩)).write (hE _ _ _ _ ⟨_, _, _, _, _, _, p0⟩)).write (hE _ _ _ _ ⟨_, _, _, _, _, _, p1⟩)
theorem EBlob.writesC : ∀ (w : World) (p q : Nat) (u : Value), CBox w p → ∀ b o x, EBlob w b o x → EBlob (w.setCell ⟨p, q, none⟩ u) b o x := fun _ _ _ _ h _ _ _ => EBlob.writeC h
theorem EEntry.writesC : ∀ (w : World) (p q : Nat) (u : Value), CBox w p → ∀ b o x, EEntry w b o x → EEntry (w.setCell ⟨p, q, none⟩ u) b o x := fun _ _ _ _ h _ _ _ => EEntry.writeC h
theorem OEntry.grown {w w' : World} {B g : Nat} {v : Value} {es : List Entry} {cs : Array Value} {T : TypeId} {fr : Nat × Nat} (h : OEntry w B v es) (hg : w.grownBy w' (some g)) (hq : w.heap[g]? = some (.cells cs T fr)) (hT : T ≠ 71) (hT2 : T ≠ 75) : OEntry w' B v es := by
  obtain ⟨rs, h1, h2, h3⟩ := h
  exact ⟨rs, h1, World.ownsRow.kept (row := some g) h2 hg (Or.inr (OS.block_ne h2 hq hT)), fun r hr => World.ownsRow.kept (row := some g) (h3 r hr) hg (Or.inr (OS.block_ne (h3 r hr) hq hT2))⟩
theorem heap_drewn {w : World} {k : Nat} {x : Obj} (h : w.heap[k]? = some x) : w.drew.heap[k]? = some x := h
end Go.Proofs.YtpcnhldlfmdlhaaGreat
