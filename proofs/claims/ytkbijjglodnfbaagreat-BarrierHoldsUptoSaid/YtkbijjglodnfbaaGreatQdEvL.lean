/-
  slices.Delete on any row of entries that the call owns; the run of an eviction by plain functions.
-/
import Derived.Test.YtkbijjglodnfbaaGreatQdEvw
import Derived.Test.YtkbijjglodnfbaaGreatQdOldest
import Derived.Test.YtkbijjglodnfbaaGreatQdRom
namespace Go.Proofs.YtkbijjglodnfbaaGreat
open Go.RowKit

def DeletedE (l : List Entry) (i g k B : Nat) (w : World) (e : Ending) (w' : World) : Prop :=
  e = .returned (.slice (some ⟨g, 0, none⟩) (l.length - 1) k) ∧ OEntry w' B (.slice (some ⟨g, 0, none⟩) (l.length - 1) k) (l.take i ++ l.drop (i + 1)) ∧ Below B w w'

set_option maxRecDepth 100000 in
set_option maxHeartbeats 1000000 in
theorem slices_Delete_EG (l : List Entry) (i B g k : Nat) (w : World) (h : OEntry w B (.slice (some ⟨g, 0, none⟩) l.length k) l) (hi : i < l.length) (hB : B ≤ w.heap.size) (hbs : l.length * 56 ≤ 140737488351232) :
    Calls Tryz.prog 62 #[.slice (some ⟨g, 0, none⟩) l.length k, .int .i64 i, .int .i64 ((i : Int) + 1)] w (fun e w' => DeletedE l i g k B w e w' ∧ w.grownBy w' (some g)) := by
  obtain ⟨i0, hi0, hz0, hz1, hz2⟩ := info_parts info_E
  obtain ⟨rs, rfl, hown, hcs⟩ := h
  simp only [List.length_map] at hi hbs hown ⊢
  unfold DeletedE
  rw [List.length_map]
  have hn := (show rs.length ≤ 140737488351232 by omega)
  have hrd : RS 4 56 (ERaw (xc cEntry (·.parts))) w (.slice (some ⟨g, 0, none⟩) rs.length k) rs := OS.reads (cells := xc cEntry (·.parts)) xcEntry_len (by decide) (fun b o r _ hc j u hj => by
    have hlt := (List.getElem?_eq_some_iff.1 hj).1
    rw [hc j (by rw [xcEntry_len] at hlt; exact hlt), hj]) hown hbs
  have hkl : rs.length ≤ k := by
    rcases os_forms' hown with ⟨h0, -⟩ | ⟨g', k', hv, hk⟩
    · cases h0
    · simp only [Value.slice.injEq] at hv; omega
  have hfrom := RS.from hrd (i + 1) (by omega)
  have hile : i ≤ rs.length := by omega
  have hik : i ≤ k := by omega
  have hie : i + 1 ≤ rs.length := by omega
  obtain ⟨A, hA⟩ : ∃ A, (if k = i + 1 then (some ⟨g, 0, none⟩ : Option Addr) else some ⟨g, (i + 1) * 4, none⟩) = A := ⟨_, rfl⟩
  have hA2 : (if k = i + 1 then (some ⟨g, 0, none⟩ : Option Addr) else (some (⟨g, 0, none⟩ : Addr)).map (·.add ((i + 1) * 4))) = A := by
    rw [← hA]; simp [Addr.add_lit]
  rw [hA2] at hfrom
  have hg0 : (0 : Int) ≤ (i : Int) + 1 := by omega
  have hg1 : (i : Int) + 1 ≤ (rs.length : Int) := by omega
  have hup := hid (hown.upto xcEntry_len i (by omega))
  replace hfrom := hid hfrom
  replace hown := hid hown
  replace hcs := hid hcs
  clear hrd hA2
  go_enter Tryz.func62, Tryz.ntmps62
  go_wp2_with fail
  go_still_tail 6, (by kernel_rfl)
  change wpList _ _ _ _ _ w.drew
  replace hup := hid (hup.out.drew)
  replace hfrom := hid (hfrom.out.mono ERaw.stable (Below.refl _ w).drew)
  go_wp2_with (at_builtin; go_must (refine wpL_append_room flat_cEntry (by rfl) (.tmp 22) (.tmp 25) 23 (by rfl) 91 i0 Tryz.underlying23 hi0 hz1 B g i k (rs.take i) (by rfl) hup.out _ (rs.drop (i + 1)) (by rfl) hfrom.out (by simp; omega) ?_))
  intro w2 ho2 hg2
  obtain ⟨m, hm⟩ : ∃ m, i + (rs.length - (i + 1)) = m := ⟨_, rfl⟩
  have hmn : m + 1 = rs.length := by omega
  rw [hm] at ho2
  have hmn1 : m ≤ rs.length := by omega
  have hmn2 : ¬ k = m := by omega
  have hmn3 : ¬ rs.length = m := by omega
  have hg9 := hid (OS.block ho2 g rfl)
  have hzv : ∀ w, (zeroValue 91).run Tryz.prog w = .ok (.agg #[.string ⟨#[]⟩, .slice none 0 0, .int .i64 0, .int .i64 0]) w := fun w => by simp [zeroValue, typeInfo, hi0, hz0]
  obtain ⟨w3, hcl, ho3, hg3⟩ := clear_own (s := 4) (t := 23) (cells := xc cEntry (·.parts)) Tryz.underlying23 hzv rfl (by simp [Value.cells, Value.oneCell']) ho2 (rs.length - m) (k - m) (by omega) (by omega)
  have hG := hg2.size
  have hx := hid (show (rs.take i ++ rs.drop (i + 1)).map (·.x) = (rs.map (·.x)).take i ++ (rs.map (·.x)).drop (i + 1) by simp)
  have hO3 : Hid (OEntry w3 B (.slice (some ⟨g, 0, none⟩) m k) ((rs.map (·.x)).take i ++ (rs.map (·.x)).drop (i + 1))) := hid ⟨rs.take i ++ rs.drop (i + 1), hx.out, ho3, fun q hq => by
    have hq' : q ∈ rs := by
      rcases List.mem_append.1 hq with hq | hq
      · exact List.mem_of_mem_take hq
      · exact List.mem_of_mem_drop hq
    have h1 : CO 107 3 cPart B w.drew (q.v (·.parts)) q.x.parts := hcs.out q hq'
    have h2 := OS.apart hup.out h1 (by decide) hg2
    exact OS.apart ho2 h2 (by decide) hg3⟩
  have hb3 : Hid (Below B w w3) := hid (((Below.refl B w).drew.grown hg2 hB (fun k hk => by have := hg9.out; simp at hk; omega)).grown hg3 (Nat.le_trans hB hG) (fun k hk => by have := hg9.out; simp at hk; omega))
  have hgg : Hid (w.grownBy w3 (some g)) := hid ⟨hg3.os.trans hg2.os, hg3.tape.trans hg2.tape, hg3.output.trans hg2.output, Nat.le_trans hg2.size hg3.size, fun k hk hne => (hg3.block k (Nat.lt_of_lt_of_le hk hg2.size) hne).trans (hg2.block k hk hne)⟩
  rw [hm]
  replace hmn := hid hmn
  clear hzv ho2 hg2 ho3 hg3 hup hfrom hcs hown hm hx hA hi0 hz0 hz1 hz2 hile hie hg0 hg1
  go_wp2_with fail
  go_ret
  exact ⟨⟨by rw [← hmn.out]; simp, by rw [← hmn.out, Nat.add_sub_cancel]; exact hO3.out, hb3.out⟩, hgg.out⟩

open Classical in
noncomputable def oldest (l : List Entry) : Option Nat := if h : ∃ a, Best l l.length a then some (Classical.choose h) else none
theorem old_of {l : List Entry} {i e : Int} (h : OldAns l i e) : (∃ a : Nat, oldest l = some a ∧ a < l.length ∧ i = a ∧ e = 0) ∨ (oldest l = none ∧ e = 5) := by
  rcases h with ⟨a, hb, hi, he⟩ | ⟨hn, -, he⟩
  · left
    have hex : ∃ a, Best l l.length a := ⟨a, hb⟩
    have h1 : oldest l = some (Classical.choose hex) := by unfold oldest; rw [dif_pos hex]
    have h2 := Best.unique (Classical.choose_spec hex) hb
    rw [h2] at h1
    obtain ⟨x, hx, -⟩ := hb
    exact ⟨a, h1, (List.getElem?_eq_some_iff.1 hx).1, hi, he⟩
  · right
    refine ⟨?_, he⟩
    unfold oldest
    rw [dif_neg]
    rintro ⟨a, x, hx, -, hp, -⟩
    exact hn a x hx hp
structure EvO where
  err : Int
  bs : List Blob
  es : List Entry
  gone : List ByteArray
def evNo (n : Int) : EvO := ⟨n, [], [], []⟩
noncomputable def evG (r m : Int) : Nat → List Blob → List Entry → List ByteArray → EvO
  | 0, bs, es, g => if lackV bs r m = 0 then ⟨0, bs, es, g⟩ else evNo 10
  | n + 1, bs, es, g => if lackV bs r m = 0 then ⟨0, bs, es, g⟩ else match oldest es with
    | none => evNo 10
    | some i => evG r m n (cleanL (allOf bs (es.take i ++ es.drop (i + 1))) bs) (es.take i ++ es.drop (i + 1)) (g ++ (match es[i]? with | some x => [x.key] | none => []))
theorem evG_end {r m : Int} {n : Nat} {bs : List Blob} {es : List Entry} {g : List ByteArray} (h : lackV bs r m = 0) : evG r m n bs es g = ⟨0, bs, es, g⟩ := by
  cases n <;> (rw [evG, if_pos h])
theorem evG_no {r m : Int} {n : Nat} {bs : List Blob} {es : List Entry} {g : List ByteArray} (h : lackV bs r m ≠ 0) (ho : oldest es = none) : evG r m n bs es g = evNo 10 := by
  cases n
  · rw [evG, if_neg h]
  · rw [evG, if_neg h, ho]
theorem evG_next {r m : Int} {n i : Nat} {bs : List Blob} {es : List Entry} {g : List ByteArray} {x : Entry} (h : lackV bs r m ≠ 0) (ho : oldest es = some i) (hx : es[i]? = some x) (hn : es.length ≤ n) :
    ∃ k, (es.take i ++ es.drop (i + 1)).length ≤ k ∧ k < n ∧ evG r m n bs es g = evG r m k (cleanL (allOf bs (es.take i ++ es.drop (i + 1))) bs) (es.take i ++ es.drop (i + 1)) (g ++ [x.key]) := by
  have hi := (List.getElem?_eq_some_iff.1 hx).1
  cases n with
  | zero => omega
  | succ n =>
    refine ⟨n, by rw [List.length_append, List.length_take, List.length_drop]; omega, by omega, ?_⟩
    rw [evG, if_neg h, ho]
    simp only []
    rw [hx]
open Classical in
noncomputable def evO (z : Int) (bs : List Blob) (es : List Entry) (r m : Int) : EvO :=
  if z ≠ 0 then evNo z else if ¬ inRoom r m then evNo 4 else if lackV bs r m = 0 then ⟨0, bs, es, []⟩ else evG r m es.length (cleanL (allOf bs es) bs) es []
theorem evO_z {z : Int} {bs : List Blob} {es : List Entry} {r m : Int} (h : z ≠ 0) : evO z bs es r m = evNo z := if_pos h
theorem evO_m {bs : List Blob} {es : List Entry} {r m : Int} (h : ¬ inRoom r m) : evO 0 bs es r m = evNo 4 := by unfold evO; rw [if_neg (by decide), if_pos h]
theorem evO_0 {bs : List Blob} {es : List Entry} {r m : Int} (h : inRoom r m) (hl : lackV bs r m = 0) : evO 0 bs es r m = ⟨0, bs, es, []⟩ := by unfold evO; rw [if_neg (by decide), if_neg (not_not_intro h), if_pos hl]
theorem evO_g {bs : List Blob} {es : List Entry} {r m : Int} (h : inRoom r m) (hl : lackV bs r m ≠ 0) : evO 0 bs es r m = evG r m es.length (cleanL (allOf bs es) bs) es [] := by unfold evO; rw [if_neg (by decide), if_neg (not_not_intro h), if_neg hl]
end Go.Proofs.YtkbijjglodnfbaaGreat
