/-
  What can be come to from digests, through blobs that are manifests; texts sorted without repeats; a map's keys. No function of the program is named here.
-/
import Derived.Test.YtojebioolflbkaaGreatKB
import Derived.Test.YtojebioolflbkaaGreatDe
import Derived.Test.YtojebioolflbkaaGreatSrt
import Derived.Maps.OwnOps
import Derived.Maps.Views
import Derived.Sort.KeysCollected
import Derived.Sort.Walk0
namespace Go.Proofs.YtojebioolflbkaaGreat
open Go.RowKit

/-- A blob of this digest is there. -/
def InB (l : List Blob) (d : ByteArray) : Prop := atKey (fun x : Blob => x.digest) d l < l.length
/-- The digests that the parts of the blob of this digest have. -/
def kidsOf (l : List Blob) (d : ByteArray) : List ByteArray := match l[atKey (fun x : Blob => x.digest) d l]? with | some x => (decParts x.data).1.map (·.digest) | none => []
theorem kids_at {l : List Blob} {d : ByteArray} {x : Blob} (h : l[atKey (fun x : Blob => x.digest) d l]? = some x) : kidsOf l d = (decParts x.data).1.map (·.digest) := by unfold kidsOf; rw [h]
/-- What digests come to. -/
inductive Come (l : List Blob) (ds : List ByteArray) : ByteArray → Prop
  | root {d : ByteArray} : d ∈ ds → InB l d → Come l ds d
  | step {x d : ByteArray} : Come l ds x → d ∈ kidsOf l x → InB l d → Come l ds d
theorem Come.mono {l : List Blob} {ds es : List ByteArray} (h : ∀ d ∈ ds, d ∈ es) {x : ByteArray} (hx : Come l ds x) : Come l es x := by
  induction hx with
  | root h1 h2 => exact .root (h _ h1) h2
  | step _ h2 h3 ih => exact .step ih h2 h3
theorem Come.kids {l : List Blob} {ds : List ByteArray} {d : ByteArray} (hd : d ∈ ds) (hb : InB l d) {x : ByteArray} (hx : Come l (kidsOf l d) x) : Come l ds x := by
  induction hx with
  | root h1 h2 => exact .step (.root hd hb) h1 h2
  | step _ h2 h3 ih => exact .step ih h2 h3
theorem Come.inB {l : List Blob} {ds : List ByteArray} {x : ByteArray} (hx : Come l ds x) : InB l x := by
  cases hx with
  | root _ h2 => exact h2
  | step _ _ h3 => exact h3

/-- From what was met to what is met behind, digests having been sought. -/
structure Sought (l : List Blob) (ds M M' : List ByteArray) : Prop where
  keep : ∀ x ∈ M, x ∈ M'
  roots : ∀ d ∈ ds, InB l d → d ∈ M'
  from_ : ∀ x ∈ M', x ∈ M ∨ Come l ds x
  shut : ∀ x ∈ M', x ∉ M → ∀ y ∈ kidsOf l x, InB l y → y ∈ M'
section
variable {l : List Blob} {ds M M1 M2 : List ByteArray} {d : ByteArray}
theorem Sought.refl : Sought l [] M M := ⟨fun _ h => h, fun _ h => by simp at h, fun _ h => .inl h, fun _ h h2 => absurd h h2⟩
theorem Sought.snoc (h : Sought l ds M M1) (g : Sought l [d] M1 M2) : Sought l (ds ++ [d]) M M2 := by
  refine ⟨fun x hx => g.keep x (h.keep x hx), fun x hx hb => ?_, fun x hx => ?_, fun x hx hn y hy hb => ?_⟩
  · rcases List.mem_append.1 hx with hx | hx
    · exact g.keep x (h.roots x hx hb)
    · exact g.roots x hx hb
  · rcases g.from_ x hx with h1 | h1
    · rcases h.from_ x h1 with h2 | h2
      · exact .inl h2
      · exact .inr (h2.mono fun d hd => List.mem_append_left _ hd)
    · exact .inr (h1.mono fun d hd => List.mem_append_right _ hd)
  · by_cases h1 : x ∈ M1
    · exact g.keep y (h.shut x h1 hn y hy hb)
    · exact g.shut x hx h1 y hy hb
theorem Sought.none (h : ¬ InB l d) : Sought l [d] M M :=
  ⟨fun _ h => h, fun x hx hb => by rw [List.mem_singleton] at hx; subst hx; exact absurd hb h, fun _ h => .inl h, fun _ h h2 => absurd h h2⟩
theorem Sought.met (h : d ∈ M) : Sought l [d] M M :=
  ⟨fun _ h => h, fun x hx _ => by rw [List.mem_singleton] at hx; subst hx; exact h, fun _ h => .inl h, fun _ h h2 => absurd h h2⟩
theorem Sought.enter (hb : InB l d) (g : Sought l (kidsOf l d) (M ++ [d]) M2) : Sought l [d] M M2 := by
  refine ⟨fun x hx => g.keep x (List.mem_append_left _ hx), fun x hx _ => ?_, fun x hx => ?_, fun x hx hn y hy hy2 => ?_⟩
  · rw [List.mem_singleton] at hx
    subst hx
    exact g.keep x (List.mem_append_right _ (List.mem_singleton_self _))
  · rcases g.from_ x hx with h1 | h1
    · rcases List.mem_append.1 h1 with h2 | h2
      · exact .inl h2
      · rw [List.mem_singleton] at h2
        subst h2
        exact .inr (.root (List.mem_singleton_self _) hb)
    · exact .inr (h1.kids (List.mem_singleton_self _) hb)
  · by_cases h1 : x ∈ M ++ [d]
    · rcases List.mem_append.1 h1 with h2 | h2
      · exact absurd h2 hn
      · rw [List.mem_singleton] at h2
        subst h2
        exact g.roots y hy hy2
    · exact g.shut x hx h1 y hy hy2
theorem Sought.all (h : Sought l ds [] M) (x : ByteArray) : x ∈ M ↔ Come l ds x := by
  refine ⟨fun hx => (h.from_ x hx).resolve_left (by simp), fun hx => ?_⟩
  induction hx with
  | root h1 h2 => exact h.roots _ h1 h2
  | step _ h2 h3 ih => exact h.shut _ ih (by simp) _ h2 h3
end
/-- What is met: no digest twice, and a blob of each is there. -/
structure Tidy (l : List Blob) (M : List ByteArray) : Prop where
  nodup : M.Nodup
  inB : ∀ x ∈ M, InB l x
theorem nodup_len {α : Type} [DecidableEq α] : ∀ {M L : List α}, M.Nodup → (∀ x ∈ M, x ∈ L) → M.length ≤ L.length
  | [], _, _, _ => by simp
  | x :: M, L, h, hs => by
    have hx := hs x (List.mem_cons_self)
    obtain ⟨h1, h2⟩ := List.nodup_cons.1 h
    have h3 := nodup_len (M := M) (L := L.erase x) h2 (fun y hy => by
      refine (List.mem_erase_of_ne (fun e => ?_)).2 (hs y (List.mem_cons_of_mem _ hy))
      subst e
      exact h1 hy)
    have h4 := List.length_erase_of_mem hx
    have h5 := List.length_pos_of_mem hx
    simp only [List.length_cons]
    omega
theorem bstr_data (s : ByteArray) : bstr s.data.toList = s := rfl
theorem data_inj {a b : ByteArray} (h : a.data.toList = b.data.toList) : a = b := by
  rw [← bstr_data a, h, bstr_data]
theorem nodup_data {M : List ByteArray} (h : M.Nodup) : (M.map (fun s => s.data.toList)).Nodup := List.pairwise_map.2 (h.imp fun hab e => hab (data_inj e))
theorem atKey_key {d : ByteArray} : ∀ {l : List Blob} {x : Blob}, l[atKey (fun x : Blob => x.digest) d l]? = some x → x.digest = d
  | [], x, h => by simp at h
  | y :: l, x, h => by
    rw [atKey] at h
    split at h
    · rename_i h0
      simp only [List.getElem?_cons_zero, Option.some.injEq] at h
      subst h
      exact key_eq.1 h0
    · exact atKey_key (l := l) (by simpa using h)
theorem inB_digest {l : List Blob} {d : ByteArray} (h : InB l d) : d ∈ l.map (·.digest) := by
  have h1 : l[atKey (fun x : Blob => x.digest) d l]? = some l[atKey (fun x : Blob => x.digest) d l] := List.getElem?_eq_getElem h
  exact List.mem_map.2 ⟨_, List.getElem_mem _, atKey_key h1⟩
theorem Tidy.len {l : List Blob} {M : List ByteArray} (h : Tidy l M) : M.length ≤ l.length := by
  have := nodup_len (nodup_data h.nodup) (L := (l.map (·.digest)).map (fun s => s.data.toList)) (fun x hx => by
    obtain ⟨y, hy, rfl⟩ := List.mem_map.1 hx
    exact List.mem_map_of_mem (inB_digest (h.inB y hy)))
  simpa using this
theorem Tidy.add {l : List Blob} {M : List ByteArray} {d : ByteArray} (h : Tidy l M) (hb : InB l d) (hd : d ∉ M) : Tidy l (M ++ [d]) := by
  refine ⟨List.nodup_append.2 ⟨h.nodup, by simp, fun x hx y hy e => ?_⟩, fun x hx => ?_⟩
  · rw [List.mem_singleton] at hy
    subst hy
    exact hd (e ▸ hx)
  · rcases List.mem_append.1 hx with h1 | h1
    · exact h.inB x h1
    · rw [List.mem_singleton] at h1
      subst h1
      exact hb
theorem Tidy.nil {l : List Blob} : Tidy l [] := ⟨List.nodup_nil, fun _ h => by simp at h⟩
end Go.Proofs.YtojebioolflbkaaGreat

namespace Go.Proofs.YtojebioolflbkaaGreat
open Go.RowKit Go.Maps

/-- Texts sorted. -/
def sortS (M : List ByteArray) : List ByteArray := ((M.map (fun s => s.data.toList)).mergeSort leB).map bstr
theorem slt_list (a b : ByteArray) : slt a b = decide (a.data.toList < b.data.toList) := by
  unfold slt
  rw [bytesLess_eq, toList_data, toList_data]
theorem map_bstr (R : List ByteArray) : (R.map (fun s => s.data.toList)).map bstr = R := by
  rw [List.map_map]
  exact List.map_id'' (fun s => rfl) R
theorem rising_nodup {R : List ByteArray} (h : Rising id R) : R.Nodup := h.imp fun {a b} hab e => by
  subst e
  have := slt_irrefl a
  simp only [id] at hab
  rw [this] at hab
  cases hab
theorem rising_sortS {R M : List ByteArray} (hr : Rising id R) (hm : ∀ x, x ∈ R ↔ x ∈ M) (hn : M.Nodup) : sortS M = R := by
  have tr : ∀ a b c : List UInt8, leB a b = true → leB b c = true → leB a c = true := fun a b c h1 h2 => by simp only [leB, decide_eq_true_eq] at *; exact List.le_trans h1 h2
  have to : ∀ a b : List UInt8, (leB a b || leB b a) = true := fun a b => by simp only [leB, Bool.or_eq_true, decide_eq_true_eq]; exact List.le_total a b
  have hp : R.Perm M := (List.perm_ext_iff_of_nodup (rising_nodup hr) hn).2 hm
  have hp2 := hp.map (fun s : ByteArray => s.data.toList)
  have hs : (R.map (fun s => s.data.toList)).Pairwise (fun a b => leB a b = true) := List.pairwise_map.2 (hr.imp fun {a b} hab => by
    simp only [id, slt_list, decide_eq_true_eq] at hab
    simp only [leB, decide_eq_true_eq]
    exact List.le_of_lt hab)
  have he : (M.map (fun s => s.data.toList)).mergeSort leB = R.map (fun s => s.data.toList) := by
    refine List.Perm.eq_of_pairwise (le := fun a b => leB a b = true) (fun a b _ _ h1 h2 => ?_) (List.pairwise_mergeSort tr to _) hs ((List.mergeSort_perm _ leB).trans hp2.symm)
    simp only [leB, decide_eq_true_eq] at h1 h2
    exact List.le_antisymm h1 h2
  unfold sortS
  rw [he, map_bstr]
/-- Texts that rise, one more among them. -/
def insS (R : List ByteArray) (s : ByteArray) : List ByteArray := if R[lowAt id s R]? = some s then R else R.take (lowAt id s R) ++ s :: R.drop (lowAt id s R)
def risingL (M : List ByteArray) : List ByteArray := M.foldl insS []
theorem insS_mem (R : List ByteArray) (s x : ByteArray) : x ∈ insS R s ↔ x ∈ R ∨ x = s := by
  unfold insS
  split
  · rename_i h
    refine ⟨.inl, fun h2 => h2.elim (fun h => h) fun e => ?_⟩
    subst e
    exact List.mem_of_getElem? h
  · rw [List.mem_append, List.mem_cons]
    have e := List.take_append_drop (lowAt id s R) R
    constructor
    · rintro (h | h | h)
      · exact .inl (List.mem_of_mem_take h)
      · exact .inr h
      · exact .inl (List.mem_of_mem_drop h)
    · rintro (h | h)
      · rw [← e, List.mem_append] at h
        exact h.elim .inl (fun h => .inr (.inr h))
      · exact .inr (.inl h)
theorem insS_rising {R : List ByteArray} (h : Rising id R) (s : ByteArray) : Rising id (insS R s) := by
  unfold insS
  split
  · exact h
  · rename_i hne
    have hle := lowAt_le id s R
    refine List.pairwise_append.2 ⟨h.sublist (List.take_sublist _ _), List.pairwise_cons.2 ⟨fun y hy => ?_, h.sublist (List.drop_sublist _ _)⟩, fun x hx y hy => ?_⟩
    · obtain ⟨j, hj⟩ := List.mem_iff_getElem?.1 hy
      rw [List.getElem?_drop] at hj
      have h1 : slt y s = false := lowAt_behind h (Nat.le_add_right _ _) hj
      cases h2 : slt s y with
      | true => exact h2
      | false =>
        have h3 := slt_tri h1 h2
        subst h3
        exfalso
        rcases Nat.eq_zero_or_pos j with h4 | h4
        · subst h4
          exact hne hj
        · have h5 := lowAt_next h (Nat.lt_add_of_pos_right h4) hj
          simp only [id] at h5
          rw [slt_irrefl] at h5
          cases h5
    · obtain ⟨j, hj⟩ := List.mem_iff_getElem?.1 hx
      have hj2 : j < lowAt id s R := by
        have := (List.getElem?_eq_some_iff.1 hj).1
        rw [List.length_take] at this
        omega
      rw [List.getElem?_take_of_lt hj2] at hj
      have h1 : slt x s = true := lowAt_before hj2 hj
      rcases List.mem_cons.1 hy with rfl | hy
      · exact h1
      · obtain ⟨i, hi⟩ := List.mem_iff_getElem?.1 hy
        rw [List.getElem?_drop] at hi
        have h2 : slt y s = false := lowAt_behind h (Nat.le_add_right _ _) hi
        cases h3 : slt s y with
        | true => exact slt_trans h1 h3
        | false =>
          have h4 := slt_tri h2 h3
          subst h4
          exact h1
theorem insS_len (R : List ByteArray) (s : ByteArray) : (insS R s).length ≤ R.length + 1 := by
  unfold insS
  have hle := lowAt_le id s R
  split
  · omega
  · rw [List.length_append, List.length_cons, List.length_take, List.length_drop]; omega
theorem foldl_ins : ∀ (M R : List ByteArray), Rising id R → Rising id (M.foldl insS R) ∧ (∀ x, x ∈ M.foldl insS R ↔ x ∈ R ∨ x ∈ M)
  | [], R, h => ⟨h, fun x => by simp⟩
  | s :: M, R, h => by
    obtain ⟨h1, h2⟩ := foldl_ins M (insS R s) (insS_rising h s)
    refine ⟨h1, fun x => ?_⟩
    show x ∈ M.foldl insS (insS R s) ↔ _
    rw [h2 x, insS_mem, List.mem_cons, or_assoc]
theorem risingL_eq {M M' : List ByteArray} (hm : ∀ x, x ∈ M ↔ x ∈ M') (hn : M'.Nodup) : sortS M' = risingL M := by
  obtain ⟨h1, h2⟩ := foldl_ins M [] .nil
  exact rising_sortS h1 (fun x => by
    show x ∈ M.foldl insS [] ↔ _
    rw [h2 x]
    simp [hm x]) hn

/-- Is a text in a list? -/
def isIn (s : ByteArray) (M : List ByteArray) : Bool := decide (s.data.toList ∈ M.map (fun s => s.data.toList))
theorem isIn_iff {s : ByteArray} {M : List ByteArray} : isIn s M = true ↔ s ∈ M := by
  unfold isIn
  rw [decide_eq_true_eq, List.mem_map]
  exact ⟨fun ⟨x, hx, e⟩ => data_inj e ▸ hx, fun h => ⟨s, h, rfl⟩⟩
theorem isIn_not {s : ByteArray} {M : List ByteArray} : isIn s M = false ↔ s ∉ M := by
  rw [← isIn_iff, Bool.not_eq_true]
/-- A map's datum holds just the texts of a list. -/
structure SeenS {H : Type} (D : DataW H) (M : List ByteArray) : Prop where
  map : ∃ es, D = .map es ∧ (∀ p ∈ es, ∃ x, p.1 = .string x)
  keys : (strKeys D).Perm (M.map (fun s => s.data.toList))
  at_ : ∀ s : ByteArray, D.atKey (.string s.data.toList) (.lit (.bool false)) = .lit (.bool (isIn s M))
theorem SeenS.nil {H : Type} : SeenS (H := H) (.map []) [] := ⟨⟨[], rfl, fun p hp => by simp at hp⟩, by simp [strKeys], fun s => by simp [DataW.atKey, isIn]⟩
/-- A text more, if it is not among them. -/
def addS (M : List ByteArray) (s : ByteArray) : List ByteArray := if isIn s M = true then M else M ++ [s]
theorem addS_no {M : List ByteArray} {s : ByteArray} (h : isIn s M = false) : addS M s = M ++ [s] := if_neg (by simp [h])
theorem addS_mem (M : List ByteArray) (s x : ByteArray) : x ∈ addS M s ↔ x ∈ M ∨ x = s := by
  unfold addS
  split
  · rename_i h
    refine ⟨.inl, fun h2 => h2.elim (fun h => h) (fun e => ?_)⟩
    subst e
    exact isIn_iff.1 h
  · simp
theorem addS_nodup {M : List ByteArray} {s : ByteArray} (h : M.Nodup) : (addS M s).Nodup := by
  unfold addS
  split
  · exact h
  · rename_i hs
    refine List.nodup_append.2 ⟨h, by simp, fun x hx y hy e => ?_⟩
    rw [List.mem_singleton] at hy
    subst hy
    subst e
    exact hs (isIn_iff.2 hx)
theorem addS_len (M : List ByteArray) (s : ByteArray) : (addS M s).length ≤ M.length + 1 := by
  unfold addS; split <;> simp
theorem SeenS.put {H : Type} {D : DataW H} {M : List ByteArray} {s : ByteArray} (h : SeenS D M) (hn : M.Nodup) : SeenS (D.put (.string s.data.toList) (.lit (.bool true))) (addS M s) := by
  obtain ⟨⟨es, rfl, hk⟩, h2, h3⟩ := h
  have hp := WideShapes.insert_perm (Lit.string s.data.toList, (DataW.lit (.bool true) : DataW H)) (es.filter fun p => !p.1.sameKey (.string s.data.toList))
  refine ⟨⟨_, rfl, fun p hpm => ?_⟩, ?_, fun x => ?_⟩
  · rcases List.mem_cons.1 (hp.mem_iff.1 hpm) with rfl | h4
    · exact ⟨_, rfl⟩
    · exact hk p (List.mem_filter.1 h4).1
  · have e1 : (strKeys (DataW.map (es.filter fun p => !p.1.sameKey (.string s.data.toList)))) = (strKeys (DataW.map es)).filter (fun x => decide (x ≠ s.data.toList)) := by
      show (es.filter _).map (fun p => strOf p.1) = (es.map (fun p => strOf p.1)).filter _
      rw [List.filter_map]
      congr 1
      refine List.filter_congr fun p hpm => ?_
      obtain ⟨x, hx⟩ := hk p hpm
      simp only [Function.comp, hx, strOf, Lit.sameKey]
      by_cases e : x = s.data.toList <;> simp [e]
    have e2 : (strKeys (DataW.put (.map es) (.string s.data.toList) (DataW.lit (.bool true) : DataW H))).Perm (s.data.toList :: (strKeys (DataW.map es)).filter (fun x => decide (x ≠ s.data.toList))) := by
      rw [← e1]
      exact hp.map (fun p => strOf p.1)
    refine e2.trans ?_
    have e3 := (h2.filter (fun x => decide (x ≠ s.data.toList)))
    refine (e3.cons _).trans ?_
    have hnk := nodup_data hn
    unfold addS isIn
    by_cases hs : s.data.toList ∈ M.map (fun s => s.data.toList)
    · rw [if_pos (by simpa using hs)]
      generalize M.map (fun s => s.data.toList) = K at *
      refine ((List.perm_cons_erase hs).trans (List.Perm.cons _ ?_)).symm
      rw [List.Nodup.erase_eq_filter hnk]
      refine List.Perm.of_eq (List.filter_congr fun x _ => ?_)
      by_cases e : x = s.data.toList <;> simp [e]
    · rw [if_neg (by simpa using hs), List.map_append]
      generalize M.map (fun s => s.data.toList) = K at *
      have e4 : K.filter (fun x => decide (x ≠ s.data.toList)) = K := List.filter_eq_self.2 fun x hx => by
        simp only [decide_eq_true_eq]
        intro e
        subst e
        exact hs hx
      rw [e4]
      exact (List.perm_append_singleton _ _).symm
  · by_cases e : x = s
    · subst e
      rw [atKey_put_same ⟨es, rfl⟩ (by first | trivial | exact ⟨⟩ | decide)]
      rw [isIn_iff.2 ((addS_mem M x x).2 (.inr rfl))]
    · rw [atKey_put_other (fun e2 => e (data_inj (by injection e2))), h3 x]
      congr 2
      rw [Bool.eq_iff_iff, isIn_iff, isIn_iff, addS_mem]
      exact ⟨.inl, fun h => h.resolve_right e⟩
theorem SeenS.size {H : Type} {D : DataW H} {M : List ByteArray} (h : SeenS D M) : Maps.size D = M.length := by
  obtain ⟨⟨es, rfl, -⟩, h2, -⟩ := h
  have := h2.length_eq
  simpa [strKeys, Maps.size] using this
theorem SeenS.sorted {H : Type} {D : DataW H} {M : List ByteArray} {ss : List (List UInt8)} (h : SeenS D M) (hp : ss.Perm (strKeys D)) : (ss.mergeSort (fun x y => decide (x ≤ y))) = (sortS M).map (fun s => s.data.toList) := by
  have e : ss.mergeSort leB = (M.map (fun s => s.data.toList)).mergeSort leB := mergeSort_of_perm (hp.trans h.keys)
  unfold sortS
  rw [List.map_map]
  refine Eq.trans e ?_
  exact (List.map_id'' (fun s => rfl) _).symm
end Go.Proofs.YtojebioolflbkaaGreat
