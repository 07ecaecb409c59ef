/-
  The run of a collector, by plain functions: it ends, and something goes just when there are fewer blobs.
-/
import Derived.Test.YtpcnhldlfmdlhaaGreatQxTkI
import Derived.Test.YtpcnhldlfmdlhaaGreatQxChc
import Derived.Test.YtpcnhldlfmdlhaaGreatQxSwx
namespace Go.Proofs.YtpcnhldlfmdlhaaGreat
open Go.RowKit

noncomputable def tkO (S : Store) (C : Coll) : CoOut :=
  tickC (collF S.blobs S.entries S.room S.clock C.phase C.grey C.place) C.phase (mkOut (storeFault S.blobs S.entries S.room S.clock) C.phase S.blobs S.entries S.room S.clock C.grey) (swAll C.place C.phase S.blobs S.entries S.room S.clock)
noncomputable def tkG (S : Store) (C : Coll) : ByteArray := tickD (collF S.blobs S.entries S.room S.clock C.phase C.grey C.place) C.phase (swAll C.place C.phase S.blobs S.entries S.room S.clock)
def unm (l : List Blob) : Nat := (l.filter fun x => !x.mark).length
def cnt (p : ByteArray) (l : List Blob) : Nat := (l.filter fun x => slt p x.digest).length
def mea (S : Store) (C : Coll) : Nat := if C.phase = 0 then 0 else if C.phase = 1 then 9 * unm S.blobs + C.grey.length + 100 else cnt C.place S.blobs + 1

theorem filter_lt {α : Type} {p q : α → Bool} : ∀ {l : List α}, (∀ y ∈ l, p y = true → q y = true) → (∃ x ∈ l, q x = true ∧ p x = false) → (l.filter p).length < (l.filter q).length
  | [], _, h => by obtain ⟨x, hx, _⟩ := h; cases hx
  | a :: l, h, ⟨x, hx, hq, hp⟩ => by
    have hle : (l.filter p).length ≤ (l.filter q).length := filter_le' (fun y hy => h y (List.mem_cons_of_mem _ hy))
    rcases List.mem_cons.1 hx with rfl | hx
    · rw [List.filter_cons_of_neg (by rw [hp]; decide), List.filter_cons_of_pos hq, List.length_cons]
      omega
    · have ih := filter_lt (p := p) (q := q) (l := l) (fun y hy => h y (List.mem_cons_of_mem _ hy)) ⟨x, hx, hq, hp⟩
      by_cases ha : p a = true
      · rw [List.filter_cons_of_pos ha, List.filter_cons_of_pos (h a List.mem_cons_self ha), List.length_cons, List.length_cons]
        omega
      · rw [List.filter_cons_of_neg ha]
        by_cases hb : q a = true
        · rw [List.filter_cons_of_pos hb, List.length_cons]; omega
        · rw [List.filter_cons_of_neg hb]; exact ih
where filter_le' {α : Type} {p q : α → Bool} : ∀ {l : List α}, (∀ y ∈ l, p y = true → q y = true) → (l.filter p).length ≤ (l.filter q).length
  | [], _ => Nat.le_refl _
  | a :: l, h => by
    have ih := filter_le' (p := p) (q := q) (l := l) (fun y hy => h y (List.mem_cons_of_mem _ hy))
    by_cases ha : p a = true
    · rw [List.filter_cons_of_pos ha, List.filter_cons_of_pos (h a List.mem_cons_self ha), List.length_cons, List.length_cons]
      omega
    · rw [List.filter_cons_of_neg ha]
      by_cases hb : q a = true
      · rw [List.filter_cons_of_pos hb, List.length_cons]; omega
      · rw [List.filter_cons_of_neg hb]; exact ih
theorem cnt_le (p : ByteArray) (l : List Blob) : cnt p l ≤ l.length := List.length_filter_le _ _
theorem unm_le (l : List Blob) : unm l ≤ l.length := List.length_filter_le _ _
theorem unm_set {l : List Blob} {x : Blob} {i : Nat} (h : l[i]? = some x) (hm : x.mark = false) : unm (l.set i { x with mark := true }) + 1 = unm l := by
  induction l generalizing i with
  | nil => cases h
  | cons a l ih =>
    unfold unm at ih ⊢
    cases i with
    | zero =>
      simp only [List.getElem?_cons_zero, Option.some.injEq] at h
      subst h
      rw [List.set_cons_zero, List.filter_cons_of_neg (by simp), List.filter_cons_of_pos (by simp [hm]), List.length_cons]
    | succ i =>
      simp only [List.getElem?_cons_succ] at h
      have h1 := ih h
      rw [List.set_cons_succ]
      by_cases ha : (!a.mark) = true
      · rw [List.filter_cons_of_pos (p := fun x : Blob => !x.mark) ha, List.filter_cons_of_pos (p := fun x : Blob => !x.mark) ha, List.length_cons, List.length_cons]; omega
      · rw [List.filter_cons_of_neg (p := fun x : Blob => !x.mark) ha, List.filter_cons_of_neg (p := fun x : Blob => !x.mark) ha]; exact h1
theorem first_hit {α : Type} {q : α → Bool} : ∀ {l : List α} {x : α}, l[firstAt q l]? = some x → q x = true
  | [], x, h => by cases h
  | a :: l, x, h => by
    rw [firstAt] at h
    split at h
    · rename_i hq
      simp only [List.getElem?_cons_zero, Option.some.injEq] at h
      rw [← h]; exact hq
    · simp only [List.getElem?_cons_succ] at h
      exact first_hit h
theorem cnt_next {p : ByteArray} {l : List Blob} {x : Blob} (h : l[swAt p l]? = some x) : cnt x.digest l < cnt p l := by
  have hq : slt p x.digest = true := first_hit (q := fun x : Blob => slt p x.digest) h
  exact filter_lt (fun y _ hy => slt_trans hq hy) ⟨x, List.mem_of_getElem? h, hq, slt_irrefl _⟩
theorem cnt_gone (p : ByteArray) (l : List Blob) (i : Nat) : cnt p (l.take i ++ l.drop (i + 1)) ≤ cnt p l := by
  unfold cnt
  refine List.Sublist.length_le (List.Sublist.filter _ ?_)
  have : l = l.take i ++ l.drop i := (List.take_append_drop i l).symm
  conv => rhs; rw [this]
  exact (List.Sublist.refl _).append (List.drop_sublist_drop_left l (Nat.le_succ i))
theorem added_le (a b : List ByteArray) : (addedL a b).length ≤ a.length + b.length := by
  have := compact_len_map (a ++ b)
  rw [List.length_append] at this
  exact this
theorem coll_store {S : Store} {C : Coll} (h : collF S.blobs S.entries S.room S.clock C.phase C.grey C.place = 0) : storeFault S.blobs S.entries S.room S.clock = 0 := by
  apply Classical.byContradiction
  intro hz
  unfold collF at h
  rw [coll_z hz] at h
  exact hz h
theorem blob_digest {bs : List Blob} {x : Blob} (h : blobsFault bs = 0) (hx : x ∈ bs) : x.digest.size = 64 := by
  unfold blobsFault at h
  split at h
  · cases h
  · obtain ⟨q, hq⟩ := fault_all h x hx
    unfold blobFault at hq
    split at hq
    · rename_i h1; exact (hexFault_zero (blobErr_zero h1).1).1
    · rename_i h1; exact absurd hq h1
/-- What one step does to what is to be done still. -/
structure TickOk (S : Store) (C : Coll) : Prop where
  less : mea (tkO S C).store (tkO S C).coll < mea S C
  grey : (tkO S C).coll.grey.length ≤ mea (tkO S C).store (tkO S C).coll
  fewer : (tkG S C).size = 0 ↔ ¬ (tkO S C).store.blobs.length < S.blobs.length
  phase : 0 ≤ (tkO S C).coll.phase
  place : (tkO S C).coll.place = ⟨#[]⟩ ∨ ∃ x ∈ S.blobs, (tkO S C).coll.place = x.digest
  gone : tkG S C = ⟨#[]⟩ ∨ ∃ x ∈ S.blobs, tkG S C = x.digest
theorem tick_ok {S : Store} {C : Coll} (hp : C.phase ≠ 0) (h : (tkO S C).err = 0) : TickOk S C := by
  have hc : collF S.blobs S.entries S.room S.clock C.phase C.grey C.place = 0 := by
    apply Classical.byContradiction
    intro hn
    have h1 := h
    unfold tkO at h1
    rw [(tick_bad hn).1] at h1
    exact hn h1
  have hs := coll_store hc
  obtain ⟨hb24, -, -⟩ := store_small hs
  by_cases h1 : C.phase = 1
  · have e1 : tkO S C = ⟨0, ⟨(mst S.blobs C.grey).1, S.entries, S.room, S.clock⟩, (mst S.blobs C.grey).2⟩ := by
      unfold tkO
      rw [hc, hs, h1, tick_1.1, mk_ok]
    have e2 : tkG S C = ⟨#[]⟩ := by
      unfold tkG
      rw [hc, h1, (tick_1 (M := ⟨0, noStore, noColl⟩)).2]
    have hm : mea S C = 9 * unm S.blobs + C.grey.length + 100 := by unfold mea; rw [if_neg hp, if_pos h1]
    have hme : ∀ B G, mea ⟨B, S.entries, S.room, S.clock⟩ ⟨1, G, ⟨#[]⟩⟩ = 9 * unm B + G.length + 100 := fun B G => by unfold mea; rw [if_neg (by simp), if_pos rfl]
    cases hg : C.grey[0]? with
    | none =>
      have e3 := mst_nil (bs := S.blobs) hg
      rw [e3] at e1
      have hm2 : mea ⟨S.blobs, S.entries, S.room, S.clock⟩ ⟨2, [], ⟨#[]⟩⟩ = cnt ⟨#[]⟩ S.blobs + 1 := by unfold mea; rw [if_neg (by simp), if_neg (by decide)]
      have := cnt_le ⟨#[]⟩ S.blobs
      exact ⟨by rw [e1, hm]; show mea ⟨S.blobs, S.entries, S.room, S.clock⟩ ⟨2, [], ⟨#[]⟩⟩ < _; rw [hm2]; omega, by rw [e1]; exact Nat.zero_le _, by rw [e1, e2]; exact iff_of_true rfl (Nat.lt_irrefl S.blobs.length), by rw [e1]; show (0 : Int) ≤ 2; decide, .inl (by rw [e1]), .inl e2⟩
    | some d =>
      have hgl : 0 < C.grey.length := by
        rcases Nat.eq_zero_or_pos C.grey.length with h0 | h0
        · rw [List.getElem?_eq_none (by omega)] at hg; cases hg
        · exact h0
      have hdl : (C.grey.drop 1).length = C.grey.length - 1 := List.length_drop
      have key : ∀ B G, mst S.blobs C.grey = (B, ⟨1, G, ⟨#[]⟩⟩) → B.length = S.blobs.length → 9 * unm B + G.length < 9 * unm S.blobs + C.grey.length → TickOk S C := fun B G e3 hl hlt => by
        rw [e3] at e1
        exact ⟨by rw [e1, hm]; show mea ⟨B, S.entries, S.room, S.clock⟩ ⟨1, G, ⟨#[]⟩⟩ < _; rw [hme]; omega, by rw [e1]; show G.length ≤ mea ⟨B, S.entries, S.room, S.clock⟩ ⟨1, G, ⟨#[]⟩⟩; rw [hme]; omega, by rw [e1, e2]; exact iff_of_true rfl (by show ¬ B.length < S.blobs.length; omega), by rw [e1]; show (0 : Int) ≤ 1; decide, .inl (by rw [e1]), .inl e2⟩
      cases hx : S.blobs[atKey (fun x : Blob => x.digest) d S.blobs]? with
      | none => exact key _ _ (mst_none hg hx) rfl (by rw [hdl]; omega)
      | some x =>
        cases hmk : x.mark with
        | true => exact key _ _ (mst_mark hg hx hmk) rfl (by rw [hdl]; omega)
        | false =>
          refine key _ _ (mst_new hg hx hmk) List.length_set ?_
          have h2 := unm_set hx hmk
          have h3 := added_le (C.grey.drop 1) (digsOf x)
          have h4 := (digs_small x).1
          rw [hdl] at h3
          omega
  · by_cases h2 : C.phase = 2
    · obtain ⟨sf, hsf⟩ : ∃ sf, sf = storeFault (S.blobs.take (swAt C.place S.blobs) ++ S.blobs.drop (swAt C.place S.blobs + 1)) S.entries S.room S.clock := ⟨_, rfl⟩
      have e0 : swAll C.place C.phase S.blobs S.entries S.room S.clock = swOut 0 sf 2 (swAt C.place S.blobs) S.blobs S.entries S.room S.clock := by unfold swAll; rw [hs, h2, hsf]
      have e1 : tkO S C = ⟨(swOut 0 sf 2 (swAt C.place S.blobs) S.blobs S.entries S.room S.clock).err, (swOut 0 sf 2 (swAt C.place S.blobs) S.blobs S.entries S.room S.clock).store, ⟨(swOut 0 sf 2 (swAt C.place S.blobs) S.blobs S.entries S.room S.clock).phase, [], (swOut 0 sf 2 (swAt C.place S.blobs) S.blobs S.entries S.room S.clock).place⟩⟩ := by
        unfold tkO
        rw [e0, hc, h2, tick_2.1]
      have e2 : tkG S C = (swOut 0 sf 2 (swAt C.place S.blobs) S.blobs S.entries S.room S.clock).gone := by
        unfold tkG
        rw [e0, hc, h2, (tick_2 (M := ⟨0, noStore, noColl⟩)).2]
      have hm : mea S C = cnt C.place S.blobs + 1 := by unfold mea; rw [if_neg hp, if_neg h1]
      have hm0 : ∀ S' P, mea S' ⟨0, [], P⟩ = 0 := fun S' P => by unfold mea; rw [if_pos rfl]
      have hm2 : ∀ S' P, mea S' ⟨2, [], P⟩ = cnt P S'.blobs + 1 := fun S' P => by unfold mea; rw [if_neg (by show ¬ (2 : Int) = 0; decide), if_neg (by show ¬ (2 : Int) = 1; decide)]
      cases hx : S.blobs[swAt C.place S.blobs]? with
      | none =>
        rw [sw_none hx] at e1 e2
        exact ⟨by rw [e1, hm]; show mea _ ⟨0, [], ⟨#[]⟩⟩ < _; rw [hm0]; omega, by rw [e1]; exact Nat.zero_le _, by rw [e1, e2]; exact iff_of_true rfl (Nat.lt_irrefl S.blobs.length), by rw [e1]; show (0 : Int) ≤ 0; decide, .inl (by rw [e1]), .inl e2⟩
      | some x =>
        have hn := cnt_next hx
        have hmem := List.mem_of_getElem? hx
        cases hmk : x.mark with
        | true =>
          rw [sw_mark hx hmk] at e1 e2
          exact ⟨by rw [e1, hm]; show mea ⟨S.blobs, S.entries, S.room, S.clock⟩ ⟨2, [], x.digest⟩ < _; rw [hm2]; show cnt x.digest S.blobs + 1 < _; omega, by rw [e1]; exact Nat.zero_le _, by rw [e1, e2]; exact iff_of_true rfl (Nat.lt_irrefl S.blobs.length), by rw [e1]; show (0 : Int) ≤ 2; decide, .inr ⟨x, hmem, by rw [e1]⟩, .inl e2⟩
        | false =>
          by_cases hpf : 0 < x.pins ∨ sf ≠ 0
          · have h3 := h
            rw [e1, sw_held hx hmk hpf] at h3
            exact absurd h3 (by decide)
          · obtain ⟨hp0, hf0⟩ := not_or.1 hpf
            have hf0' : sf = 0 := Classical.byContradiction hf0
            rw [sw_gone hx hmk hp0 hf0'] at e1 e2
            have hg := cnt_gone x.digest S.blobs (swAt C.place S.blobs)
            have hlt := (List.getElem?_eq_some_iff.1 hx).1
            have h64 := blob_digest (store_zero hs).1 hmem
            refine ⟨by rw [e1, hm]; show mea ⟨S.blobs.take (swAt C.place S.blobs) ++ S.blobs.drop (swAt C.place S.blobs + 1), S.entries, S.room, S.clock⟩ ⟨2, [], x.digest⟩ < _; rw [hm2]; show cnt x.digest (S.blobs.take (swAt C.place S.blobs) ++ S.blobs.drop (swAt C.place S.blobs + 1)) + 1 < _; omega, by rw [e1]; exact Nat.zero_le _, ?_, by rw [e1]; show (0 : Int) ≤ 2; decide, .inr ⟨x, hmem, by rw [e1]⟩, .inr ⟨x, hmem, e2⟩⟩
            rw [e1, e2]
            simp only [List.length_append, List.length_take, List.length_drop]
            omega
    · have h3 := h
      unfold tkO at h3
      rw [hc, (tick_0 h1 h2).1] at h3
      exact absurd h3 (by decide)

structure Rn where
  err : Int
  store : Store
  coll : Coll
  gone : List ByteArray
/-- All steps of a collector, as many as there may be. -/
noncomputable def runF : Nat → Store → Coll → List ByteArray → Rn
  | 0, S, C, l => ⟨0, S, C, l⟩
  | n + 1, S, C, l => if C.phase = 0 then ⟨0, S, C, l⟩ else if (tkO S C).err ≠ 0 then ⟨(tkO S C).err, noStore, noColl, []⟩ else runF n (tkO S C).store (tkO S C).coll (if (tkG S C).size = 0 then l else l ++ [tkG S C])
noncomputable def runOut (c : Int) (S : Store) (C : Coll) : Rn := if c ≠ 0 then ⟨c, noStore, noColl, []⟩ else runF (mea S C) S C []
theorem run_bad {c : Int} {S : Store} {C : Coll} (h : c ≠ 0) : runOut c S C = ⟨c, noStore, noColl, []⟩ := if_pos h
theorem run_go {S : Store} {C : Coll} : runOut 0 S C = runF (mea S C) S C [] := if_neg (by simp)
theorem runF_end {n : Nat} {S : Store} {C : Coll} {l : List ByteArray} (h : C.phase = 0) : runF n S C l = ⟨0, S, C, l⟩ := by
  cases n with
  | zero => rfl
  | succ n => rw [runF, if_pos h]
theorem mea_pos {S : Store} {C : Coll} (h : C.phase ≠ 0) : 0 < mea S C := by
  unfold mea
  rw [if_neg h]
  split <;> omega
theorem runF_err {n : Nat} {S : Store} {C : Coll} {l : List ByteArray} (hn : mea S C ≤ n) (h : C.phase ≠ 0) (he : (tkO S C).err ≠ 0) : runF n S C l = ⟨(tkO S C).err, noStore, noColl, []⟩ := by
  cases n with
  | zero => have := mea_pos (S := S) h; omega
  | succ n => rw [runF, if_neg h, if_pos he]
theorem runF_next {n : Nat} {S : Store} {C : Coll} {l : List ByteArray} (hn : mea S C ≤ n) (h : C.phase ≠ 0) (he : (tkO S C).err = 0) :
    ∃ m, n = m + 1 ∧ mea (tkO S C).store (tkO S C).coll ≤ m ∧ runF n S C l = runF m (tkO S C).store (tkO S C).coll (if (tkG S C).size = 0 then l else l ++ [tkG S C]) := by
  have hl := (tick_ok h he).less
  cases n with
  | zero => omega
  | succ n => exact ⟨n, rfl, by omega, by rw [runF, if_neg h, if_neg (by simp [he])]⟩
end Go.Proofs.YtpcnhldlfmdlhaaGreat
