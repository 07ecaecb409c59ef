import Derived.Test.YtpkpgehiplhkpaaGreatTzDe
import Derived.Test.YtpkpgehiplhkpaaGreatTzSwb
import Derived.Test.YtpkpgehiplhkpaaGreatTzIter
namespace Go.Proofs.YtpkpgehiplhkpaaGreat
open Go.RowKit
theorem qzskx_1 {P : Prop} (h : P := by
 go_wp2_with fail
 ((with_reducible refine hcall.out.mono ?_); rintro e w5 ⟨rfl, M5, hs5, ht5, hm5, hg5⟩)
 have hs6 := hid (hsj.out.snoc hs5)
 rw [← htk.out] at hs6
 have hg6 := hid (grown_trans hgj.out hg5)
 replace ht5 := hid ht5
 replace hm5 := hid hm5
 clear hs5 hg5 hcall hsj htj hmj hgj htk he4
 go_wp2_with fail
 go_roundw
 case rel => exact ⟨j + 1, M5, by omega, by go_num, hs6, ht5, hm5, hg6⟩
 case measure => simp [intOf]; omega) : P := h
theorem info_str : (Tryz.prog.info? 9).map (fun i => (i.zero, i.size, i.bytes)) = some (some (.string ⟨#[]⟩), 1, 16) := by kernel_rfl
theorem flat_rstr : Flat 1 cStr (ERaw cStr) := flat_raw (by decide) (fun _ => rfl) (fun _ u hu => by simp [cStr] at hu; subst hu; rfl)
def DigPost (L : List Part) (w : World) (e : Ending) (w' : World) : Prop :=
 ∃ v', e = .returned v' ∧ OS 9 1 cStr w' w.heap.size v' (L.map (·.digest)) ∧ Below w.heap.size w w'
set_option maxRecDepth 100000 in
set_option maxHeartbeats 1000000 in
theorem reach_Parts' (x : Blob) (dv : Value) (w : World) (h : RB w dv x.data) (L : List Part) (n : Int)
 (c1 : ∀ w, RB w dv x.data → Calls Tryz.prog 68 #[dv] w fun e w' => ∃ v', e = .returned (.tuple #[v', .int .i64 n]) ∧ RP w' v' L ∧ Below w.heap.size w w') :
 Calls Tryz.prog 126 #[.agg #[.string x.digest, dv, .int .i64 x.pins, .bool x.mark]] w (DigPost L w) := by
 obtain ⟨i0, ii0, hz0, hz1, hz2⟩ := info_parts info_str
 replace c1 := hid c1
 have hD := hid h
 obtain ⟨da, dc, rfl, -⟩ := h
 go_enter Tryz.func126, Tryz.ntmps126
 go_wp2_with fail
 ((with_reducible refine (c1.out _ (hD.out.mono EU8.stable (b_alloc (Below.refl _ _) _))).mono ?_); rintro e w1 ⟨v1, rfl, r1, b1⟩)
 have hb1 := hid (b_call (b_alloc (Below.refl _ w) _) b1)
 obtain ⟨pa, pc, rfl, hlc, hcm, hre, hno, hat⟩ := r1
 unfold maxLen at hcm
 replace hat := hid hat
 clear hno b1
 have hown0 : Hid (OS 9 1 cStr w1 w1.heap.size (.slice none 0 0) ((L.map (·.digest)).take 0)) := hid OS.nil
 unfold DigPost
 go_wp2_with fail
 go_loopw [5, 7, 16] (fun o _ i wr => ∃ k : Nat, k ≤ L.length ∧ i = .int .i64 (k : Int) ∧ Hid (OS 9 1 cStr wr w1.heap.size o ((L.map (·.digest)).take k)) ∧ Hid (Below w1.heap.size w1 wr)) (fun _ _ i _ => L.length - (intOf i).toNat)
 case atStart => exact ⟨0, by omega, rfl, hown0, hid (Below.refl _ _)⟩
 obtain ⟨k, hk, rfl, hown, hbr⟩ := hrel
 by_cases hlt : k < L.length
 · have hx : L[k]? = some L[k] := List.getElem?_eq_getElem hlt
   have htk := hid (List.take_succ_eq_append_getElem hlt)
   generalize L[k] = y at hx htk
   obtain ⟨bb, off, rfl, hbb, he⟩ := hat.out k _ hx
   obtain ⟨c0, c1', c2, s0, s1, wf⟩ := EPart.stable _ _ _ _ _ hbr.out hbb he
   have hbw : bb < wr.heap.size := Nat.lt_of_lt_of_le hbb hbr.out.size
   clear he hx
   have hown1 := hid (OS.alloc hown.out (Obj.cells #[.string y.name, .string y.digest, .int .i64 y.size] 67))
   have hsB := hbr.out.size
   have hrow := row_one (s := 1) (bs := 16) (cells := cStr) (wr.alloc (Obj.cells #[.string y.name, .string y.digest, .int .i64 y.size] 67)) 9 y.digest #[.string y.digest] (wr.heap.size + 1) (by simp) rfl (by decide)
   have hlk : ((L.map (·.digest)).take k).length ≤ L.length := by rw [List.length_take, List.length_map]; omega
   go_wp2_with (at_builtin; go_must (refine wpL_append flat_rstr rfl (.tmp 20) (.tmp 23) 30 rfl 9 i0 _ Tryz.underlying30 ii0 hz0 hz1 hz2 rfl w1.heap.size _ _ rfl (OS.alloc hown1.out _) _ [y.digest] rfl hrow ?c1 ?c2 ?c3 ?_))
   case c1 => simp only [List.length_cons, List.length_nil]; omega
   case c2 => simp only [List.length_cons, List.length_nil, maxLen]; omega
   case c3 => simp; omega
   intro v8 w8 ho8 hg8
   have hbr8 := hid ((((hbr.out.alloc hsB (Obj.cells #[.string y.name, .string y.digest, .int .i64 y.size] 67)).alloc (by simp; omega) (Obj.cells #[.string y.digest] 9)).grown hg8 (by simp; omega) (OS.block hown.out)))
   have hxs : Hid ((L.map (·.digest)).take k ++ [y.digest] = (L.map (·.digest)).take (k + 1)) := hid (by rw [← List.map_take, ← List.map_take, htk.out, List.map_append]; rfl)
   rw [hxs.out] at ho8
   replace ho8 := hid ho8
   clear hg8 hrow hown1 hown hbr hxs
   go_wp2_with fail
   go_roundw
   case rel => exact ⟨k + 1, by omega, by go_num, ho8, hbr8⟩
   case measure => simp [intOf]; omega
 obtain rfl : k = L.length := by omega
 rw [List.take_of_length_le (by rw [List.length_map]; exact Nat.le_refl _)] at hown
 go_wp2_with fail
 go_ret
 exact ⟨_, rfl, OS.mono hown.out hb1.out.size, b_call hb1.out hbr.out⟩
theorem dig_ok {w : World} {v : Value} {L : List Part} (h : RP w v L) : ∀ x ∈ L, x.digest.size ≤ 140737488351232 := by
 intro x hx
 obtain ⟨i, hi⟩ := List.getElem?_of_mem hx
 obtain ⟨_, _, _, _, _, _, _, hat⟩ := h
 obtain ⟨_, _, _, _, he⟩ := hat i x hi
 exact he.2.2.2.2.1
theorem reads_str {e : TypeId} {w : World} {B : Nat} {v : Value} {l : List ByteArray} (h : OS e 1 cStr w B v l) (hb : l.length * 16 ≤ 140737488351232) (ho : ∀ x ∈ l, x.size ≤ 140737488351232) : RT w v l :=
 OS.reads (cells := cStr) (fun _ => rfl) (by decide) (fun b o x hx hc => ⟨hc 0 (by omega), ho x hx⟩) h hb
theorem decParts_len (b : List UInt8) : (decParts b).1.length ≤ 8 ∧ ∀ y ∈ (decParts b).1, y.digest.size ≤ 140737488351232 := by
 have key : ∀ (n : Nat) (ps : List Part) (l : List UInt8), (∀ y ∈ (decRest n ps l).1, y.digest.size ≤ 140737488351232) ∧ (decRest n ps l).1.length ≤ 8 := by
  intro n
  induction n with
  | zero =>
    intro ps l
    rw [decRest]
    split
    · simp
    split
    · simp
    rename_i h1 h2
    obtain ⟨h3, h4⟩ := partsFault_zero (l := ps) (by simpa using h2)
    refine ⟨fun y hy => ?_, h3⟩
    have := (hexFault_zero (h4 y hy).2.1).1
    omega
  | succ n ih =>
    intro ps l
    rw [decRest]
    split
    · simp
    exact ih _ _
 unfold decParts
 split
 · simp
 split
 · simp
 split
 · simp
 split
 · simp
 exact ⟨(key _ _ _).2, (key _ _ _).1⟩
def InB (l : List Blob) (d : ByteArray) : Prop := atKey (fun x : Blob => x.digest) d l < l.length
def kidsOf (l : List Blob) (d : ByteArray) : List ByteArray := match l[atKey (fun x : Blob => x.digest) d l]? with | some x => (decParts x.data).1.map (·.digest) | none => []
theorem kids_at {l : List Blob} {d : ByteArray} {x : Blob} (h : l[atKey (fun x : Blob => x.digest) d l]? = some x) : kidsOf l d = (decParts x.data).1.map (·.digest) := by unfold kidsOf; rw [h]
inductive Come (l : List Blob) (ds : List ByteArray) : ByteArray → Prop
 | root {d : ByteArray} : d ∈ ds → InB l d → Come l ds d
 | step {x d : ByteArray} : Come l ds x → d ∈ kidsOf l x → InB l d → Come l ds d
theorem Come.mono {l : List Blob} {ds es : List ByteArray} (h : ∀ d ∈ ds, d ∈ es) {x : ByteArray} (hx : Come l ds x) : Come l es x := by
 induction hx with
 | root h1 h2 => exact .root (h _ h1) h2
 | step _ h2 h3 ih => exact .step ih h2 h3
theorem Come.kids {l : List Blob} {ds : List ByteArray} {d : ByteArray} (hd : d ∈ ds) (hb : InB l d) {x : ByteArray} (hx : Come l (kidsOf l d) x) : Come l ds x := by
 induction hx with
 | root h1 h2 => exact .step (.root hd hb) h1 h2
 | step _ h2 h3 ih => exact .step ih h2 h3
theorem Come.inB {l : List Blob} {ds : List ByteArray} {x : ByteArray} (hx : Come l ds x) : InB l x := by
 cases hx with
 | root _ h2 => exact h2
 | step _ _ h3 => exact h3
structure Sought (l : List Blob) (ds M M' : List ByteArray) : Prop where
 keep : ∀ x ∈ M, x ∈ M'
 roots : ∀ d ∈ ds, InB l d → d ∈ M'
 from_ : ∀ x ∈ M', x ∈ M ∨ Come l ds x
 shut : ∀ x ∈ M', x ∉ M → ∀ y ∈ kidsOf l x, InB l y → y ∈ M'
section
variable {l : List Blob} {ds M M1 M2 : List ByteArray} {d : ByteArray}
theorem Sought.refl : Sought l [] M M := ⟨fun _ h => h, fun _ h => by simp at h, fun _ h => .inl h, fun _ h h2 => absurd h h2⟩
theorem Sought.snoc (h : Sought l ds M M1) (g : Sought l [d] M1 M2) : Sought l (ds ++ [d]) M M2 := by
 refine ⟨fun x hx => g.keep x (h.keep x hx), fun x hx hb => ?_, fun x hx => ?_, fun x hx hn y hy hb => ?_⟩
 · rcases List.mem_append.1 hx with hx | hx
   · exact g.keep x (h.roots x hx hb)
   exact g.roots x hx hb
 · rcases g.from_ x hx with h1 | h1
   · rcases h.from_ x h1 with h2 | h2
     · exact .inl h2
     exact .inr (h2.mono fun d hd => List.mem_append_left _ hd)
   exact .inr (h1.mono fun d hd => List.mem_append_right _ hd)
 by_cases h1 : x ∈ M1
 · exact g.keep y (h.shut x h1 hn y hy hb)
 exact g.shut x hx h1 y hy hb
theorem Sought.none (h : ¬ InB l d) : Sought l [d] M M :=
 ⟨fun _ h => h, fun x hx hb => by rw [List.mem_singleton] at hx; subst hx; exact absurd hb h, fun _ h => .inl h, fun _ h h2 => absurd h h2⟩
theorem Sought.met (h : d ∈ M) : Sought l [d] M M :=
 ⟨fun _ h => h, fun x hx _ => by rw [List.mem_singleton] at hx; subst hx; exact h, fun _ h => .inl h, fun _ h h2 => absurd h h2⟩
theorem Sought.enter (hb : InB l d) (g : Sought l (kidsOf l d) (M ++ [d]) M2) : Sought l [d] M M2 := by
 refine ⟨fun x hx => g.keep x (List.mem_append_left _ hx), fun x hx _ => ?_, fun x hx => ?_, fun x hx hn y hy hy2 => ?_⟩
 · rw [List.mem_singleton] at hx
   subst hx
   exact g.keep x (List.mem_append_right _ (List.mem_singleton_self _))
 · rcases g.from_ x hx with h1 | h1
   · rcases List.mem_append.1 h1 with h2 | h2
     · exact .inl h2
     rw [List.mem_singleton] at h2
     subst h2
     exact .inr (.root (List.mem_singleton_self _) hb)
   exact .inr (h1.kids (List.mem_singleton_self _) hb)
 by_cases h1 : x ∈ M ++ [d]
 · rcases List.mem_append.1 h1 with h2 | h2
   · exact absurd h2 hn
   rw [List.mem_singleton] at h2
   subst h2
   exact g.roots y hy hy2
 exact g.shut x hx h1 y hy hy2
theorem Sought.all (h : Sought l ds [] M) (x : ByteArray) : x ∈ M ↔ Come l ds x := by
 refine ⟨fun hx => (h.from_ x hx).resolve_left (by simp), fun hx => ?_⟩
 induction hx with
 | root h1 h2 => exact h.roots _ h1 h2
 | step _ h2 h3 ih => exact h.shut _ ih (by simp) _ h2 h3
end
structure Tidy (l : List Blob) (M : List ByteArray) : Prop where
 nodup : M.Nodup
 inB : ∀ x ∈ M, InB l x
theorem nodup_len {α : Type} [DecidableEq α] : ∀ {M L : List α}, M.Nodup → (∀ x ∈ M, x ∈ L) → M.length ≤ L.length
 | [], _, _, _ => by simp
 | x :: M, L, h, hs => by
   have hx := hs x (List.mem_cons_self)
   obtain ⟨h1, h2⟩ := List.nodup_cons.1 h
   have h3 := nodup_len (M := M) (L := L.erase x) h2 (fun y hy => by
    refine (List.mem_erase_of_ne (fun e => ?_)).2 (hs y (List.mem_cons_of_mem _ hy))
    subst e
    exact h1 hy)
   have h4 := List.length_erase_of_mem hx
   have h5 := List.length_pos_of_mem hx
   simp only [List.length_cons]
   omega
theorem bstr_data (s : ByteArray) : bstr s.data.toList = s := rfl
theorem data_inj {a b : ByteArray} (h : a.data.toList = b.data.toList) : a = b := by
 rw [← bstr_data a, h, bstr_data]
theorem nodup_data {M : List ByteArray} (h : M.Nodup) : (M.map (fun s => s.data.toList)).Nodup := List.pairwise_map.2 (h.imp fun hab e => hab (data_inj e))
theorem atKey_key {d : ByteArray} : ∀ {l : List Blob} {x : Blob}, l[atKey (fun x : Blob => x.digest) d l]? = some x → x.digest = d
 | [], x, h => by simp at h
 | y :: l, x, h => by
   rw [atKey] at h
   split at h
   · rename_i h0
     simp only [List.getElem?_cons_zero, Option.some.injEq] at h
     subst h
     exact key_eq.1 h0
   exact atKey_key (l := l) (by simpa using h)
theorem inB_digest {l : List Blob} {d : ByteArray} (h : InB l d) : d ∈ l.map (·.digest) := by
 have h1 : l[atKey (fun x : Blob => x.digest) d l]? = some l[atKey (fun x : Blob => x.digest) d l] := List.getElem?_eq_getElem h
 exact List.mem_map.2 ⟨_, List.getElem_mem _, atKey_key h1⟩
theorem Tidy.len {l : List Blob} {M : List ByteArray} (h : Tidy l M) : M.length ≤ l.length := by
 have := nodup_len (nodup_data h.nodup) (L := (l.map (·.digest)).map (fun s => s.data.toList)) (fun x hx => by
  obtain ⟨y, hy, rfl⟩ := List.mem_map.1 hx
  exact List.mem_map_of_mem (inB_digest (h.inB y hy)))
 simpa using this
theorem Tidy.add {l : List Blob} {M : List ByteArray} {d : ByteArray} (h : Tidy l M) (hb : InB l d) (hd : d ∉ M) : Tidy l (M ++ [d]) := by
 refine ⟨List.nodup_append.2 ⟨h.nodup, by simp, fun x hx y hy e => ?_⟩, fun x hx => ?_⟩
 · rw [List.mem_singleton] at hy
   subst hy
   exact hd (e ▸ hx)
 rcases List.mem_append.1 hx with h1 | h1
 · exact h.inB x h1
 rw [List.mem_singleton] at h1
 subst h1
 exact hb
theorem Tidy.nil {l : List Blob} : Tidy l [] := ⟨List.nodup_nil, fun _ h => by simp at h⟩
open Go.Maps
def sortS (M : List ByteArray) : List ByteArray := ((M.map (fun s => s.data.toList)).mergeSort leB).map bstr
theorem slt_list (a b : ByteArray) : slt a b = decide (a.data.toList < b.data.toList) := by
 unfold slt
 rw [bytesLess_eq, toList_data, toList_data]
theorem map_bstr (R : List ByteArray) : (R.map (fun s => s.data.toList)).map bstr = R := by
 rw [List.map_map]
 exact List.map_id'' (fun s => rfl) R
theorem rising_nodup {R : List ByteArray} (h : Rising id R) : R.Nodup := h.imp fun {a b} hab e => by
 subst e
 have := slt_irrefl a
 simp only [id] at hab
 rw [this] at hab
 cases hab
theorem rising_sortS {R M : List ByteArray} (hr : Rising id R) (hm : ∀ x, x ∈ R ↔ x ∈ M) (hn : M.Nodup) : sortS M = R := by
 have tr : ∀ a b c : List UInt8, leB a b = true → leB b c = true → leB a c = true := fun a b c h1 h2 => by simp only [leB, decide_eq_true_eq] at *; exact List.le_trans h1 h2
 have to : ∀ a b : List UInt8, (leB a b || leB b a) = true := fun a b => by simp only [leB, Bool.or_eq_true, decide_eq_true_eq]; exact List.le_total a b
 have hp : R.Perm M := (List.perm_ext_iff_of_nodup (rising_nodup hr) hn).2 hm
 have hp2 := hp.map (fun s : ByteArray => s.data.toList)
 have hs : (R.map (fun s => s.data.toList)).Pairwise (fun a b => leB a b = true) := List.pairwise_map.2 (hr.imp fun {a b} hab => by
  simp only [id, slt_list, decide_eq_true_eq] at hab
  simp only [leB, decide_eq_true_eq]
  exact List.le_of_lt hab)
 have he : (M.map (fun s => s.data.toList)).mergeSort leB = R.map (fun s => s.data.toList) := by
  refine List.Perm.eq_of_pairwise (le := fun a b => leB a b = true) (fun a b _ _ h1 h2 => ?_) (List.pairwise_mergeSort tr to _) hs ((List.mergeSort_perm _ leB).trans hp2.symm)
  simp only [leB, decide_eq_true_eq] at h1 h2
  exact List.le_antisymm h1 h2
 unfold sortS
 rw [he, map_bstr]
def insS (R : List ByteArray) (s : ByteArray) : List ByteArray := if R[lowAt id s R]? = some s then R else R.take (lowAt id s R) ++ s :: R.drop (lowAt id s R)
def risingL (M : List ByteArray) : List ByteArray := M.foldl insS []
theorem insS_mem (R : List ByteArray) (s x : ByteArray) : x ∈ insS R s ↔ x ∈ R ∨ x = s := by
 unfold insS
 split
 · rename_i h
   refine ⟨.inl, fun h2 => h2.elim (fun h => h) fun e => ?_⟩
   subst e
   exact List.mem_of_getElem? h
 rw [List.mem_append, List.mem_cons]
 have e := List.take_append_drop (lowAt id s R) R
 constructor
 · rintro (h | h | h)
   · exact .inl (List.mem_of_mem_take h)
   · exact .inr h
   exact .inl (List.mem_of_mem_drop h)
 rintro (h | h)
 · rw [← e, List.mem_append] at h
   exact h.elim .inl (fun h => .inr (.inr h))
 exact .inr (.inl h)
theorem insS_rising {R : List ByteArray} (h : Rising id R) (s : ByteArray) : Rising id (insS R s) := by
 unfold insS
 split
 · exact h
 rename_i hne
 have hle := lowAt_le id s R
 refine List.pairwise_append.2 ⟨h.sublist (List.take_sublist _ _), List.pairwise_cons.2 ⟨fun y hy => ?_, h.sublist (List.drop_sublist _ _)⟩, fun x hx y hy => ?_⟩
 · obtain ⟨j, hj⟩ := List.mem_iff_getElem?.1 hy
   rw [List.getElem?_drop] at hj
   have h1 : slt y s = false := lowAt_behind h (Nat.le_add_right _ _) hj
   cases h2 : slt s y with
   | true => exact h2
   | false =>
     have h3 := slt_tri h1 h2
     subst h3
     exfalso
     rcases Nat.eq_zero_or_pos j with h4 | h4
     · subst h4
       exact hne hj
     have h5 := lowAt_next h (Nat.lt_add_of_pos_right h4) hj
     simp only [id] at h5
     rw [slt_irrefl] at h5
     cases h5
 obtain ⟨j, hj⟩ := List.mem_iff_getElem?.1 hx
 have hj2 : j < lowAt id s R := by
  have := (List.getElem?_eq_some_iff.1 hj).1
  rw [List.length_take] at this
  omega
 rw [List.getElem?_take_of_lt hj2] at hj
 have h1 : slt x s = true := lowAt_before hj2 hj
 rcases List.mem_cons.1 hy with rfl | hy
 · exact h1
 obtain ⟨i, hi⟩ := List.mem_iff_getElem?.1 hy
 rw [List.getElem?_drop] at hi
 have h2 : slt y s = false := lowAt_behind h (Nat.le_add_right _ _) hi
 cases h3 : slt s y with
 | true => exact slt_trans h1 h3
 | false =>
   have h4 := slt_tri h2 h3
   subst h4
   exact h1
theorem foldl_ins : ∀ (M R : List ByteArray), Rising id R → Rising id (M.foldl insS R) ∧ (∀ x, x ∈ M.foldl insS R ↔ x ∈ R ∨ x ∈ M)
 | [], R, h => ⟨h, fun x => by simp⟩
 | s :: M, R, h => by
   obtain ⟨h1, h2⟩ := foldl_ins M (insS R s) (insS_rising h s)
   refine ⟨h1, fun x => ?_⟩
   show x ∈ M.foldl insS (insS R s) ↔ _
   rw [h2 x, insS_mem, List.mem_cons, or_assoc]
theorem risingL_eq {M M' : List ByteArray} (hm : ∀ x, x ∈ M ↔ x ∈ M') (hn : M'.Nodup) : sortS M' = risingL M := by
 obtain ⟨h1, h2⟩ := foldl_ins M [] .nil
 exact rising_sortS h1 (fun x => by
  show x ∈ M.foldl insS [] ↔ _
  rw [h2 x]
  simp [hm x]) hn
def isIn (s : ByteArray) (M : List ByteArray) : Bool := decide (s.data.toList ∈ M.map (fun s => s.data.toList))
theorem isIn_iff {s : ByteArray} {M : List ByteArray} : isIn s M = true ↔ s ∈ M := by
 unfold isIn
 rw [decide_eq_true_eq, List.mem_map]
 exact ⟨fun ⟨x, hx, e⟩ => data_inj e ▸ hx, fun h => ⟨s, h, rfl⟩⟩
theorem isIn_not {s : ByteArray} {M : List ByteArray} : isIn s M = false ↔ s ∉ M := by
 rw [← isIn_iff, Bool.not_eq_true]
structure SeenS {H : Type} (D : DataW H) (M : List ByteArray) : Prop where
 map : ∃ es, D = .map es ∧ (∀ p ∈ es, ∃ x, p.1 = .string x)
 keys : (strKeys D).Perm (M.map (fun s => s.data.toList))
 at_ : ∀ s : ByteArray, D.atKey (.string s.data.toList) (.lit (.bool false)) = .lit (.bool (isIn s M))
theorem SeenS.nil {H : Type} : SeenS (H := H) (.map []) [] := ⟨⟨[], rfl, fun p hp => by simp at hp⟩, by simp [strKeys], fun s => by simp [DataW.atKey, isIn]⟩
def addS (M : List ByteArray) (s : ByteArray) : List ByteArray := if isIn s M = true then M else M ++ [s]
theorem addS_no {M : List ByteArray} {s : ByteArray} (h : isIn s M = false) : addS M s = M ++ [s] := if_neg (by simp [h])
theorem addS_mem (M : List ByteArray) (s x : ByteArray) : x ∈ addS M s ↔ x ∈ M ∨ x = s := by
 unfold addS
 split
 · rename_i h
   refine ⟨.inl, fun h2 => h2.elim (fun h => h) (fun e => ?_)⟩
   subst e
   exact isIn_iff.1 h
 simp
theorem addS_nodup {M : List ByteArray} {s : ByteArray} (h : M.Nodup) : (addS M s).Nodup := by
 unfold addS
 split
 · exact h
 rename_i hs
 refine List.nodup_append.2 ⟨h, by simp, fun x hx y hy e => ?_⟩
 rw [List.mem_singleton] at hy
 subst hy
 subst e
 exact hs (isIn_iff.2 hx)
theorem addS_len (M : List ByteArray) (s : ByteArray) : (addS M s).length ≤ M.length + 1 := by
 unfold addS; split <;> simp
theorem SeenS.put {H : Type} {D : DataW H} {M : List ByteArray} {s : ByteArray} (h : SeenS D M) (hn : M.Nodup) : SeenS (D.put (.string s.data.toList) (.lit (.bool true))) (addS M s) := by
 obtain ⟨⟨es, rfl, hk⟩, h2, h3⟩ := h
 have hp := WideShapes.insert_perm (Lit.string s.data.toList, (DataW.lit (.bool true) : DataW H)) (es.filter fun p => !p.1.sameKey (.string s.data.toList))
 refine ⟨⟨_, rfl, fun p hpm => ?_⟩, ?_, fun x => ?_⟩
 · rcases List.mem_cons.1 (hp.mem_iff.1 hpm) with rfl | h4
   · exact ⟨_, rfl⟩
   exact hk p (List.mem_filter.1 h4).1
 · have e1 : (strKeys (DataW.map (es.filter fun p => !p.1.sameKey (.string s.data.toList)))) = (strKeys (DataW.map es)).filter (fun x => decide (x ≠ s.data.toList)) := by
    show (es.filter _).map (fun p => strOf p.1) = (es.map (fun p => strOf p.1)).filter _
    rw [List.filter_map]
    congr 1
    refine List.filter_congr fun p hpm => ?_
    obtain ⟨x, hx⟩ := hk p hpm
    simp only [Function.comp, hx, strOf, Lit.sameKey]
    by_cases e : x = s.data.toList <;> simp [e]
   have e2 : (strKeys (DataW.put (.map es) (.string s.data.toList) (DataW.lit (.bool true) : DataW H))).Perm (s.data.toList :: (strKeys (DataW.map es)).filter (fun x => decide (x ≠ s.data.toList))) := by
    rw [← e1]
    exact hp.map (fun p => strOf p.1)
   refine e2.trans ?_
   have e3 := (h2.filter (fun x => decide (x ≠ s.data.toList)))
   refine (e3.cons _).trans ?_
   have hnk := nodup_data hn
   unfold addS isIn
   by_cases hs : s.data.toList ∈ M.map (fun s => s.data.toList)
   · rw [if_pos (by simpa using hs)]
     generalize M.map (fun s => s.data.toList) = K at *
     refine ((List.perm_cons_erase hs).trans (List.Perm.cons _ ?_)).symm
     rw [List.Nodup.erase_eq_filter hnk]
     refine List.Perm.of_eq (List.filter_congr fun x _ => ?_)
     by_cases e : x = s.data.toList <;> simp [e]
   rw [if_neg (by simpa using hs), List.map_append]
   generalize M.map (fun s => s.data.toList) = K at *
   have e4 : K.filter (fun x => decide (x ≠ s.data.toList)) = K := List.filter_eq_self.2 fun x hx => by
    simp only [decide_eq_true_eq]
    intro e
    subst e
    exact hs hx
   rw [e4]
   exact (List.perm_append_singleton _ _).symm
 by_cases e : x = s
 · subst e
   rw [atKey_put_same ⟨es, rfl⟩ (by first | trivial | exact ⟨⟩ | decide)]
   rw [isIn_iff.2 ((addS_mem M x x).2 (.inr rfl))]
 rw [atKey_put_other (fun e2 => e (data_inj (by injection e2))), h3 x]
 congr 2
 rw [Bool.eq_iff_iff, isIn_iff, isIn_iff, addS_mem]
 exact ⟨.inl, fun h => h.resolve_right e⟩
theorem SeenS.size {H : Type} {D : DataW H} {M : List ByteArray} (h : SeenS D M) : Maps.size D = M.length := by
 obtain ⟨⟨es, rfl, -⟩, h2, -⟩ := h
 have := h2.length_eq
 simpa [strKeys, Maps.size] using this
theorem SeenS.sorted {H : Type} {D : DataW H} {M : List ByteArray} {ss : List (List UInt8)} (h : SeenS D M) (hp : ss.Perm (strKeys D)) : (ss.mergeSort (fun x y => decide (x ≤ y))) = (sortS M).map (fun s => s.data.toList) := by
 have e : ss.mergeSort leB = (M.map (fun s => s.data.toList)).mergeSort leB := mergeSort_of_perm (hp.trans h.keys)
 unfold sortS
 rw [List.map_map]
 refine Eq.trans e ?_
 exact (List.map_id'' (fun s => rfl) _).symm
theorem grown_trans {a b c : World} {r : Option Nat} (h : a.grownBy b r) (g : b.grownBy c r) : a.grownBy c r :=
 ⟨g.os.trans h.os, g.tape.trans h.tape, g.output.trans h.output, Nat.le_trans h.size g.size, fun k hk hne => (g.block k (Nat.lt_of_lt_of_le hk h.size) hne).trans (h.block k hk hne)⟩
theorem below_grown {a b : World} (h : Below a.heap.size a b) (r : Option Nat) : a.grownBy b r := ⟨h.os, h.tape, h.output, h.size, fun k hk _ => h.block k hk⟩
def MapBox (w : World) (m : Nat) : Prop := ∃ es c, w.heap[m]? = some (.map es c)
theorem MapBox.ne {w : World} {m b o : Nat} {v : Value} (h : MapBox w m) (hc : w.cell? ⟨b, o, none⟩ = some v) : b ≠ m := by
 rintro rfl
 obtain ⟨es, c, hm⟩ := h
 simp [World.cell?, hm] at hc
theorem grown_cell {w w' : World} {m b o : Nat} {v : Value} (hg : w.grownBy w' (some m)) (hm : MapBox w m) (hb : b < w.heap.size) (hc : w.cell? ⟨b, o, none⟩ = some v) : w'.cell? ⟨b, o, none⟩ = some v :=
 (World.cell?_of_block (w := w) (hg.block b hb (by have := hm.ne hc; simp; omega))).trans hc
theorem RS.grownM {α : Type} {s bs : Nat} {E : World → Nat → Nat → α → Prop} {w w' : World} {v : Value} {l : List α} {m : Nat} (h : RS s bs E w v l) (hg : w.grownBy w' (some m))
 (hE : ∀ b o x, b < w.heap.size → E w b o x → E w' b o x) : RS s bs E w' v l := by
 obtain ⟨a, c, rfl, h1, h2, hb, hn, h3⟩ := h
 refine ⟨a, c, rfl, h1, h2, hb, hn, fun k x hk => ?_⟩
 obtain ⟨b, off, ha, hlt, he⟩ := h3 k x hk
 exact ⟨b, off, ha, Nat.lt_of_lt_of_le hlt hg.size, hE _ _ _ hlt he⟩
theorem RT.grownM {w w' : World} {v : Value} {l : List ByteArray} {m : Nat} (h : RT w v l) (hg : w.grownBy w' (some m)) (hm : MapBox w m) : RT w' v l :=
 RS.grownM h hg fun _ _ _ hb he => ⟨grown_cell hg hm hb he.1, he.2⟩
theorem map_keyS : Keyed Tryz.prog 9 := Maps.string_keyed Tryz.underlying9
theorem zero_boolS (w : World) : (zeroValue 4).run Tryz.prog w = .ok (.bool false) w := by kernel_rfl
theorem keyed_str {s : ByteArray} (h : s.size ≤ 140737488351232) : keyOf Tryz.prog 9 (.string s) = some (.string s.data.toList) := Go.WideMaps.keyOf_string_mk Tryz.underlying9 (by unfold maxLen; omega)
def MetS (w : World) (b : Nat) (M : List ByteArray) : Prop := ∃ D : DataW Unit, w.ownsMap Tryz.prog 9 (plainElem Tryz.prog 4) b M.length D ∧ SeenS D M
theorem MetS.box {w : World} {b : Nat} {M : List ByteArray} (h : MetS w b M) : MapBox w b := by
 obtain ⟨D, h, -⟩ := h
 obtain ⟨es, clock, hb, -⟩ := h
 exact ⟨es, clock, hb⟩
theorem MetS.lt {w : World} {b : Nat} {M : List ByteArray} (h : MetS w b M) : b < w.heap.size := by
 obtain ⟨D, h, -⟩ := h
 exact h.lt
theorem MetS.after {w w' : World} {b : Nat} {M : List ByteArray} (h : MetS w b M) (hb : Below w.heap.size w w') : MetS w' b M := by
 have hlt := h.lt
 obtain ⟨D, h1, h2⟩ := h
 exact ⟨D, h1.kept (row := none) (below_grown hb none) (by simp), h2⟩
theorem MetS.made (w : World) : MetS (w.alloc (.map #[] 0)) w.heap.size [] := ⟨.map [], World.ownsMap_made w _ _ _, SeenS.nil⟩
theorem box2g {w : World} {b : Nat} {c0 c1 : Value} {T : TypeId} (h : w.heap[b]? = some (.cells #[c0, c1] T (0, 0))) : w.cell? ⟨b, 0, none⟩ = some c0 ∧ w.cell? ⟨b, 1, none⟩ = some c1 :=
 ⟨cell_of_row _ _ 0 _ _ _ h, cell_of_row _ _ 1 _ _ _ h⟩
theorem wpList_lookup_boolG {H : Type} {P : Program} (w : World) {ops : Array Oper} {rest : List Oper} {o : Oper} {a : Act} {Q : Exit → Act → World → Prop}
 (hg : Region.wanted o (yielded ops a.tmps) = true) (m x : Operand) (t : TypeId) (hop : o.op = Op.lookup t m x false)
 (k e : TypeId) (K : Keyed P k) (ht : P.underlying t = some (.map k e)) (he : P.underlying e = some .bool) (hz : (zeroValue e).run P w = .ok (.bool false) w) (b n : Nat) (D : DataW H)
 (hm : a.eval m = .map (some b)) (hown : w.ownsMap P k (plainElem P e) b n D) (key : Value) (kl : Lit) (hx : a.eval x = key) (hkey : keyOf P k key = some kl)
 (y : Bool) (hy : D.atKey kl (.lit (.bool false)) = .lit (.bool y)) (hK : wpList P ops Q rest (a.put o.dst (.bool y)) w) :
 wpList P ops Q (o :: rest) a w := by
 refine wpList_step fun K' hK' => ?_
 rw [if_pos hg]
 obtain ⟨v, ps, hrun, hv⟩ := hown.lookup K ht hz (plainElem_bool he false) hkey
 obtain ⟨c, rfl, hc⟩ : ∃ x, v = .bool x ∧ (DataW.lit (.bool y) : DataW H) = .lit (.bool x) := by
  unfold plainElem at hv
  rw [he] at hv
  cases v <;> simp at hv
  rename_i x
  exact ⟨x, rfl, by rw [← hy, hv.1]⟩
 have hcy : c = y := by simpa using hc.symm
 subst hcy
 unfold Oper.wp
 simp [execOp, hop, hm, hx, hrun, Result.andThen]
 exact hK' _ _ hK
theorem kids_le (l : List Blob) (d : ByteArray) : (kidsOf l d).length ≤ 8 ∧ ∀ y ∈ kidsOf l d, y.size ≤ 140737488351232 := by
 unfold kidsOf
 split
 · rename_i x _
   obtain ⟨h1, h2⟩ := decParts_len x.data
   refine ⟨by rw [List.length_map]; exact h1, fun y hy => ?_⟩
   obtain ⟨p, hp, rfl⟩ := List.mem_map.1 hy
   exact h2 p hp
 exact ⟨by simp, fun y hy => by simp at hy⟩
theorem find_no {l : List Blob} {d : ByteArray} (h : ¬ InB l d) : findI (fun x : Blob => x.digest) d l = 0 ∧ findE (fun x : Blob => x.digest) d l = 5 := by
 have := atKey_le (fun x : Blob => x.digest) d l
 unfold InB at h
 unfold findI findE
 rw [if_pos (by omega), if_pos (by omega)]
 exact ⟨rfl, rfl⟩
theorem find_yes {l : List Blob} {d : ByteArray} (h : InB l d) : findI (fun x : Blob => x.digest) d l = (atKey (fun x : Blob => x.digest) d l : Int) ∧ findE (fun x : Blob => x.digest) d l = 0 := by
 unfold InB at h
 unfold findI findE
 rw [if_neg (by omega), if_neg (by omega)]
 exact ⟨rfl, rfl⟩
theorem rt_at {w : World} {a : Option Addr} {n c : Nat} {l : List ByteArray} (h : RT w (.slice a n c) l) {j : Nat} {x : ByteArray} (hj : l[j]? = some x) : ∃ b off, a = some ⟨b, off, none⟩ ∧ b < w.heap.size ∧ EStr w b (off + j * 1) x := by
 obtain ⟨_, _, hv, _, _, _, _, hat⟩ := h
 simp only [Value.slice.injEq] at hv
 obtain ⟨rfl, -, -⟩ := hv
 exact hat j x hj
def SeekPost (l : List Blob) (d : ByteArray) (M : List ByteArray) (mb : Nat) (w : World) (e : Ending) (w' : World) : Prop :=
 e = .returned (.tuple #[]) ∧ ∃ M', Sought l [d] M M' ∧ Tidy l M' ∧ MetS w' mb M' ∧ w.grownBy w' (some mb)
set_option maxRecDepth 100000 in
set_option maxHeartbeats 4000000 in
theorem seek_step (v : Value) (l : List Blob) (w0 : World) (hR : RBl w0 v l) (q mb : Nat) (hmb : w0.heap.size ≤ mb) (M : List ByteArray) (d : ByteArray) (w : World) (ht : Tidy l M) (hb : Below w0.heap.size w0 w) (hm : MetS w mb M)
 (hq : w.heap[q]? = some (.cells #[v, .map (some mb)] 254 (0, 0))) (hd : d.size ≤ 140737488351232)
 (ih : ∀ M2 d2 w2, M.length < M2.length → Tidy l M2 → Below w0.heap.size w0 w2 → MetS w2 mb M2 → w2.heap[q]? = some (.cells #[v, .map (some mb)] 254 (0, 0)) → d2.size ≤ 140737488351232 →
   Calls Tryz.prog 194 #[.pointer (some ⟨q, 0, none⟩), .string d2] w2 (SeekPost l d2 M2 mb w2)) :
 Calls Tryz.prog 194 #[.pointer (some ⟨q, 0, none⟩), .string d] w (SeekPost l d M mb w) := by
 have hkey := keyed_str hd
 have hRw := hid (hR.mono EBlob.stable hb)
 have hlen := ht.len
 have hf := hid (blob_Find v l d w hRw.out)
 replace ih := hid ih
 replace ht := hid ht
 replace hb := hid hb
 replace hm := hid hm
 replace hq := hid hq
 by_cases hin : InB l d
 · obtain ⟨e1, e2⟩ := find_yes hin
   rw [e1, e2] at hf
   clear e1 e2
   have hx : l[atKey (fun x : Blob => x.digest) d l]? = some l[atKey (fun x : Blob => x.digest) d l] := List.getElem?_eq_getElem hin
   have hks := kids_at hx
   have hkl := kids_le l d
   have hilt : atKey (fun x : Blob => x.digest) d l < l.length := hin
   generalize l[atKey (fun x : Blob => x.digest) d l] = x at hx hks
   generalize atKey (fun x : Blob => x.digest) d l = i at *
   have hent := hid (fun M2 => Sought.enter (l := l) (d := d) (M := M) (M2 := M2) hin)
   obtain ⟨a, c, rfl, hlc, hcm, hre, hno, hat⟩ := id hR
   obtain ⟨bb, off, rfl, hbb, hex⟩ := hat _ _ hx
   clear hat hno
   cases hi : isIn d M with
   | true =>
     have hso := hid (Sought.met (l := l) (M := M) (d := d) (isIn_iff.1 hi))
     obtain ⟨x0, x1⟩ := box2g hq.out
     go_enter Tryz.func194, Tryz.ntmps194
     go_wp2_with fail
     ((with_reducible refine hf.out.mono ?_); rintro e w1 ⟨rfl, b1⟩)
     have hq1 := hid (stays b1 hq.out)
     have hm1 := hid (hm.out.after b1)
     clear x0 x1
     obtain ⟨x0, x1⟩ := box2g hq1.out
     obtain ⟨D, hown, hseen⟩ := id hm1.out
     have hat9 := hseen.at_ d
     rw [hi] at hat9
     replace hown := hid hown
     replace hat9 := hid hat9
     have hg := hid (below_grown b1 (some mb))
     clear hi hseen
     go_wp2_with (at_lookup; refine wpList_lookup_boolG _ (by rfl) _ _ 246 rfl 9 4 map_keyS Tryz.underlying246 Tryz.underlying4 (zero_boolS _) mb M.length D rfl hown.out _ _ rfl hkey true hat9.out ?_)
     go_end0
     exact ⟨rfl, M, hso.out, ht.out, hm1.out, hg.out⟩
   | false =>
     have hnm := isIn_not.1 hi
     have had := addS_no hi
     have ht1 := hid (ht.out.add hin hnm)
     have hM1 : M.length < l.length := by have := ht1.out.len; simp at this; omega
     have hl47 : l.length ≤ 140737488351232 := by omega
     have hi0 : (0 : Int) ≤ (i : Int) := by omega
     have hi1 : (i : Int) < (l.length : Int) := by omega
     obtain ⟨x0, x1⟩ := box2g hq.out
     go_enter Tryz.func194, Tryz.ntmps194
     go_wp2_with fail
     ((with_reducible refine hf.out.mono ?_); rintro e w1 ⟨rfl, b1⟩)
     have hq1 := hid (stays b1 hq.out)
     have hb1 := hid (hb.out.trans (b1.mono hb.out.size))
     have hm1 := hm.out.after b1
     have hg1 := hid (below_grown b1 (some mb))
     have hbx := hm1.box
     clear x0 x1
     obtain ⟨x0, x1⟩ := box2g hq1.out
     have hqm : q ≠ mb := hbx.ne x0
     obtain ⟨D, hown, hseen⟩ := hm1
     have hat9 := hseen.at_ d
     rw [hi] at hat9
     have hseen' := hid (hseen.put (s := d) ht.out.nodup)
     rw [had] at hseen'
     replace hown := hid hown
     replace hat9 := hid hat9
     have hnn : M.length < maxLen := by unfold maxLen; omega
     clear hi hseen had b1 hbx
     go_wp2_with (first
      | (at_lookup; refine wpList_lookup_boolG _ (by rfl) _ _ 246 rfl 9 4 map_keyS Tryz.underlying246 Tryz.underlying4 (zero_boolS _) mb M.length D rfl hown.out _ _ rfl hkey false hat9.out ?_)
      | (at_mapUpdate; refine wpList_mapUpdate_own _ rfl _ _ _ 246 rfl 9 4 map_keyS Tryz.underlying246 _ mb M.length D rfl hown.out hnn _ _ _ rfl rfl hkey _ [] (plainElem_bool Tryz.underlying4 true) ?_))
     intro w2 hown2 hg2
     have hm2 := hid (show MetS w2 mb (M ++ [d]) from ⟨_, by rw [List.length_append]; exact hown2, hseen'.out⟩)
     have hq2 := hid ((hg2.block q (heap_lt hq1.out) (by simp; omega)).trans hq1.out)
     have hb2 := hid (hb1.out.grown hg2 hb1.out.size (fun k hk => by simp at hk; omega))
     have hg12 := hid (grown_trans hg1.out hg2)
     clear hown2 hg2 hown hat9 hseen' hg1 hb1 hq1 x0 x1
     obtain ⟨x0, x1⟩ := box2g hq2.out
     obtain ⟨dv, d0, d1, d2, d3, rdv, -⟩ := EBlob.stable _ _ _ _ _ hb2.out hbb hex
     have hP := hid (fun w (h : RB w dv x.data) => reach_Parts' x dv w h (decParts x.data).1 (decParts x.data).2 (fun w g => manifest_Decode dv x.data w g))
     unfold DigPost at hP
     rw [← hks] at hP
     have rdv2 := hid rdv
     obtain ⟨xa, xc, rfl, -⟩ := rdv
     generalize kidsOf l d = ks at *
     obtain ⟨hk8, hksz⟩ := hkl
     replace hksz := hid hksz
     replace hx := hid hx
     clear hks
     go_wp2_with fail
     ((with_reducible refine (hP.out _ rdv2.out).mono ?_); rintro e w3 ⟨v3, rfl, o3, b3⟩)
     have r3 := hid (reads_str o3 (by omega) hksz.out)
     have hm3 := hid (hm2.out.after b3)
     have hq3 := hid (stays b3 hq2.out)
     have hb3 := hid (hb2.out.trans (b3.mono hb2.out.size))
     have hg13 := hid (grown_trans hg12.out (below_grown b3 (some mb)))
     obtain ⟨a3, c3, rfl, -⟩ := id r3.out
     clear x0 x1 d0 d1 d2 d3 o3 b3 hb2 hg12 hm2 hq2 hP rdv2 hf hRw hm hq hb
     have hs0 := hid (Sought.refl (l := l) (M := M ++ [d]))
     go_wp2_with fail
     go_loopw [7, 41] (fun _ i2 wr => ∃ (j : Nat) (Mj : List ByteArray), j ≤ ks.length ∧ i2 = .int .i64 (j : Int) ∧ Hid (Sought l (ks.take j) (M ++ [d]) Mj) ∧ Hid (Tidy l Mj) ∧ Hid (MetS wr mb Mj) ∧ Hid (w3.grownBy wr (some mb))) (fun _ i2 _ => ks.length - (intOf i2).toNat)
     case atStart => exact ⟨0, _, by omega, rfl, hs0, ht1, hm3, hid ⟨rfl, rfl, rfl, Nat.le_refl _, fun _ _ _ => rfl⟩⟩
     obtain ⟨j, Mj, hj, rfl, hsj, htj, hmj, hgj⟩ := hrel
     by_cases hlt : j < ks.length
     · have hn : ks[j]? = some ks[j] := List.getElem?_eq_getElem hlt
       have htk := hid (List.take_succ_eq_append_getElem hlt)
       have hsz := hksz.out _ (List.getElem_mem hlt)
       generalize ks[j] = kj at *
       obtain ⟨bq, oq, hv3, hbq, he4, -⟩ := rt_at (r3.out.grownM hgj.out hm3.out.box) hn
       obtain rfl : a3 = some ⟨bq, oq, none⟩ := hv3
       rw [Nat.mul_one] at he4
       have hqj := hid ((hgj.out.block q (heap_lt hq3.out) (by simp; omega)).trans hq3.out)
       have hbj := hid (hb3.out.grown hgj.out hb3.out.size (fun k hk => by simp at hk; omega))
       have hlj : M.length < Mj.length := by
        have := nodup_len (nodup_data ht1.out.nodup) (L := Mj.map (fun s => s.data.toList)) (fun x hx => by
         obtain ⟨y, hy, rfl⟩ := List.mem_map.1 hx
         exact List.mem_map_of_mem (hsj.out.keep y hy))
        simp at this; omega
       have hcall := hid (ih.out Mj kj _ hlj htj.out hbj.out hmj.out hqj.out hsz)
       unfold SeekPost at hcall
       clear hn hbq hlj hsz hqj hbj
       exact qzskx_1
     obtain rfl : j = ks.length := by omega
     have hs7 := hid (hent.out Mj (by have := hsj.out; rwa [List.take_length] at this))
     have hg7 := hid (grown_trans hg13.out hgj.out)
     clear hsj hgj
     go_wp2_with fail
     go_end0
     exact ⟨rfl, Mj, hs7.out, htj.out, hmj.out, hg7.out⟩
 have hso := hid (Sought.none (l := l) (M := M) (d := d) hin)
 obtain ⟨e1, e2⟩ := find_no hin
 rw [e1, e2] at hf
 clear e1 e2 hin
 obtain ⟨a, c, rfl, -⟩ := id hR
 obtain ⟨x0, x1⟩ := box2g hq.out
 go_enter Tryz.func194, Tryz.ntmps194
 go_wp2_with fail
 ((with_reducible refine hf.out.mono ?_); rintro e w1 ⟨rfl, b1⟩)
 have hm1 := hid (hm.out.after b1)
 have hg := hid (below_grown b1 (some mb))
 go_wp2_with fail
 go_end0
 exact ⟨rfl, M, hso.out, ht.out, hm1.out, hg.out⟩
theorem keys_of (b : Nat) (w : World) : Calls Tryz.prog 192 #[.map (some b)] w fun e w' =>
 e = .returned (.func (.func 246) #[] #[.pointer (some ⟨w.heap.size, 0, none⟩)]) ∧ w' = w.alloc (.cells #[.map (some b)] 246) :=
 callsIn_wide.1 (Tryz.maps_Keys_192 (some b) w)
theorem map_str : ∀ R : List ByteArray, (R.map (fun s => s.data.toList)).map Go.Proofs.encStr = R.flatMap cStr
 | [] => rfl
 | s :: R => by
   rw [List.map_cons, List.map_cons, List.flatMap_cons, map_str R]
   rfl
theorem sorted_of (b : Nat) (M : List ByteArray) (w : World) (h : MetS w b M) (hl : M.length * 16 ≤ 140737488351232) :
 Calls Tryz.prog 191 #[.func (.func 246) #[] #[.pointer (some ⟨w.heap.size, 0, none⟩)]] (w.alloc (.cells #[.map (some b)] 246)) fun e w' =>
  ∃ v, e = .returned v ∧ OS 9 1 cStr w' (w.alloc (.cells #[.map (some b)] 246)).heap.size v (sortS M) ∧ Below (w.alloc (.cells #[.map (some b)] 246)).heap.size (w.alloc (.cells #[.map (some b)] 246)) w' := by
 obtain ⟨D, h1, h2⟩ := h
 have hz := h2.size
 refine (callsIn_wide.1 (Tryz.slices_Sorted_keys_191_192 b M.length D _ w h1 (by rw [hz]; unfold maxLen; omega) (by rw [hz]; omega))).mono ?_
 rintro e w' ⟨v, ss, rfl, hp, hrow, -, hb⟩
 refine ⟨v, rfl, ?_, hb⟩
 have hs := h2.sorted hp
 have hlen : ss.length = (sortS M).length := by
  have := congrArg List.length hs
  rw [List.length_mergeSort, List.length_map] at this
  exact this
 have e2 := congrArg (List.map Go.Proofs.encStr) hs
 rw [map_str] at e2
 unfold OS
 rw [← hlen, ← e2]
 exact hrow
theorem sortS_len (M : List ByteArray) : (sortS M).length = M.length := by
 unfold sortS
 rw [List.length_map, List.length_mergeSort, List.length_map]
theorem sortS_mem (M : List ByteArray) (x : ByteArray) : x ∈ sortS M ↔ x ∈ M := by
 unfold sortS
 rw [List.mem_map]
 constructor
 · rintro ⟨y, hy, rfl⟩
   rw [List.mem_mergeSort, List.mem_map] at hy
   obtain ⟨z, hz, rfl⟩ := hy
   exact hz
 intro h
 exact ⟨x.data.toList, by rw [List.mem_mergeSort, List.mem_map]; exact ⟨x, h, rfl⟩, rfl⟩
theorem seek_all (v : Value) (l : List Blob) (w0 : World) (hR : RBl w0 v l) (q mb : Nat) (hmb : w0.heap.size ≤ mb) : ∀ (n : Nat) (M : List ByteArray) (d : ByteArray) (w : World), l.length - M.length ≤ n → Tidy l M → Below w0.heap.size w0 w → MetS w mb M →
 w.heap[q]? = some (.cells #[v, .map (some mb)] 254 (0, 0)) → d.size ≤ 140737488351232 →
 Calls Tryz.prog 194 #[.pointer (some ⟨q, 0, none⟩), .string d] w (SeekPost l d M mb w) := by
 intro n
 induction n with
 | zero =>
   intro M d w hn ht hb hm hq hd
   exact seek_step v l w0 hR q mb hmb M d w ht hb hm hq hd (fun M2 _ _ hlt ht2 _ _ _ _ => by have := ht2.len; omega)
 | succ n ih =>
   intro M d w hn ht hb hm hq hd
   exact seek_step v l w0 hR q mb hmb M d w ht hb hm hq hd (fun M2 d2 w2 hlt ht2 hb2 hm2 hq2 hd2 => ih M2 d2 w2 (by have := ht2.len; omega) ht2 hb2 hm2 hq2 hd2)
def Comes (l : List Blob) (ds L : List ByteArray) : Prop := Rising id L ∧ ∀ x, x ∈ L ↔ Come l ds x
theorem Comes.only {l : List Blob} {ds L L' : List ByteArray} (h : Comes l ds L) (g : Comes l ds L') : L = L' := by
 have h1 := rising_sortS h.1 (M := L') (fun x => (h.2 x).trans (g.2 x).symm) (rising_nodup g.1)
 have h2 := rising_sortS g.1 (M := L') (fun x => Iff.rfl) (rising_nodup g.1)
 exact h1.symm.trans h2
theorem Comes.of_sort {l : List Blob} {ds M : List ByteArray} (hn : M.Nodup) (h : ∀ x, x ∈ M ↔ Come l ds x) : Comes l ds (sortS M) := by
 rw [risingL_eq (M := M) (fun x => Iff.rfl) hn]
 obtain ⟨h1, h2⟩ := foldl_ins M [] .nil
 exact ⟨h1, fun x => (h2 x).trans (by simp [h x])⟩
def FromPost (l : List Blob) (ds : List ByteArray) (w : World) (e : Ending) (w' : World) : Prop :=
 ∃ v L, e = .returned v ∧ Comes l ds L ∧ L.length ≤ l.length ∧ (∀ x ∈ L, x.size ≤ 140737488351232) ∧ RT w' v L ∧ OS 9 1 cStr w' w.heap.size v L ∧ Below w.heap.size w w'
set_option maxRecDepth 100000 in
set_option maxHeartbeats 2000000 in
theorem reach_From (v u : Value) (l : List Blob) (ds : List ByteArray) (w : World) (h : RBl w v l) (g : RT w u ds) :
 Calls Tryz.prog 129 #[v, u] w (FromPost l ds w) := by
 have hR := hid h
 have hT := hid g
 have hfit := hid (fit_B h)
 have hS := hid (fun M d W (ht : Tidy l M) => seek_all v l w h (w.heap.size + 1) w.heap.size (Nat.le_refl _) _ M d W (Nat.le_refl _) ht)
 obtain ⟨a, c, rfl, -, -, hre, -⟩ := h
 obtain ⟨a2, c2, rfl, hlc2, hcm2, hre2, -⟩ := g
 have hmm := @run_makeMap Tryz.prog
 have hm0 := MetS.made w
 have hb0 := b_alloc (b_alloc (Below.refl _ w) (Obj.map #[] 0)) (Obj.cells #[.slice a l.length c, .map (some w.heap.size)] 254)
 have hq0 := heap_put (w.alloc (Obj.map #[] 0)) (Obj.cells #[.slice a l.length c, .map (some w.heap.size)] 254) (w.heap.size + 1) (by simp)
 have hm1 := hm0.after (b_alloc (Below.refl _ _) (Obj.cells #[.slice a l.length c, .map (some w.heap.size)] 254))
 go_enter Tryz.func129, Tryz.ntmps129
 go_wp2_with fail
 have hlW : w.heap.size + 1 < ((w.alloc (Obj.map #[] 0)).alloc (Obj.cells #[.slice a l.length c, .map (some w.heap.size)] 254)).heap.size := by simp
 generalize (w.alloc (Obj.map #[] 0)).alloc (Obj.cells #[.slice a l.length c, .map (some w.heap.size)] 254) = W0 at *
 have hs0 := hid (Sought.refl (l := l) (M := []))
 have ht0 := hid (Tidy.nil (l := l))
 replace hm1 := hid hm1
 replace hq0 := hid hq0
 replace hb0 := hid hb0
 clear hm0 hmm
 go_loopw [7, 14] (fun _ i2 wr => ∃ (j : Nat) (Mj : List ByteArray), j ≤ ds.length ∧ i2 = .int .i64 (j : Int) ∧ Hid (Sought l (ds.take j) [] Mj) ∧ Hid (Tidy l Mj) ∧ Hid (MetS wr w.heap.size Mj) ∧ Hid (W0.grownBy wr (some w.heap.size))) (fun _ i2 _ => ds.length - (intOf i2).toNat)
 case atStart => exact ⟨0, _, by omega, rfl, hs0, ht0, hm1, hid ⟨rfl, rfl, rfl, Nat.le_refl _, fun _ _ _ => rfl⟩⟩
 obtain ⟨j, Mj, hj, rfl, hsj, htj, hmj, hgj⟩ := hrel
 have hqj := hid ((hgj.out.block (w.heap.size + 1) hlW (by simp)).trans hq0.out)
 have hbj := hid (hb0.out.grown hgj.out hb0.out.size (fun k hk => by simp at hk; omega))
 by_cases hlt : j < ds.length
 · have hn : ds[j]? = some ds[j] := List.getElem?_eq_getElem hlt
   have htk := hid (List.take_succ_eq_append_getElem hlt)
   generalize ds[j] = kj at *
   obtain ⟨bq, oq, hv3, hbq, he4, hsz⟩ := rt_at (hT.out.mono EStr.stable hbj.out) hn
   obtain rfl : a2 = some ⟨bq, oq, none⟩ := hv3
   rw [Nat.mul_one] at he4
   have hcall := hid (hS.out Mj kj _ htj.out hbj.out hmj.out hqj.out hsz)
   unfold SeekPost at hcall
   clear hn hbq hsz hqj hbj
   exact qzskx_1
 obtain rfl : j = ds.length := by omega
 have hall := hid (fun x => (hsj.out.all (ds := ds.take ds.length) (M := Mj) x))
 rw [List.take_length] at hall
 have hl := htj.out.len
 have hC := hid (Comes.of_sort htj.out.nodup hall.out)
 have hsz := hid (fun x (hx : x ∈ sortS Mj) => (show x.size ≤ 140737488351232 from by
  obtain ⟨y, hy, rfl⟩ := List.mem_map.1 (inB_digest (htj.out.inB x ((sortS_mem Mj x).1 hx)))
  exact (hfit.out y hy).1.1))
 have hsl := sortS_len Mj
 have hsrt := hid (sorted_of w.heap.size Mj _ hmj.out (by omega))
 obtain ⟨x0, x1⟩ := box2g hqj.out
 clear hsj hall hmj hgj
 go_wp2_with fail
 ((with_reducible refine (keys_of w.heap.size _).mono ?_); rintro e w6 ⟨rfl, rfl⟩)
 go_wp2_with fail
 ((with_reducible refine hsrt.out.mono ?_); rintro e w7 ⟨v7, rfl, o7, b7⟩)
 have hb7 := hid (b_call (b_alloc hbj.out _) b7)
 have r7 := hid (reads_str o7 (by omega) hsz.out)
 have o8 := hid (OS.mono o7 (b_alloc hbj.out (.cells #[.map (some w.heap.size)] 246)).size)
 clear o7 b7 hsrt
 go_wp2_with fail
 go_ret
 exact ⟨_, _, rfl, hC.out, by omega, hsz.out, r7.out, o8.out, hb7.out⟩
theorem ret_b {a b : Bool} (h : a = b) : Ending.returned (.bool a) = .returned (.bool b) := by rw [h]
theorem raw_str {w : World} {B : Nat} {v : Value} {R : List ByteArray} (h : OS 9 1 cStr w B v R) (hb : R.length * 16 ≤ 140737488351232) : RS 1 16 (ERaw cStr) w v R :=
 OS.reads (cells := cStr) (fun _ => rfl) (by decide) (fun b o r _ hc j u hj => by
  have hlt := (List.getElem?_eq_some_iff.1 hj).1
  rw [hc j (by simpa [cStr] using hlt), hj]) h hb
theorem os_forms {w : World} {B : Nat} {v : Value} {R : List ByteArray} (h : OS 9 1 cStr w B v R) : (v = .slice none 0 0 ∧ R = []) ∨ ∃ g c, v = .slice (some ⟨g, 0, none⟩) R.length c ∧ R.length ≤ c := by
 obtain ⟨h1, h2⟩ := h
 rcases h2 with ⟨rfl, hn⟩ | ⟨g, cap, cur, rfl, hg, hh, hnc, -⟩
 · exact .inl ⟨rfl, List.eq_nil_of_length_eq_zero hn⟩
 exact .inr ⟨g, cap, rfl, hnc⟩
theorem raw_at {w : World} {g n c : Nat} {l : List ByteArray} (h : RS 1 16 (ERaw cStr) w (.slice (some ⟨g, 0, none⟩) n c) l) {j : Nat} {x : ByteArray} (hj : l[j]? = some x) : w.cell? ⟨g, j, none⟩ = some (.string x) := by
 obtain ⟨a, c', hv, _, _, _, _, hat⟩ := h
 obtain ⟨b, off, ha, _, he⟩ := hat j x hj
 simp only [Value.slice.injEq] at hv
 obtain ⟨hv, -, -⟩ := hv
 rw [← hv] at ha
 simp only [Option.some.injEq, Addr.mk.injEq, and_true] at ha
 obtain ⟨rfl, rfl⟩ := ha
 have := he 0 (.string x) rfl
 simpa using this
def ShutTo (l : List Blob) (i : Nat) (M : List ByteArray) : Prop := ∀ (p : Nat) x, p < i → M[p]? = some x → ∀ y ∈ kidsOf l x, InB l y → y ∈ M
theorem ShutTo.add {l : List Blob} {i : Nat} {M : List ByteArray} (h : ShutTo l i M) (hi : i ≤ M.length) (d : ByteArray) : ShutTo l i (M ++ [d]) := fun p x hp hx y hy hb => by
 rw [List.getElem?_append_left (by omega)] at hx
 exact List.mem_append_left _ (h p x hp hx y hy hb)
theorem ShutTo.all {l : List Blob} {ds M : List ByteArray} (h : ShutTo l M.length M) (hr : ∀ d ∈ ds, InB l d → d ∈ M) (hc : ∀ x ∈ M, Come l ds x) (x : ByteArray) : x ∈ M ↔ Come l ds x := by
 refine ⟨hc x, fun hx => ?_⟩
 induction hx with
 | root h1 h2 => exact hr _ h1 h2
 | step _ h2 h3 ih =>
   obtain ⟨p, hp⟩ := List.mem_iff_getElem?.1 ih
   exact h p _ (List.getElem?_eq_some_iff.1 hp).1 hp _ h2 h3
end Go.Proofs.YtpkpgehiplhkpaaGreat

namespace Go.Proofs.YtpkpgehiplhkpaaGreat
open Go.RowKit
theorem OBlob.mark {w : World} {B g n cap i : Nat} {bs : List Blob} {x : Blob} (m : Bool) (h : OBlob w B (.slice (some ⟨g, 0, none⟩) n cap) bs) (hx : bs[i]? = some x) :
 OBlob (w.setCell ⟨g, i * 4 + 3, none⟩ (.bool m)) B (.slice (some ⟨g, 0, none⟩) n cap) (bs.set i { x with mark := m }) :=
 OX.put h (by decide) xcBlob_len hx (by decide) rfl (fun _ => rfl)
def bare (x : Blob) : ByteArray × List UInt8 × Int := (x.digest, x.data, x.pins)
def Alike (l m : List Blob) : Prop := m.map bare = l.map bare
theorem Alike.refl (l : List Blob) : Alike l l := rfl
theorem Alike.len {l m : List Blob} (h : Alike l m) : m.length = l.length := by
 have := congrArg List.length h
 simpa using this
theorem Alike.set {l m : List Blob} (h : Alike l m) {i : Nat} {x : Blob} (hx : m[i]? = some x) (b : Bool) : Alike l (m.set i { x with mark := b }) := by
 unfold Alike at h ⊢
 rw [List.map_set, ← h]
 have hi := (List.getElem?_eq_some_iff.1 hx).1
 have he := (List.getElem?_eq_some_iff.1 hx).2
 have : bare { x with mark := b } = (m.map bare)[i]'(by simpa using hi) := by rw [List.getElem_map, he]; rfl
 rw [this, List.set_getElem_self]
theorem Alike.at_ (d : ByteArray) : ∀ {l m : List Blob}, Alike l m → atKey (fun x : Blob => x.digest) d m = atKey (fun x : Blob => x.digest) d l
 | [], [], _ => rfl
 | [], y :: m, h => by cases h
 | x :: l, [], h => by cases h
 | x :: l, y :: m, h => by
   unfold Alike at h
   simp only [List.map_cons, List.cons.injEq] at h
   have h1 : y.digest = x.digest := congrArg Prod.fst h.1
   rw [atKey, atKey, h1, Alike.at_ d (l := l) (m := m) h.2]
theorem Alike.fit {l m : List Blob} (h : Alike l m) (hf : ∀ x ∈ l, FitBlob x) : ∀ x ∈ m, FitBlob x := fun x hx => by
 have h1 : bare x ∈ l.map bare := by rw [← h]; exact List.mem_map_of_mem hx
 obtain ⟨y, hy, he⟩ := List.mem_map.1 h1
 have hfy := hf y hy
 unfold bare at he
 simp only [Prod.mk.injEq] at he
 obtain ⟨e1, e2, e3⟩ := he
 obtain ⟨⟨f1, f2⟩, f3⟩ := hfy
 exact ⟨⟨e1 ▸ f1, e3 ▸ f2⟩, e2 ▸ f3⟩
def markAt (l m : List Blob) (d : ByteArray) : List Blob := match m[atKey (fun x : Blob => x.digest) d l]? with | some x => m.set (atKey (fun x : Blob => x.digest) d l) { x with mark := true } | none => m
def marked (l : List Blob) (L : List ByteArray) : List Blob := L.foldl (markAt l) l
theorem markAt_some {l m : List Blob} {d : ByteArray} {x : Blob} (h : m[atKey (fun x : Blob => x.digest) d l]? = some x) : markAt l m d = m.set (atKey (fun x : Blob => x.digest) d l) { x with mark := true } := by
 unfold markAt; rw [h]
theorem marked_next {l : List Blob} {L : List ByteArray} {j : Nat} {d : ByteArray} (h : L.take (j + 1) = L.take j ++ [d]) : marked l (L.take (j + 1)) = markAt l (marked l (L.take j)) d := by
 unfold marked
 rw [h, List.foldl_append]
 rfl
theorem obt {w : World} {B g cap n : Nat} {v : Value} {bs : List Blob} (h : OBlob w B v bs) (hv : v = .slice (some ⟨g, 0, none⟩) n cap) : ∃ cs T fr, w.heap[g]? = some (.cells cs T fr) ∧ T = 50 := by
 obtain ⟨rs, -, ho, -⟩ := h
 subst hv
 obtain ⟨cur, hcur⟩ := OS.owns ho
 exact ⟨_, _, _, hcur, rfl⟩
def MarkPost (l : List Blob) (ds : List ByteArray) (w : World) (e : Ending) (w' : World) : Prop :=
 ∃ v L, e = .returned v ∧ Comes l ds L ∧ RBl w' v (marked l L) ∧ Below w.heap.size w w'
set_option maxRecDepth 100000 in
set_option maxHeartbeats 2000000 in
theorem mark_All (v u : Value) (l : List Blob) (ds : List ByteArray) (w : World) (h : RBl w v l) (g : RT w u ds) :
 Calls Tryz.prog 251 #[v, u] w (MarkPost l ds w) := by
 have hR := hid h
 have hT := hid g
 have hfit := hid (fit_B h)
 have hcp := hid (blob_Copy v l w h)
 obtain ⟨a, c, rfl, hlc, hcm, hre, -⟩ := h
 obtain ⟨a2, c2, rfl, -⟩ := g
 go_enter Tryz.func251, Tryz.ntmps251
 go_wp2_with fail
 ((with_reducible refine hcp.out.mono ?_); rintro e w1 ⟨rfl, o1', b1⟩)
 have o1 : Hid (OBlob w1 w.heap.size (.slice (some ⟨w.heap.size, 0, none⟩) l.length l.length) l) := hid o1'
 replace b1 := hid b1
 clear o1'
 go_wp2_with fail
 ((with_reducible refine (reach_From _ _ l ds _ (hR.out.mono EBlob.stable b1.out) (hT.out.mono EStr.stable b1.out)).mono ?_); rintro e w2 ⟨v2, L, rfl, hC, -, hsz, r2, o2, b2⟩)
 have hb2 := hid (b_call b1.out b2)
 have o12 := hid (OBlob.after o1.out b2)
 have hs1 := b1.out.size
 replace o2 := hid (OS.mono o2 b1.out.size)
 replace hC := hid hC
 replace hsz := hid hsz
 have hLl : L.length * 16 ≤ 140737488351232 := by obtain ⟨_, _, _, _, _, hh, _⟩ := r2; exact hh
 obtain ⟨a3, c3, rfl, -⟩ := id r2
 have hal0 := hid (Alike.refl l)
 have o0 : Hid (OBlob w2 w.heap.size (.slice (some ⟨w.heap.size, 0, none⟩) l.length l.length) (marked l (L.take 0))) := hid o12.out
 clear r2 b2 b1 o1 hcp o12
 go_wp2_with fail
 go_loopw [7, 8, 9, 16] (fun _ _ _ i2 wr => ∃ j : Nat, j ≤ L.length ∧ i2 = .int .i64 (j : Int) ∧ Hid (Alike l (marked l (L.take j))) ∧ Hid (OBlob wr w.heap.size (.slice (some ⟨w.heap.size, 0, none⟩) l.length l.length) (marked l (L.take j))) ∧ Hid (OS 9 1 cStr wr w.heap.size (.slice a3 L.length c3) L) ∧ Hid (Below w.heap.size w wr)) (fun _ _ _ i2 _ => L.length - (intOf i2).toNat)
 case atStart => exact ⟨0, by omega, rfl, hal0, o0, o2, hb2⟩
 obtain ⟨j, hj, rfl, hal, hob, hol, hbr⟩ := hrel
 by_cases hlt : j < L.length
 · have hn : L[j]? = some L[j] := List.getElem?_eq_getElem hlt
   have htk := marked_next (l := l) (List.take_succ_eq_append_getElem hlt)
   have hin := ((hC.out.2 _).1 (List.getElem_mem hlt)).inB
   have hsd := hsz.out _ (List.getElem_mem hlt)
   generalize L[j] = d at *
   obtain ⟨g3, rfl⟩ : ∃ g3, a3 = some ⟨g3, 0, none⟩ := by
    rcases os_forms hol.out with ⟨_, h2⟩ | ⟨g3, c4, h1, -⟩
    · rw [h2] at hlt; simp at hlt
    simp only [Value.slice.injEq] at h1
    exact ⟨g3, h1.1⟩
   have hcell := raw_at (raw_str hol.out hLl) hn
   have hlen := hal.out.len
   have hatd := hal.out.at_ d
   have hrd := hid (hob.out.toR (by rw [hlen]; exact hre) (hal.out.fit hfit.out))
   have hx : (marked l (L.take j))[atKey (fun x : Blob => x.digest) d l]? = some ((marked l (L.take j))[atKey (fun x : Blob => x.digest) d l]'(by rw [hlen]; exact hin)) := List.getElem?_eq_getElem (by rw [hlen]; exact hin)
   generalize (marked l (L.take j))[atKey (fun x : Blob => x.digest) d l]'(by rw [hlen]; exact hin) = x at hx
   have hnext := hid (htk.trans (markAt_some hx))
   have hal2 := hal.out.set hx true
   rw [← hnext.out] at hal2
   replace hal2 := hid hal2
   have hput := hid (fun (W : World) (g cap n : Nat) (h : OBlob W w.heap.size (.slice (some ⟨g, 0, none⟩) n cap) (marked l (L.take j))) => OBlob.mark true h hx)
   rw [← hnext.out] at hput
   have hinm : InB (marked l (L.take j)) d := by unfold InB; rw [hatd, hlen]; exact hin
   have hf := hid (blob_Find _ _ d _ hrd.out)
   rw [(find_yes hinm).1, (find_yes hinm).2, hatd] at hf
   clear hinm
   have hil : atKey (fun x : Blob => x.digest) d l < (marked l (L.take j)).length := by rw [hlen]; exact hin
   have hi1 : (atKey (fun x : Blob => x.digest) d l : Int) < (l.length : Int) := by unfold InB at hin; omega
   have hi0 : (0 : Int) ≤ (atKey (fun x : Blob => x.digest) d l : Int) := by omega
   generalize atKey (fun x : Blob => x.digest) d l = i at *
   clear hn htk hin hx hatd hal hnext
   go_wp2_with fail
   ((with_reducible refine hf.out.mono ?_); rintro e w5 ⟨rfl, b5⟩)
   replace hob := hid (OBlob.after hob.out b5)
   replace hol := hid (OS.below hol.out b5)
   replace hbr := hid (b_call hbr.out b5)
   clear b5 hf hcell
   obtain ⟨gg, cap, hv, hgB, hgl, ⟨uu, hcu⟩, hfr⟩ := OX.spot hob.out (i := i) (o := 3) hil (by decide)
   have hgt := obt hob.out hv
   simp only [Value.slice.injEq, Option.some.injEq, Addr.mk.injEq, and_true] at hv
   obtain ⟨hv1, hv2, hv3⟩ := hv
   subst hv3
   subst hv1
   rw [hlen] at *
   obtain ⟨cs9, T9, fr9, hg9, hT9⟩ := hgt
   have ob9 := hid (hput.out _ _ _ _ hob.out)
   have ol9 := hid (OS.other (o := i * 4 + 3) (u := .bool true) hol.out hg9 (by rw [hT9]; decide))
   have hb9 := hid (b_set hbr.out (p := ⟨w.heap.size, i * 4 + 3, none⟩) hgB (.bool true))
   clear hput hob hol hbr hg9 hrd hal0
   go_wp2_with fail
   go_roundw
   case rel => exact ⟨j + 1, by omega, by go_num, hal2, ob9, ol9, hb9⟩
   case measure => simp [intOf]; omega
 obtain rfl : j = L.length := by omega
 rw [List.take_length] at hal hob
 have hrd := hid (hob.out.toR (by rw [hal.out.len]; exact hre) (hal.out.fit hfit.out))
 clear hob hal hol
 go_wp2_with fail
 go_ret
 exact ⟨_, L, rfl, hC.out, hrd.out, hbr.out⟩
end Go.Proofs.YtpkpgehiplhkpaaGreat
