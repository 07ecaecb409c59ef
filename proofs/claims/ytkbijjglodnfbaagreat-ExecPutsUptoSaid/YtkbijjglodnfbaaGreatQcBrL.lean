import Derived.Test.YtkbijjglodnfbaaGreatQcKep
import Derived.Test.YtkbijjglodnfbaaGreatQcSkx
import Derived.Test.YtkbijjglodnfbaaGreatQcChn
namespace Go.Proofs.YtkbijjglodnfbaaGreat
open Go.RowKit
def CoResO (o : CoOut) (w : World) (e : Ending) (w' : World) : Prop :=
 ∃ v gv, e = .returned (.tuple #[v, .agg #[.int .i64 o.coll.phase, gv, .string o.coll.place], .int .i64 o.err]) ∧ VS w' v o.store ∧ RT w' gv o.coll.grey ∧ OS 9 1 cStr w' w.heap.size gv o.coll.grey ∧ Below w.heap.size w w'
theorem CoResO.co {o : CoOut} {w w' : World} {e : Ending} (h : CoResO o w e w') : CoRes o w e w' := by
 obtain ⟨v, gv, h1, h2, h3, -, h4⟩ := h
 exact ⟨v, gv, h1, h2, h3, h4⟩
theorem coO_no {o : CoOut} {n : Int} {w w' : World} (h : o = ⟨n, noStore, noColl⟩) (hb : Below w.heap.size w w') :
 CoResO o w (.returned (.tuple #[.agg #[.slice none 0 0, .slice none 0 0, .int .i64 0, .int .i64 0], .agg #[.int .i64 0, .slice none 0 0, .string ⟨#[]⟩], .int .i64 n])) w' := by
 subst h
 exact ⟨_, _, rfl, ⟨_, _, rfl, RS.nil, RS.nil⟩, RS.nil, OS.nil, hb⟩
theorem coO_ok {o : CoOut} {k : Int} {s : ByteArray} {G : List ByteArray} {bs : List Blob} {es : List Entry} {r t : Int} {v1 v2 gv : Value} {w w' : World} (h : o = ⟨0, ⟨bs, es, r, t⟩, ⟨k, G, s⟩⟩) (h1 : RBl w' v1 bs) (h2 : RE w' v2 es) (h3 : RT w' gv G) (h4 : OS 9 1 cStr w' w.heap.size gv G) (hb : Below w.heap.size w w') :
 CoResO o w (.returned (.tuple #[.agg #[v1, v2, .int .i64 r, .int .i64 t], .agg #[.int .i64 k, gv, .string s], .int .i64 0])) w' := by
 subst h
 exact ⟨_, _, rfl, ⟨v1, v2, rfl, h1, h2⟩, h3, h4, hb⟩
noncomputable def barOut (z e : Int) (S : Store) (ph : Int) (gy : List ByteArray) (pl : ByteArray) (l : List ByteArray) : CoOut :=
 if z ≠ 0 then ⟨z, noStore, noColl⟩ else if e ≠ 0 then ⟨e, noStore, noColl⟩ else ⟨0, ⟨keptB ph S.blobs l, S.entries, S.room, S.clock⟩, ⟨ph, keptG ph gy l, pl⟩⟩
section
variable {z e ph : Int} {S : Store} {gy l : List ByteArray} {pl d : ByteArray}
theorem bar_bad (h : z ≠ 0) : barOut z e S ph gy pl l = ⟨z, noStore, noColl⟩ := if_pos h
theorem bar_op (h : e ≠ 0) : barOut 0 e S ph gy pl l = ⟨e, noStore, noColl⟩ := by unfold barOut; rw [if_neg (by simp), if_pos h]
theorem bar_ok : barOut 0 0 S ph gy pl l = ⟨0, ⟨keptB ph S.blobs l, S.entries, S.room, S.clock⟩, ⟨ph, keptG ph gy l, pl⟩⟩ := by unfold barOut; rw [if_neg (by simp), if_neg (by simp)]
end
def BpMid (w wb : World) (q : Nat) (B2 : List Blob) (E : List Entry) (r1 t1 ph : Int) (G2 : List ByteArray) (pl : ByteArray) (s14 : Value) (wx : World) : Prop :=
 ∃ q14 a7 c7 a8 c8 a9 c9, s14 = .pointer (some ⟨q14, 0, none⟩) ∧ wb.heap.size ≤ q14 ∧ wx.heap[q]? = some (.cells #[.slice a7 B2.length c7, .slice a8 E.length c8, .int .i64 r1, .int .i64 t1] 25 (0, 0)) ∧
   wx.heap[q14]? = some (.cells #[.int .i64 ph, .slice a9 G2.length c9, .string pl] 28 (0, 0)) ∧
   wx.heap[w.heap.size + 1 + 1]? = some (.cells #[.slice none 0 0, .slice none 0 0, .int .i64 0, .int .i64 0] 25 (0, 0)) ∧ wx.heap[w.heap.size + 1 + 1 + 1]? = some (.cells #[.int .i64 0, .slice none 0 0, .string ⟨#[]⟩] 28 (0, 0)) ∧
   G2.length * 16 ≤ 140737488351232 ∧ (∀ s ∈ G2, s.size ≤ 140737488351232) ∧ RBl wx (.slice a7 B2.length c7) B2 ∧ RE wx (.slice a8 E.length c8) E ∧ OS 9 1 cStr wx w.heap.size (.slice a9 G2.length c9) G2 ∧ Below w.heap.size w wx
set_option maxRecDepth 100000 in
set_option maxHeartbeats 1000000 in
theorem barrier_digests (v : Value) (L : List Part) (w : World) (h : RP w v L) : Calls Tryz.prog 90 #[v] w (DigPost L w) := by
 obtain ⟨i0, ii0, hz0, hz1, hz2⟩ := info_parts info_str
 obtain ⟨pa, pc, rfl, hlc, hcm, hre, hno, hat⟩ := h
 unfold maxLen at hcm
 replace hat := hid hat
 clear hno
 have hown0 : Hid (OS 9 1 cStr w w.heap.size (.slice none 0 0) ((L.map (·.digest)).take 0)) := hid OS.nil
 unfold DigPost
 go_enter Tryz.func90, Tryz.ntmps90
 go_wp2_with fail
 go_loopw [3, 5, 8] (fun o _ i wr => ∃ k : Nat, k ≤ L.length ∧ i = .int .i64 (k : Int) ∧ Hid (OS 9 1 cStr wr w.heap.size o ((L.map (·.digest)).take k)) ∧ Hid (Below w.heap.size w wr)) (fun _ _ i _ => L.length - (intOf i).toNat)
 case atStart => exact ⟨0, by omega, rfl, hown0, hid (Below.refl _ _)⟩
 case round =>
  obtain ⟨k, hk, rfl, hown, hbr⟩ := hrel
  by_cases hlt : k < L.length
  · have hx : L[k]? = some L[k] := List.getElem?_eq_getElem hlt
    have htk := hid (List.take_succ_eq_append_getElem hlt)
    generalize L[k] = y at hx htk
    obtain ⟨bb, off, rfl, hbb, he⟩ := hat.out k _ hx
    obtain ⟨c0, c1', c2, s0, s1, wf⟩ := EPart.stable _ _ _ _ _ hbr.out hbb he
    have hbw : bb < wr.heap.size := Nat.lt_of_lt_of_le hbb hbr.out.size
    clear he hx
    have hown1 := hid (OS.alloc hown.out (Obj.cells #[.string y.name, .string y.digest, .int .i64 y.size] 107))
    have hsB := hbr.out.size
    have hrow := row_one (s := 1) (bs := 16) (cells := cStr) (wr.alloc (Obj.cells #[.string y.name, .string y.digest, .int .i64 y.size] 107)) 9 y.digest #[.string y.digest] (wr.heap.size + 1) (by simp) rfl (by decide)
    have hlk : ((L.map (·.digest)).take k).length ≤ L.length := by rw [List.length_take, List.length_map]; omega
    go_wp2_with (at_builtin; go_must (refine wpL_append flat_rstr rfl (.tmp 12) (.tmp 15) 26 rfl 9 i0 _ Tryz.underlying26 ii0 hz0 hz1 hz2 rfl w.heap.size _ _ rfl (OS.alloc hown1.out _) _ [y.digest] rfl hrow ?c1 ?c2 ?c3 ?_))
    case c1 => simp only [List.length_cons, List.length_nil]; omega
    case c2 => simp only [List.length_cons, List.length_nil, maxLen]; omega
    case c3 => simp; omega
    intro v8 w8 ho8 hg8
    have hbr8 := hid ((((hbr.out.alloc hsB (Obj.cells #[.string y.name, .string y.digest, .int .i64 y.size] 107)).alloc (by simp; omega) (Obj.cells #[.string y.digest] 9)).grown hg8 (by simp; omega) (OS.block hown.out)))
    have hxs : Hid ((L.map (·.digest)).take k ++ [y.digest] = (L.map (·.digest)).take (k + 1)) := hid (by rw [← List.map_take, ← List.map_take, htk.out, List.map_append]; rfl)
    rw [hxs.out] at ho8
    replace ho8 := hid ho8
    clear hg8 hrow hown1 hown hbr hxs
    go_wp2_with fail
    go_roundw
    case rel => exact ⟨k + 1, by omega, by go_num, ho8, hbr8⟩
    case measure => simp [intOf]; omega
  · obtain rfl : k = L.length := by omega
    rw [List.take_of_length_le (by rw [List.length_map]; exact Nat.le_refl _)] at hown
    go_wp2_with fail
    go_ret
    exact ⟨_, rfl, hown.out, hbr.out⟩
end Go.Proofs.YtkbijjglodnfbaaGreat
