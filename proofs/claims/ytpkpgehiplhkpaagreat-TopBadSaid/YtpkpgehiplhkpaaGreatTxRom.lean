import Derived.Test.YtpkpgehiplhkpaaGreatTxPin
import Derived.Tactics2
import Derived.Deep.QuietTactic
import Derived.BigQuiet
namespace Go.Proofs.YtpkpgehiplhkpaaGreat
open Go.RowKit
def cPart (x : Part) : List Value := [.string x.name, .string x.digest, .int .i64 x.size]
theorem flat_part : Flat 3 cPart EPart := ⟨by decide, fun _ => rfl, fun _ u hu => by simp [cPart] at hu; rcases hu with rfl | rfl | rfl <;> rfl, fun w b o x h j hj => by
 obtain ⟨h0, h1, h2, _⟩ := h
 rcases j with _ | _ | _ | j
 · exact h0
 · exact h1
 · exact h2
 · omega⟩
theorem reads_part {e : TypeId} {w : World} {B : Nat} {v : Value} {l : List Part} (h : OS e 3 cPart w B v l) (hb : l.length * 40 ≤ 140737488351232) (ho : ∀ x ∈ l, x.name.size ≤ 140737488351232 ∧ x.digest.size ≤ 140737488351232 ∧ (Lit.int .i64 x.size).wf = true) : RP w v l :=
 OS.reads (cells := cPart) (fun _ => rfl) (by decide) (fun b o x hx hc => ⟨hc 0 (by omega), hc 1 (by omega), hc 2 (by omega), ho x hx⟩) h hb
theorem info_part : (Tryz.prog.info? 67).map (fun i => (i.zero, i.size, i.bytes)) = some (some (.agg #[.string ⟨#[]⟩, .string ⟨#[]⟩, .int .i64 0]), 3, 40) := by kernel_rfl
theorem info_int : (Tryz.prog.info? 3).map (fun i => (i.zero, i.size, i.bytes)) = some (some (.int .i64 0), 1, 8) := by kernel_rfl
set_option maxRecDepth 100000 in
set_option maxHeartbeats 400000 in
theorem slices_Clone_part (v : Value) (l : List Part) (w : World) (h : RP w v l) :
 Calls Tryz.prog 54 #[v] w fun e w' => ∃ v', e = .returned v' ∧ OS 67 3 cPart w' w.heap.size v' l ∧ Below w.heap.size w w' := by
 obtain ⟨i0, hi, hz0, hz1, hz2⟩ := info_parts info_part
 have hh := h
 obtain ⟨a, c, rfl, hlc, hcm, hre, hno, hat⟩ := hh
 cases a with
 | none =>
   have hc0 := hno rfl
   subst hc0
   have hl0 : l = [] := List.eq_nil_of_length_eq_zero (by omega)
   subst hl0
   have he := fun w => Lib.run_eql_slice_nil (P := Tryz.prog) w 42 67 none 0 0 0 0 Tryz.underlying42
   go_enter Tryz.func54, Tryz.ntmps54
   go_wp2
   go_ret
   exact ⟨_, rfl, OS.nil, Below.refl _ _⟩
 | some ad =>
   have he := fun w => Lib.run_eql_slice_nil (P := Tryz.prog) w 42 67 (some ad) l.length c 0 0 Tryz.underlying42
   clear hat
   go_enter Tryz.func54, Tryz.ntmps54
   go_wp2_with (at_builtin; go_must (refine wpL_append flat_part rfl (.tmp 5) (.tmp 6) 42 rfl 67 i0 _ Tryz.underlying42 hi hz0 hz1 hz2 rfl w.heap.size _ [] rfl (os_empty' _ _ _ _ (by simp) (by simp)) _ l rfl (h.mono EPart.stable (b_alloc (Below.refl _ _) _)) ?c1 ?c2 ?c3 ?_))
   case c1 => simp; omega
   case c2 => simp [maxLen]; omega
   case c3 => simp
   intro v' w1 hown hg
   have hb := b_grown (b_alloc (Below.refl _ w) (.cells #[] 67)) hg (fun k hk => by simp [Value.ownBlock] at hk; omega)
   clear hg
   go_wp2
   go_ret
   exact ⟨_, rfl, hown, hb⟩
set_option maxRecDepth 100000 in
set_option maxHeartbeats 400000 in
theorem slices_Clone_int (v : Value) (l : List Int) (w : World) (h : RI w v l) :
 Calls Tryz.prog 254 #[v] w fun e w' => ∃ v', e = .returned v' ∧ OS 3 1 cI w' w.heap.size v' l ∧ Below w.heap.size w w' := by
 obtain ⟨i0, hi, hz0, hz1, hz2⟩ := info_parts info_int
 have hh := h
 obtain ⟨a, c, rfl, hlc, hcm, hre, hno, hat⟩ := hh
 cases a with
 | none =>
   have hc0 := hno rfl
   subst hc0
   have hl0 : l = [] := List.eq_nil_of_length_eq_zero (by omega)
   subst hl0
   have he := fun w => Lib.run_eql_slice_nil (P := Tryz.prog) w 43 3 none 0 0 0 0 Tryz.underlying43
   go_enter Tryz.func254, Tryz.ntmps254
   go_wp2
   go_ret
   exact ⟨_, rfl, OS.nil, Below.refl _ _⟩
 | some ad =>
   have he := fun w => Lib.run_eql_slice_nil (P := Tryz.prog) w 43 3 (some ad) l.length c 0 0 Tryz.underlying43
   clear hat
   go_enter Tryz.func254, Tryz.ntmps254
   go_wp2_with (at_builtin; go_must (refine wpL_append flat_i rfl (.tmp 5) (.tmp 6) 43 rfl 3 i0 (.int .i64 0) Tryz.underlying43 hi hz0 hz1 hz2 rfl w.heap.size _ [] rfl (os_empty' _ _ _ _ (by simp) (by simp)) _ l rfl (h.mono EI.stable (b_alloc (Below.refl _ _) _)) ?c1 ?c2 ?c3 ?_))
   case c1 => simp; omega
   case c2 => simp [maxLen]; omega
   case c3 => simp
   intro v' w1 hown hg
   have hb := b_grown (b_alloc (Below.refl _ w) (.cells #[] 3)) hg (fun k hk => by simp [Value.ownBlock] at hk; omega)
   clear hg
   go_wp2
   go_ret
   exact ⟨_, rfl, hown, hb⟩
end Go.Proofs.YtpkpgehiplhkpaaGreat

namespace Go.Proofs.YtpkpgehiplhkpaaGreat
open Go.RowKit Go.Deep Go.ChangeShapes Go.WideShapes
structure Coll where
 phase : Int
 grey : List ByteArray
 place : ByteArray
end Go.Proofs.YtpkpgehiplhkpaaGreat

namespace Go.Proofs.YtpkpgehiplhkpaaGreat
open Go.RowKit
theorem qxrom_1 {P : Prop} (h : P := by
 go_enter Tryz.func105, Tryz.ntmps105
 go_wp2_with fail
 refine (room_Lacks _ _ _ _ _ h h1 h2 h3 h4).mono ?_
 rintro e w1 ⟨rfl, hb⟩
 go_wp2_with fail
 go_ret
 exact ⟨rfl, hb⟩) : P := h
def used (l : List Blob) : Int := l.foldl (fun n b => wrap64 (n + (b.data.length : Int))) 0
theorem used_snoc (l : List Blob) (k : Nat) (x : Blob) (h : l[k]? = some x) : used (l.take (k+1)) = wrap64 (used (l.take k) + (x.data.length : Int)) := by
 unfold used
 rw [List.take_add_one, h, List.foldl_append]; rfl
set_option maxRecDepth 100000 in
set_option maxHeartbeats 400000 in
theorem room_Used (v : Value) (l : List Blob) (w : World) (h : RBl w v l) :
 Calls Tryz.prog 241 #[v] w fun e w' => e = .returned (.int .i64 (used l)) ∧ Below w.heap.size w w' := by
 obtain ⟨a, c, rfl, hlc, hcm, hre, hno, hat⟩ := h
 unfold maxLen at hcm
 clear hno
 go_enter Tryz.func241, Tryz.ntmps241
 go_wp2
 go_loopw [3, 8] (fun t i wr => ∃ (k : Nat), k ≤ l.length ∧ i = .int .i64 k ∧ t = .int .i64 (used (l.take k)) ∧ Below w.heap.size w wr) (fun _ i _ => l.length - (intOf i).toNat)
 case atStart => exact ⟨0, by omega, rfl, rfl, Below.refl _ _⟩
 case round =>
  obtain ⟨k, hk, rfl, rfl, hb⟩ := hrel
  by_cases hlt : k < l.length
  · have hx : l[k]? = some l[k] := List.getElem?_eq_getElem hlt
    obtain ⟨b, off, rfl, hbb, he⟩ := hat k _ hx
    obtain ⟨dv, h0, h1, h2, h3, ⟨da, dc, hdv, _⟩, _⟩ := EBlob.stable _ _ _ _ _ hb hbb he
    have hs := hid (used_snoc l k _ hx)
    clear hat he hx
    subst hdv
    go_wp2
    go_roundw
    case rel => exact ⟨k+1, by omega, by go_num, by rw [hs.out], b_alloc hb _⟩
    case measure => simp [intOf]; omega
  · go_wp2
    go_ret
    obtain rfl : k = l.length := by omega
    exact ⟨ret_i (by rw [List.take_length]), hb⟩
def lackV (l : List Blob) (room more : Int) : Int := if wrap64 (wrap64 (used l + more) - room) < 0 then 0 else wrap64 (wrap64 (used l + more) - room)
def inRoom (room more : Int) : Prop := 0 ≤ room ∧ room ≤ 4000 ∧ 0 ≤ more ∧ more ≤ 4000
theorem lackV_pos {l : List Blob} {room more : Int} (h : 0 ≤ wrap64 (wrap64 (used l + more) - room)) : lackV l room more = wrap64 (wrap64 (used l + more) - room) := by unfold lackV; rw [if_neg (by omega)]
theorem lackV_neg {l : List Blob} {room more : Int} (h : wrap64 (wrap64 (used l + more) - room) ≤ 0) : lackV l room more = 0 := by
 unfold lackV
 split
 · rfl
 · omega
set_option maxRecDepth 100000 in
set_option maxHeartbeats 400000 in
theorem room_Lacks (v : Value) (l : List Blob) (room more : Int) (w : World) (h : RBl w v l) (h1 : 0 ≤ room) (h2 : room ≤ 4000) (h3 : 0 ≤ more) (h4 : more ≤ 4000) :
 Calls Tryz.prog 187 #[v, .int .i64 room, .int .i64 more] w fun e w' => e = .returned (.tuple #[.int .i64 (lackV l room more), .int .i64 0]) ∧ Below w.heap.size w w' := by
 go_enter Tryz.func187, Tryz.ntmps187
 go_wp2_with fail
 refine (room_Used _ _ _ h).mono ?_
 rintro e w1 ⟨rfl, hb⟩
 have HP := hid (@lackV_pos l room more)
 have HN := hid (@lackV_neg l room more)
 go_wp2
 · have hp : 0 < wrap64 (wrap64 (used l + more) - room) := by assumption
   go_ret2
   rw [HP.out (by omega)]
   exact ⟨rfl, hb⟩
 · have hp : wrap64 (wrap64 (used l + more) - room) ≤ 0 := by assumption
   go_ret2
   rw [HN.out hp]
   exact ⟨rfl, hb⟩
set_option maxRecDepth 100000 in
set_option maxHeartbeats 400000 in
theorem room_Lacks_no (v : Value) (room more : Int) (w : World) (h : ¬ inRoom room more) :
 Calls Tryz.prog 187 #[v, .int .i64 room, .int .i64 more] w fun e w' => e = .returned (.tuple #[.int .i64 0, .int .i64 4]) ∧ w = w' := by
 unfold inRoom at h
 have h' : (room < 0 ∨ 4000 < room) ∨ (more < 0 ∨ 4000 < more) := by omega
 clear h
 have hd : (decide (room < 0) || decide (4000 < room) || decide (more < 0) || decide (4000 < more)) = true := by simp; omega
 clear h'
 go_enter Tryz.func187, Tryz.ntmps187
 go_wp2_with fail
 all_goals go_ret2
 all_goals exact ⟨rfl, rfl⟩
theorem lackV_nonneg (l : List Blob) (room more : Int) : 0 ≤ lackV l room more := by
 unfold lackV
 split
 · exact Int.le_refl _
 · omega
set_option maxRecDepth 100000 in
theorem room_Fits (v : Value) (l : List Blob) (room more : Int) (w : World) (h : RBl w v l) (h1 : 0 ≤ room) (h2 : room ≤ 4000) (h3 : 0 ≤ more) (h4 : more ≤ 4000) (hp : 0 < lackV l room more) :
 Calls Tryz.prog 105 #[v, .int .i64 room, .int .i64 more] w fun e w' => e = .returned (.int .i64 7) ∧ Below w.heap.size w w' := by
 exact qxrom_1
set_option maxRecDepth 100000 in
theorem room_Fits_yes (v : Value) (l : List Blob) (room more : Int) (w : World) (h : RBl w v l) (h1 : 0 ≤ room) (h2 : room ≤ 4000) (h3 : 0 ≤ more) (h4 : more ≤ 4000) (hp : lackV l room more = 0) :
 Calls Tryz.prog 105 #[v, .int .i64 room, .int .i64 more] w fun e w' => e = .returned (.int .i64 0) ∧ Below w.heap.size w w' := by
 exact qxrom_1
set_option maxRecDepth 100000 in
theorem room_Fits_no (v : Value) (room more : Int) (w : World) (h : ¬ inRoom room more) :
 Calls Tryz.prog 105 #[v, .int .i64 room, .int .i64 more] w fun e w' => e = .returned (.int .i64 4) ∧ w = w' := by
 replace h := hid h
 go_enter Tryz.func105, Tryz.ntmps105
 go_wp2_with fail
 refine (room_Lacks_no _ _ _ _ h.out).mono ?_
 rintro e w1 ⟨rfl, rfl⟩
 go_wp2_with fail
 go_ret
 exact ⟨rfl, rfl⟩
end Go.Proofs.YtpkpgehiplhkpaaGreat
