import Derived.Test.YtpkpgehiplhkpaaGreatTxKdD
import Derived.Test.YtpkpgehiplhkpaaGreatTxPlA
import Derived.Test.YtpkpgehiplhkpaaGreatTxDkS
import Derived.Test.YtpkpgehiplhkpaaGreatTxDkM
import Derived.Test.YtpkpgehiplhkpaaGreatTxDkF
import Derived.Test.YtpkpgehiplhkpaaGreatTxDkA
import Derived.Deep.DeepCutAuto
import Derived.Deep.CutBlock
namespace Go.Proofs.YtpkpgehiplhkpaaGreat
open Go.RowKit
theorem dig_hexv (n : Nat) : n < 16 → 0 ≤ hexv (hexDig n) := by
 have key : ∀ j : Fin 16, 0 ≤ hexv (hexDig j.val) := by decide
 exact fun h => key ⟨n, h⟩
theorem allHex_of (l : List UInt8) : AllHex (bstr (hexOf l)) := by
 intro k h
 have hk : k < (hexOf l).length := h
 change 0 ≤ hexv ((hexOf l)[k]'hk)
 have hm : (hexOf l)[k] ∈ hexOf l := List.getElem_mem hk
 obtain ⟨c, -, hc⟩ := List.mem_flatMap.1 hm
 have hlt := c.toNat_lt
 simp only [hexTwo, List.mem_cons, List.not_mem_nil, or_false] at hc
 rcases hc with hc | hc <;> rw [hc]
 · exact dig_hexv _ (by omega)
 · exact dig_hexv _ (by omega)
theorem digS_size (l : List UInt8) : (digS l).size = 64 := by
 show (hexOf (bytesW (hashW l))).length = 64
 rw [hexOf_len, bytesW_len, hashW8]
theorem digS_hex (l : List UInt8) : hexFault (digS l) = 0 := by
 unfold hexFault
 rw [if_pos (digS_size l)]
 exact if_pos (allHex_of (bytesW (hashW l)))
def oPut : Order := ⟨1, 0, ⟨#[]⟩, abc, []⟩
def oAsk (K : ByteArray) (n : Int) : Order := ⟨12, n, K, [], []⟩
def oDone (K : ByteArray) (ps : List Part) : Order := ⟨13, 0, K, [], ps⟩
def oGet (K : ByteArray) : Order := ⟨6, 0, K, [], []⟩
noncomputable def wkSt (D K : ByteArray) : Nat → Loft
 | 0 => ⟨⟨[], [], 50, 0⟩, ⟨0, [], ⟨#[]⟩⟩, []⟩
 | 1 => LA D
 | 2 => LB D K
 | 3 => LC D K
 | _ => ⟨⟨[blobA D], gtL K 1 [entA D K], 50, 2⟩, ⟨0, [], ⟨#[]⟩⟩, []⟩
def wkRp (D : ByteArray) : Nat → Rep
 | 0 => ⟨0, D, [], [], 0, []⟩
 | 1 => ⟨0, ⟨#[]⟩, [], [], 1, []⟩
 | 2 => ⟨0, ⟨#[]⟩, [], [], 0, [1]⟩
 | _ => ⟨0, ⟨#[]⟩, [], [partA D], 0, []⟩
abbrev wkOrders (D K : ByteArray) : List Order := [oPut, oAsk K 1, oDone K [partA D], oGet K]
section
variable {D K : ByteArray} (hD : hexFault D = 0) (hK : hexFault K = 0) (hs : sumStr abc = D) (hKs : K.size ≤ 140737488351232)
abbrev OrdDoes (o : Order) (L N : Loft) (y : Rep) : Prop :=
 ∀ p dv pv W, DeskAt W p L → RB W dv o.data → RP W pv o.parts → Calls Tryz.prog 37 #[.pointer (some ⟨p, 0, none⟩), .agg #[.int .i64 o.kind, .int .i64 o.n, .string o.digest, dv, pv]] W (DeskPost p N y W)
theorem empty_small : (⟨#[]⟩ : ByteArray).size ≤ 140737488351232 := by decide
theorem none_few : ([] : List ByteArray).length ≤ 8388608 := by decide
include hD hs
theorem wk_put : OrdDoes oPut ⟨⟨[], [], 50, 0⟩, ⟨0, [], ⟨#[]⟩⟩, []⟩ (LA D) ⟨0, D, [], [], 0, []⟩ := by
 intro p dv pv W hL hd hp
 refine desk_order_blob p _ _ oPut dv pv W hL hd hp empty_small _ ord_put (by decide) ?_
 intro dv pv W hL hd hp
 have h := desk_blob_put p _ oPut dv pv W hL hd hp (putbOut [] [] 50 0 0 [] ⟨#[]⟩ abc) (putbD [] [] 50 0 0 [] ⟨#[]⟩ abc) rfl
  (fun v u gv dv w h g hg gd => barrier_PutBlob v u gv [] [] 50 0 0 ⟨#[]⟩ [] dv abc w h g hg gd empty_small none_few)
 rw [(put_step hD hs).1, (put_step hD hs).2, if_pos rfl] at h
 exact h
include hK hKs
theorem wk_ask : OrdDoes (oAsk K 1) (LA D) (LB D K) ⟨0, ⟨#[]⟩, [], [], 1, []⟩ := by
 intro p dv pv W hL hd hp
 refine desk_order_flight p _ _ (oAsk K 1) dv pv W hL hd hp hKs _ (ord_ask 1 (by decide) (by decide) hK) (by show ¬ (12 : Int) ≤ 4; decide) (by show ¬ (12 : Int) ≤ 8; decide) (by show ¬ (12 : Int) ≤ 11; decide) ?_
 intro dv pv W hL hd hp
 have h := desk_flight_ask p (LA D) (oAsk K 1) dv pv W hL hd hp (exAsk [blobA D] [] 50 0 0 ⟨#[]⟩ [] [] K 1) rfl
  (fun v u gv fv w h g hg hf => exec_Ask v u gv fv [blobA D] [] 50 0 0 ⟨#[]⟩ [] [] K 1 w h g hg hf hKs (by decide) empty_small none_few)
 rw [ask_step hD hK hs, if_pos rfl] at h
 exact h
theorem wk_done : OrdDoes (oDone K [partA D]) (LB D K) (LC D K) ⟨0, ⟨#[]⟩, [], [], 0, [1]⟩ := by
 intro p dv pv W hL hd hp
 refine desk_order_flight p _ _ (oDone K [partA D]) dv pv W hL hd hp hKs _ (ord_done _ hK (partA_ok hD)) (by show ¬ (13 : Int) ≤ 4; decide) (by show ¬ (13 : Int) ≤ 8; decide) (by show ¬ (13 : Int) ≤ 11; decide) ?_
 intro dv pv W hL hd hp
 have h := desk_flight_done p (LB D K) (oDone K [partA D]) dv pv W hL hd hp (exDone [blobA D] [] 50 0 0 ⟨#[]⟩ [] [flA K] K [partA D]) rfl
  (fun v u gv fv pv w h g hg hf hp => exec_Done v u gv fv [blobA D] [] 50 0 0 ⟨#[]⟩ [] [flA K] K pv [partA D] w h g hg hf hp hKs empty_small none_few)
 rw [done_step hD hK hs, if_pos rfl] at h
 exact h
theorem wk_get : OrdDoes (oGet K) (LC D K) ⟨⟨[blobA D], gtL K 1 [entA D K], 50, 2⟩, ⟨0, [], ⟨#[]⟩⟩, []⟩ ⟨0, ⟨#[]⟩, [], [partA D], 0, []⟩ := by
 intro p dv pv W hL hd hp
 refine desk_order_entry p _ _ (oGet K) dv pv W hL hd hp hKs _ (ord_get hK) (by show ¬ (6 : Int) ≤ 4; decide) (by show (6 : Int) ≤ 8; decide) ?_
 intro dv pv W hL hd hp
 obtain ⟨g1, g2, -⟩ := get_step hD hK hs
 have h := desk_entry_get p (LC D K) (oGet K) dv pv W hL hd hp 0 ⟨[blobA D], gtL K 1 [entA D K], 50, 2⟩ [partA D] rfl
  (fun v u w h g => by
    have q := store_Get v u [blobA D] [entA D K] 50 1 K w h g
    unfold GtRes at q
    rw [g1, g2] at q
    exact q)
 rw [if_pos rfl] at h
 exact h
theorem works_run (lv : Value) (w : World) (hl : ROrd w lv (wkOrders D K)) :
 Calls Tryz.prog 12 #[.int .i64 50, lv] w (RunPost (wkSt D K 4) [wkRp D 0, wkRp D 1, wkRp D 2, wkRp D 3] w) := by
 have h0 := wk_put hD hs
 have h1 := wk_ask hD hK hs hKs
 have h2 := wk_done hD hK hs hKs
 have h3 := wk_get hD hK hs hKs
 have e1 : (wkOrders D K).length = 4 := rfl
 have e2 : (List.range 4).map (wkRp D) = [wkRp D 0, wkRp D 1, wkRp D 2, wkRp D 3] := rfl
 have h := desk_Run 50 lv (wkOrders D K) (wkSt D K) (wkRp D) w hl (by decide) (by decide) (by rw [e1]; decide) rfl (by
  intro k hk p dv pv W hL hd hp
  rw [e1] at hk
  clear e1 e2 hl
  obtain rfl | rfl | rfl | rfl : k = 0 ∨ k = 1 ∨ k = 2 ∨ k = 3 := by omega
  · exact h0 p dv pv W hL hd hp
  · exact h1 p dv pv W hL hd hp
  · exact h2 p dv pv W hL hd hp
  · exact h3 p dv pv W hL hd hp)
 rw [e1, e2] at h
 exact h
end
end Go.Proofs.YtpkpgehiplhkpaaGreat

namespace Go.Proofs.YtpkpgehiplhkpaaGreat
open Go.RowKit
theorem qxtba_1 {P : Prop} (h : P := by
 have e : partsFault [] = 0 := rfl
 unfold ordFault ordForm ordRest
 simp [isKind, hasN, hasD, hasB, hasP, e, no_bytes]
 omega) : P := h
def L10 : Loft := ⟨⟨[], [], 10, 0⟩, ⟨0, [], ⟨#[]⟩⟩, []⟩
theorem does_no (o : Order) (z : Int) (hz : ordFault o = z) (h0 : z ≠ 0) (hs : o.digest.size ≤ 140737488351232) : OrdDoes o L10 L10 ⟨z, ⟨#[]⟩, [], [], 0, []⟩ := by
 intro p dv pv W hL hd hp
 subst hz
 exact desk_order_no p L10 o dv pv W hL hd hp hs h0
theorem bad_kind (n : Int) (h : 15 ≤ n) : ordFault ⟨n, 0, ⟨#[]⟩, [], []⟩ = 2 := by
 unfold ordFault
 rw [if_pos]
 unfold isKind
 rw [decide_eq_false_iff_not]
 show ¬ (1 ≤ n ∧ n ≤ 14)
 omega
theorem bad_form (n : Int) (h : 1 ≤ n) : ordFault ⟨10, n, ⟨#[]⟩, [], []⟩ = 3 := by
 unfold ordFault
 rw [if_neg (show ¬ isKind 10 = false by decide), if_pos]
 unfold ordForm
 rw [decide_eq_true_eq]
 exact .inl ⟨(show n ≠ 0 by omega), (show hasN 10 = false by decide)⟩
theorem bad_short : ordFault ⟨2, 0, ⟨#[97, 98]⟩, [], []⟩ = 1 := by decide
theorem no_bytes : (⟨#[]⟩ : ByteArray) = ByteArray.empty := rfl
theorem bad_long (l : List UInt8) (h : 300 < l.length) : ordFault ⟨1, 0, ⟨#[]⟩, l, []⟩ = 1 := by
 exact qxtba_1
theorem bad_range (n : Int) (h : n < 0) : ordFault ⟨11, n, ⟨#[]⟩, [], []⟩ = 4 := by
 unfold ordFault ordForm ordRest
 simp [isKind, hasN, hasD, hasB, hasP, h, no_bytes]
theorem ord_fail {K : ByteArray} (hK : hexFault K = 0) : ordFault ⟨14, 0, K, [], []⟩ = 0 := by
 have e : partsFault [] = 0 := rfl
 unfold ordFault ordForm ordRest
 simp [isKind, hasN, hasD, hasB, hasP, hK, e]
theorem loft10 : loftF [] [] 10 0 0 [] ⟨#[]⟩ [] = 0 := by
 unfold loftF
 exact loft_ok (coll0 (store0 10 (by decide) (by decide))) rfl (by unfold clash; simp)
theorem does_fail {K : ByteArray} (hK : hexFault K = 0) (hKs : K.size ≤ 140737488351232) : OrdDoes ⟨14, 0, K, [], []⟩ L10 L10 ⟨5, ⟨#[]⟩, [], [], 0, []⟩ := by
 intro p dv pv W hL hd hp
 refine desk_order_flight p _ _ ⟨14, 0, K, [], []⟩ dv pv W hL hd hp hKs _ (ord_fail hK) (by show ¬ (14 : Int) ≤ 4; decide) (by show ¬ (14 : Int) ≤ 8; decide) (by show ¬ (14 : Int) ≤ 11; decide) ?_
 intro dv pv W hL hd hp
 have h := desk_flight_fail p L10 ⟨14, 0, K, [], []⟩ dv pv W hL hd hp (exFail [] [] 10 0 0 ⟨#[]⟩ [] [] K) rfl
  (fun v u gv fv w h g hg hf => exec_Failed v u gv fv [] [] 10 0 0 ⟨#[]⟩ [] [] K w h g hg hf empty_small none_few)
 have he : exFail [] [] 10 0 0 ⟨#[]⟩ [] [] K = noLf 5 := by
  have e1 : endE (flightsFault []) K [] = 5 := rfl
  unfold exFail failOut
  rw [loft10, e1]
  rfl
 rw [he, if_neg (by show ¬ (5 : Int) = 0; decide)] at h
 exact h
theorem full_put (S : ByteArray) (d : List UInt8) : bputL S d [] = [⟨S, d, 0, false⟩] := rfl
theorem full_used (S : ByteArray) (d : List UInt8) (h : d.length = 11) : used [⟨S, d, 0, false⟩] = 11 := by
 unfold used
 rw [List.foldl_cons, List.foldl_nil]
 simp only [h]
 unfold wrap64
 decide
theorem full_e (S : ByteArray) (d : List UInt8) (h : d.length = 11) : bputE 0 S d [] = 0 := by
 unfold bputE
 rw [if_neg (by simp), if_neg (by omega), if_neg (by simp [hasKey]), if_neg (by simp)]
theorem full_err (d : List UInt8) (h : d.length = 11) : pbsE [] [] 10 0 d = 7 := by
 have e0 : blobsFault [] = 0 := rfl
 have e1 : bputsE d [] = 0 := by
  unfold bputsE
  rw [e0]
  exact full_e _ d h
 have e2 : used (bputsL d []) = 11 := by
  unfold bputsL
  rw [full_put]
  exact full_used _ d h
 unfold pbsE pblE
 rw [store0 10 (by decide) (by decide), if_neg (by simp), e1, if_neg (by simp), e2, if_pos (by decide)]
theorem does_full (d : List UInt8) (hd11 : d.length = 11) : OrdDoes ⟨1, 0, ⟨#[]⟩, d, []⟩ L10 L10 ⟨7, ⟨#[]⟩, [], [], 0, []⟩ := by
 intro p dv pv W hL hd hp
 have ho : ordFault ⟨1, 0, ⟨#[]⟩, d, []⟩ = 0 := by
  exact qxtba_1
 refine desk_order_blob p _ _ ⟨1, 0, ⟨#[]⟩, d, []⟩ dv pv W hL hd hp empty_small _ ho (by show (1 : Int) ≤ 4; decide) ?_
 intro dv pv W hL hd hp
 have h := desk_blob_put p L10 ⟨1, 0, ⟨#[]⟩, d, []⟩ dv pv W hL hd hp (putbOut [] [] 10 0 0 [] ⟨#[]⟩ d) (putbD [] [] 10 0 0 [] ⟨#[]⟩ d) rfl
  (fun v u gv dv w h g hg gd => barrier_PutBlob v u gv [] [] 10 0 0 ⟨#[]⟩ [] dv d w h g hg gd empty_small none_few)
 have hP := full_err d hd11
 have h0 := coll0 (store0 10 (by decide) (by decide))
 have he : putbOut [] [] 10 0 0 [] ⟨#[]⟩ d = ⟨7, noStore, noColl⟩ := by
  unfold putbOut
  rw [h0, hP]
  exact bar_op (by decide)
 have hb : putbD [] [] 10 0 0 [] ⟨#[]⟩ d = ⟨#[]⟩ := by
  unfold putbD
  rw [h0, hP]
  exact barD_op (by decide)
 rw [he, hb, if_neg (by show ¬ (7 : Int) = 0; decide)] at h
 exact h
theorem bad_run (o : Order) (y : Rep) (hdoes : OrdDoes o L10 L10 y) (lv : Value) (w : World) (hl : ROrd w lv [o]) :
 Calls Tryz.prog 12 #[.int .i64 10, lv] w (RunPost L10 [y] w) := by
 have e1 : ([o] : List Order).length = 1 := rfl
 have e2 : (List.range 1).map (fun _ => y) = [y] := rfl
 have h := desk_Run 10 lv [o] (fun _ => L10) (fun _ => y) w hl (by decide) (by decide) (by rw [e1]; decide) rfl (by
  intro k hk p dv pv W hL hd hp
  rw [e1] at hk
  obtain rfl : k = 0 := by omega
  exact hdoes p dv pv W hL hd hp)
 rw [e1, e2] at h
 exact h
set_option maxRecDepth 100000 in
set_option maxHeartbeats 1000000 in
theorem desk_Run_no (rm : Int) (a : Option Addr) (n c : Nat) (w : World) (h : rm < 0) :
 Calls Tryz.prog 12 #[.int .i64 rm, .slice a n c] w fun e w' => e = .returned (.tuple #[.slice none 0 0, .agg #[.slice none 0 0, .slice none 0 0, .int .i64 0, .int .i64 0, .int .i64 0, .slice none 0 0, .string ⟨#[]⟩, .slice none 0 0], .int .i64 4]) ∧ Below w.heap.size w w' := by
 go_enter Tryz.func12, Tryz.ntmps12
 go_wp2_with fail
 refine bodyPost_ret (by simp [results, Tryz.results12, go_sem]; try rfl) rfl ?_
 exact ⟨rfl, b_alloc (Below.refl _ _) _⟩
end Go.Proofs.YtpkpgehiplhkpaaGreat

namespace Go.Proofs.YtpkpgehiplhkpaaGreat
open Go.RowKit
theorem rord_of (W : World) (b n : Nat) (cs : Array Value) (T : TypeId) (l : List Order) (h : W.heap[b]? = some (.cells cs T (0, 0)))
 (hE : ∀ (k : Nat) (x : Order), l[k]? = some x → ∃ dv pv, cs[k * 5]? = some (.int .i64 x.kind) ∧ cs[k * 5 + 1]? = some (.int .i64 x.n) ∧ cs[k * 5 + 2]? = some (.string x.digest) ∧ cs[k * 5 + 3]? = some dv ∧ cs[k * 5 + 4]? = some pv ∧ RB W dv x.data ∧ RP W pv x.parts)
 (hn : n = l.length) (hlen : l.length ≤ 80) : ROrd W (.slice (some ⟨b, 0, none⟩) n n) l := by
 subst hn
 refine ⟨_, _, rfl, Nat.le_refl _, by simp only [maxLen]; omega, by omega, fun h => by simp at h, fun k x hk => ⟨b, 0, rfl, heap_lt h, ?_⟩⟩
 obtain ⟨dv, pv, h0, h1, h2, h3, h4, h5, h6⟩ := hE k x hk
 refine ⟨dv, pv, ?_, ?_, ?_, ?_, ?_, h5, h6⟩
 · rw [cell_of_row W b _ cs T _ h, Nat.zero_add]; exact h0
 · rw [cell_of_row W b _ cs T _ h, Nat.zero_add]; exact h1
 · rw [cell_of_row W b _ cs T _ h, Nat.zero_add]; exact h2
 · rw [cell_of_row W b _ cs T _ h, Nat.zero_add]; exact h3
 · rw [cell_of_row W b _ cs T _ h, Nat.zero_add]; exact h4
theorem lit8f (w : World) (t : TypeId) (fr : Nat × Nat) (cs : Array Value) (l : List UInt8) (k n : Nat) (hk : k = w.heap.size) (h : cs.toList = l.flatMap cU8) (hn : n = l.length) (hm : l.length ≤ 140737488351232) : RB (w.alloc (.cells cs t fr)) (.slice (some ⟨k, 0, none⟩) n n) l := by
 subst hk hn
 refine ⟨_, _, rfl, Nat.le_refl _, by simp [maxLen]; omega, by omega, fun h => by simp at h, fun j x hj => ⟨w.heap.size, 0, rfl, by simp, ?_⟩⟩
 unfold EU8
 rw [cell_of_row _ _ _ cs t fr (heap_alloc_new w _), ← Array.getElem?_toList, h, flat_get (cells := cU8) (fun _ => rfl) (by decide)]
 simp [hj, cU8, Nat.mod_one]
theorem rp_lit (w : World) (t : TypeId) (x : Part) (k : Nat) (hk : k = w.heap.size) (h1 : x.name.size ≤ 140737488351232) (h2 : x.digest.size ≤ 140737488351232) (h3 : (Lit.int .i64 x.size).wf = true) : RP (w.alloc (.cells #[.string x.name, .string x.digest, .int .i64 x.size] t)) (.slice (some ⟨k, 0, none⟩) 1 1) [x] := by
 subst hk
 refine ⟨_, _, rfl, Nat.le_refl _, by simp [maxLen], (show 1 * 40 ≤ 140737488351232 by decide), fun h => by simp at h, fun j y hj => ⟨w.heap.size, 0, rfl, by simp, ?_⟩⟩
 obtain ⟨hlt, hy⟩ := List.getElem?_eq_some_iff.1 hj
 have hj0 : j = 0 := by simpa using hlt
 subst hj0
 simp only [List.getElem_cons_zero] at hy
 subst hy
 have hc := fun o => cell_of_row (w.alloc (.cells #[.string x.name, .string x.digest, .int .i64 x.size] t)) w.heap.size o _ t _ (heap_alloc_new w _)
 exact ⟨hc 0, hc 1, hc 2, h1, h2, h3⟩
set_option maxRecDepth 100000 in
set_option maxHeartbeats 4000000 in
theorem works_ok (w : World) : Calls Tryz.prog 14 #[] w fun e w' => e = .returned (.bool true) ∧ Below w.heap.size w w' := by
 have hd := hid fun v w h => keep_Digest v abc w h (by decide)
 have hk := hid fun w => keep_Key 2 w (by decide)
 have hD := digS_hex abc
 have hs : sumStr abc = digS abc := sum_dig abc (by decide)
 have hK : hexFault (keyS 2) = 0 := digS_hex _
 have hKs : (keyS 2).size ≤ 140737488351232 := by
  have h : (keyS 2).size = 64 := digS_size _
  omega
 have hDs : (digS abc).size = 64 := digS_size abc
 have hrun := hid fun lv w h => works_run hD hK hs hKs lv w h
 have hg := (get_step hD hK hs).2.2
 generalize keyS 2 = K at *
 generalize digS abc = D at *
 clear hD hK hs hKs
 have kc := fun (W : World) (C : Array Value) (n c : Nat) => Lib.run_convert_bytes_const (P := Tryz.prog) W 41 5 C n c Tryz.underlying41 Tryz.underlying5
 go_enter Tryz.func14, Tryz.ntmps14
 go_wp2_with fail
 ((with_reducible refine (hd.out _ _ ?_).mono ?_))
 · exact lit8f _ _ _ _ abc _ 3 rfl rfl rfl (by decide)
 rintro e1 w1 ⟨rfl, b1⟩
 have hb1 := hid (b_call (b_alloc (Below.refl _ _) _) b1)
 clear b1
 go_wp2_with fail
 ((with_reducible refine (hk.out _).mono ?_); rintro e2 w2 ⟨rfl, b2⟩)
 have rA2 := hid ((lit8f w1 _ (3, 4) #[.int .u8 97, .int .u8 98, .int .u8 99] abc _ 3 rfl rfl rfl (by decide)).mono EU8.stable b2)
 have hb2 := hid (b_call (b_alloc hb1.out _) b2)
 clear b2 hb1
 go_wp2_with fail
 ((with_reducible refine (hk.out _).mono ?_); rintro e3 w3 ⟨rfl, b3⟩)
 have rA3 := hid (rA2.out.mono EU8.stable b3)
 have hb3 := hid (b_call hb2.out b3)
 clear b3 hb2 rA2
 go_wp2_with fail
 ((with_reducible refine (hk.out _).mono ?_); rintro e4 w4 ⟨rfl, b4⟩)
 have rP4 := hid ((rp_lit w3 _ (partA D) _ rfl (show nameA.size ≤ 140737488351232 by decide) (by show D.size ≤ _; omega) (show (Lit.int .i64 3).wf = true by decide)).mono EPart.stable b4)
 have rA4 := hid (rA3.out.mono EU8.stable (b_call (b_alloc (Below.refl _ _) _) b4))
 have hb4 := hid (b_call (b_alloc hb3.out _) b4)
 clear b4 hb3 rA3
 go_wp2_with fail
 have hro := hid (rord_of (w4.alloc (.cells #[.int .i64 1, .int .i64 0, .string ⟨#[]⟩, .slice (some ⟨w1.heap.size, 0, none⟩) 3 3, .slice none 0 0, .int .i64 12, .int .i64 1, .string K, .slice none 0 0, .slice none 0 0, .int .i64 13, .int .i64 0, .string K, .slice none 0 0, .slice (some ⟨w3.heap.size, 0, none⟩) 1 1, .int .i64 6, .int .i64 0, .string K, .slice none 0 0, .slice none 0 0] 47)) w4.heap.size 4 #[.int .i64 1, .int .i64 0, .string ⟨#[]⟩, .slice (some ⟨w1.heap.size, 0, none⟩) 3 3, .slice none 0 0, .int .i64 12, .int .i64 1, .string K, .slice none 0 0, .slice none 0 0, .int .i64 13, .int .i64 0, .string K, .slice none 0 0, .slice (some ⟨w3.heap.size, 0, none⟩) 1 1, .int .i64 6, .int .i64 0, .string K, .slice none 0 0, .slice none 0 0] 47 (wkOrders D K) (heap_alloc_new w4 _) (by
  intro k x hx
  have hk4 : k < 4 := (List.getElem?_eq_some_iff.1 hx).1
  have rA5 := rA4.out.mono EU8.stable (b_alloc (Below.refl w4.heap.size w4) (.cells #[.int .i64 1, .int .i64 0, .string ⟨#[]⟩, .slice (some ⟨w1.heap.size, 0, none⟩) 3 3, .slice none 0 0, .int .i64 12, .int .i64 1, .string K, .slice none 0 0, .slice none 0 0, .int .i64 13, .int .i64 0, .string K, .slice none 0 0, .slice (some ⟨w3.heap.size, 0, none⟩) 1 1, .int .i64 6, .int .i64 0, .string K, .slice none 0 0, .slice none 0 0] 47))
  have rP5 := rP4.out.mono EPart.stable (b_alloc (Below.refl w4.heap.size w4) (.cells #[.int .i64 1, .int .i64 0, .string ⟨#[]⟩, .slice (some ⟨w1.heap.size, 0, none⟩) 3 3, .slice none 0 0, .int .i64 12, .int .i64 1, .string K, .slice none 0 0, .slice none 0 0, .int .i64 13, .int .i64 0, .string K, .slice none 0 0, .slice (some ⟨w3.heap.size, 0, none⟩) 1 1, .int .i64 6, .int .i64 0, .string K, .slice none 0 0, .slice none 0 0] 47))
  obtain rfl | rfl | rfl | rfl : k = 0 ∨ k = 1 ∨ k = 2 ∨ k = 3 := by omega
  · simp only [List.getElem?_cons_zero, Option.some.injEq] at hx
    subst hx
    exact ⟨_, _, rfl, rfl, rfl, rfl, rfl, rA5, RS.nil⟩
  · simp only [List.getElem?_cons_succ, List.getElem?_cons_zero, Option.some.injEq] at hx
    subst hx
    exact ⟨_, _, rfl, rfl, rfl, rfl, rfl, RS.nil, RS.nil⟩
  · simp only [List.getElem?_cons_succ, List.getElem?_cons_zero, Option.some.injEq] at hx
    subst hx
    exact ⟨_, _, rfl, rfl, rfl, rfl, rfl, RS.nil, rP5⟩
  · simp only [List.getElem?_cons_succ, List.getElem?_cons_zero, Option.some.injEq] at hx
    subst hx
    exact ⟨_, _, rfl, rfl, rfl, rfl, rfl, RS.nil, RS.nil⟩) rfl (by show 4 ≤ 80; decide))
 have hb5 := hid (b_alloc hb4.out (.cells #[.int .i64 1, .int .i64 0, .string ⟨#[]⟩, .slice (some ⟨w1.heap.size, 0, none⟩) 3 3, .slice none 0 0, .int .i64 12, .int .i64 1, .string K, .slice none 0 0, .slice none 0 0, .int .i64 13, .int .i64 0, .string K, .slice none 0 0, .slice (some ⟨w3.heap.size, 0, none⟩) 1 1, .int .i64 6, .int .i64 0, .string K, .slice none 0 0, .slice none 0 0] 47))
 clear rA4 rP4 hb4
 ((with_reducible refine (hrun.out _ _ hro.out).mono ?_); rintro e5 w5 ⟨v, rs, a1, c1, a2, c2, a3, c3, a4, c4, rfl, hrs, own, reps, -, b5⟩)
 have hst : dcells (wkSt D K 4) a1 c1 a2 c2 a3 c3 a4 c4 = #[.slice a1 1 c1, .slice a2 1 c2, .int .i64 50, .int .i64 2, .int .i64 0, .slice a3 0 c3, .string ⟨#[]⟩, .slice a4 0 c4] := by
  show #[_, Value.slice a2 (gtL K 1 [entA D K]).length c2, _, _, _, _, _, _] = _
  rw [hg]
  rfl
 rw [hst]
 clear hst
 have hb6 := hid (b_call hb5.out b5)
 obtain ⟨r0, r1, r2, r3, rfl⟩ : ∃ r0 r1 r2 r3, rs = [r0, r1, r2, r3] := by
  have hl := congrArg List.length hrs
  simp only [List.length_map, List.length_cons, List.length_nil] at hl
  match rs, hl with
  | [r0, r1, r2, r3], _ => exact ⟨r0, r1, r2, r3, rfl⟩
 simp only [List.map_cons, List.map_nil, List.cons.injEq] at hrs
 obtain ⟨-, -, -, h3, -⟩ := hrs
 obtain ⟨y3, d3, p3, g3⟩ := r3
 simp only at h3
 subst h3
 obtain ⟨-, hrp, -, -⟩ := reps _ (List.mem_cons_of_mem _ (List.mem_cons_of_mem _ (List.mem_cons_of_mem _ (List.mem_cons_self ..))))
 rcases os_forms' own with ⟨-, h⟩ | ⟨g, c, rfl, hc4⟩
 · cases h
 have x0 := OS.cell (i := 3) (o := 0) own cRep_len rfl rfl
 have x3 := OS.cell (i := 3) (o := 3) own cRep_len rfl rfl
 obtain ⟨pa, pc⟩ := p3
 have hat : ∃ b off, pa = some ⟨b, off, none⟩ ∧ b < w5.heap.size ∧ EPart w5 b (off + 0 * 3) (partA D) := by
  obtain ⟨_, _, hv, _, _, _, _, hat⟩ := hrp
  simp only [RepR.pv, Value.slice.injEq] at hv
  obtain ⟨rfl, -, -⟩ := hv
  obtain ⟨b, off, h1, hb, h2⟩ := hat 0 (partA D) rfl
  exact ⟨b, off, h1, hb, h2⟩
 obtain ⟨bp, op, rfl, hbl, q0, q1, q2, -⟩ := hat
 have z0 : w5.cell? ⟨g, 18, none⟩ = some (.int .i64 0) := x0
 have z3 : w5.cell? ⟨g, 21, none⟩ = some (.slice (some ⟨bp, op, none⟩) 1 pc) := x3
 rw [Nat.zero_mul, Nat.add_zero] at q1
 have z1 : w5.cell? ⟨bp, op + 1, none⟩ = some (.string D) := q1
 have hc : 4 ≤ c := hc4
 have hgl : g < w5.heap.size := (World.ownsRow.lt own g rfl).2
 clear x0 x3 q0 q1 q2 hrp hc4 own reps b5 hro
 simp only [List.length_cons, List.length_nil]
 go_wp2_with fail
 go_ret
 exact ⟨rfl, b_alloc hb6.out _⟩
end Go.Proofs.YtpkpgehiplhkpaaGreat

namespace Go.Proofs.YtpkpgehiplhkpaaGreat
open Go.RowKit
theorem qxtbb_1 {P : Prop} (h : P := by decide) : P := h
def BadMid (w : World) (s6 : Value) (wx : World) : Prop :=
 ∃ (o : Order) (y : Rep) (da pa : Option Addr) (dc pc : Nat), s6 = .int .i64 y.err ∧ wx.heap[w.heap.size]? = some (.cells #[.int .i64 o.kind, .int .i64 o.n, .string o.digest, .slice da o.data.length dc, .slice pa o.parts.length pc] 47 (0, 0)) ∧
   RB wx (.slice da o.data.length dc) o.data ∧ RP wx (.slice pa o.parts.length pc) o.parts ∧ OrdDoes o L10 L10 y ∧ Below w.heap.size w wx
theorem ord_set {w : World} {q : Nat} {a b c d e u0 u1 u2 u3 u4 : Value} {T : TypeId} (h : w.heap[q]? = some (.cells #[a, b, c, d, e] T (0, 0))) :
 (((((w.setCell ⟨q, 0, none⟩ u0).setCell ⟨q, 1, none⟩ u1).setCell ⟨q, 2, none⟩ u2).setCell ⟨q, 3, none⟩ u3).setCell ⟨q, 4, none⟩ u4).heap[q]? = some (.cells #[u0, u1, u2, u3, u4] T (0, 0)) := by
 simp [World.setCell, Array.getElem?_modify, h]
theorem ord_set1 {w : World} {q : Nat} {a b c d e u : Value} {T : TypeId} (h : w.heap[q]? = some (.cells #[a, b, c, d, e] T (0, 0))) : (w.setCell ⟨q, 1, none⟩ u).heap[q]? = some (.cells #[a, u, c, d, e] T (0, 0)) := by
 simp [World.setCell, Array.getElem?_modify, h]
theorem b_ord {B : Nat} {w w1 : World} {u0 u1 u2 u3 u4 : Value} (h : Below B w w1) : Below B w (((((w1.setCell ⟨B, 0, none⟩ u0).setCell ⟨B, 1, none⟩ u1).setCell ⟨B, 2, none⟩ u2).setCell ⟨B, 3, none⟩ u3).setCell ⟨B, 4, none⟩ u4) :=
 ((((h.setCell (p := ⟨B, 0, none⟩) (Nat.le_refl _) _).setCell (p := ⟨B, 1, none⟩) (Nat.le_refl _) _).setCell (p := ⟨B, 2, none⟩) (Nat.le_refl _) _).setCell (p := ⟨B, 3, none⟩) (Nat.le_refl _) _).setCell (p := ⟨B, 4, none⟩) (Nat.le_refl _) _
theorem ord_odd {w : World} {q : Nat} {k n : Int} {s : ByteArray} {x y : Option Addr} {l l' m m' : Nat} {T : TypeId} (h : w.heap[q]? = some (.cells #[.int .i64 k, .int .i64 n, .string s, .slice x l l', .slice y m m'] T (0, 0))) : Odd w q := by
 intro o
 have hc : ∀ o, w.cell? ⟨q, o, none⟩ = (#[Value.int .i64 k, .int .i64 n, .string s, .slice x l l', .slice y m m'])[o]? := fun o => cell_of_row w q o _ _ _ h
 rw [hc, hc, hc]
 match o with
 | 0 => simp
 | 1 => simp
 | 2 => simp
 | 3 => simp
 | 4 => simp
 | o + 5 => simp
theorem ord_setE (w : World) (q : Nat) (u0 u1 u2 u3 u4 : Value) : Ex q w (((((w.setCell ⟨q, 0, none⟩ u0).setCell ⟨q, 1, none⟩ u1).setCell ⟨q, 2, none⟩ u2).setCell ⟨q, 3, none⟩ u3).setCell ⟨q, 4, none⟩ u4) :=
 ((((Ex.of (p := q) (Below.refl _ w)).set).set).set).set.set
theorem ord_setL {w : World} {q m : Nat} {a b c d e u0 u1 u2 u4 : Value} {x : Option Addr} {l : List UInt8} {T : TypeId} (hd : l.length = m) (h : w.heap[q]? = some (.cells #[a, b, c, d, e] T (0, 0))) :
 (((((w.setCell ⟨q, 0, none⟩ u0).setCell ⟨q, 1, none⟩ u1).setCell ⟨q, 2, none⟩ u2).setCell ⟨q, 3, none⟩ (.slice x m m)).setCell ⟨q, 4, none⟩ u4).heap[q]? = some (.cells #[u0, u1, u2, .slice x l.length m, u4] T (0, 0)) := by
 subst hd
 exact ord_set h
theorem rb_len {w : World} {x : Option Addr} {l : List UInt8} {m : Nat} (hd : l.length = m) (h : RB w (.slice x m m) l) : RB w (.slice x l.length m) l := by
 subst hd
 exact h
theorem make_zeros (m : Nat) (hm : m ≤ 1000) (w : World) : ∃ w' l, l.length = m ∧ (Instr.makeSlice 41 (.int .i64 (m : Int)) (.int .i64 (m : Int))).run Tryz.prog w = .ok (.slice (some ⟨w.heap.size, 0, none⟩) m m) w' ∧ RB w' (.slice (some ⟨w.heap.size, 0, none⟩) m m) l ∧ Below w.heap.size w w' := by
 obtain ⟨i0, hi, hz0, hz1, hz2⟩ := info_parts info_u8
 obtain ⟨w1, hmk, how, hgr⟩ := run_make_full w w.heap.size 41 5 i0 (.int .u8 0) 1 Tryz.underlying41 hi hz0 hz1 .i64 .i64 m (by rw [hz2]; omega) (by simp [maxLen]; omega) (Nat.le_refl _)
 have ho1 : OS 5 1 cU8 w1 w.heap.size (.slice (some ⟨w.heap.size, 0, none⟩) m m) (List.replicate m 0) := by
  unfold OS
  rw [List.length_replicate]
  have e : (List.replicate m (0 : UInt8)).flatMap cU8 = (madeCells (Value.int .u8 0).cells (m * 1)).toList := by
   rw [Nat.mul_one, show (Value.int .u8 0).cells = #[.int .u8 0] from rfl, toList_madeCells_one]
   clear hmk how hgr hm
   induction m with
   | zero => rfl
   | succ n ih => rw [List.replicate_succ, List.flatMap_cons, ih, List.replicate_succ]; rfl
  rw [e]
  exact how
 exact ⟨w1, _, List.length_replicate, hmk, reads_u8 ho1 (by rw [List.length_replicate]; omega), b_grown (v := .slice none 0 0) (Below.refl _ _) hgr (fun k hk => by simp [Value.ownBlock] at hk)⟩
set_option maxRecDepth 100000 in
set_option maxHeartbeats 4000000 in
theorem TopBad_walk (w : World) (a n : Int) (ha : (Lit.int .i64 a).wf = true) (hn : (Lit.int .i64 n).wf = true) :
 Calls Tryz.prog 5 #[.int .i64 a, .int .i64 n] w fun e w' => e = .returned (.bool true) ∧ Below w.heap.size w w' := by
 have hka := hid fun w => keep_Picked a 7 w ha qxtbb_1 qxtbb_1
 have hkn := hid fun w => keep_Picked n 100 w hn qxtbb_1 qxtbb_1
 have hkk := hid fun w => keep_Key n w hn
 have hra := pick_range a 7 qxtbb_1
 have hrn := pick_range n 100 qxtbb_1
 have hK : hexFault (keyS n) = 0 := digS_hex _
 have hKs : (keyS n).size ≤ 140737488351232 := by
  have h : (keyS n).size = 64 := digS_size _
  omega
 have hdf := hid (does_fail hK hKs)
 generalize keyS n = K at *
 generalize pick a 7 = r at *
 generalize pick n 100 = s at *
 clear hK ha hn
 go_enter Tryz.func5, Tryz.ntmps5
 go_upto_region 3 with fail
 have hO := hid (heap_alloc_new w (.cells #[.int .i64 10, .int .i64 0, .string ⟨#[]⟩, .slice none 0 0, .slice none 0 0] 47))
 have hb := hid (b_alloc (Below.refl _ w) (.cells #[.int .i64 10, .int .i64 0, .string ⟨#[]⟩, .slice none 0 0, .slice none 0 0] 47))
 generalize w.alloc (.cells #[.int .i64 10, .int .i64 0, .string ⟨#[]⟩, .slice none 0 0, .slice none 0 0] 47) = w2 at *
 go_wp2_with fail
 ((with_reducible refine (hka.out _).mono ?_); rintro e1 w1 ⟨rfl, rfl⟩)
 go_upto_block 0 with (fail)
 go_cut [6] (fun s6 wx => BadMid w s6 wx)
 case first =>
  obtain ⟨z0, z1, z2, z3, z4⟩ := ord5f hO.out
  have f0 := frozen_heap hO.out 0
  have f1 := frozen_heap hO.out 1
  have f2 := frozen_heap hO.out 2
  have f3 := frozen_heap hO.out 3
  have f4 := frozen_heap hO.out 4
  have hlt := heap_lt hO.out
  obtain rfl | rfl | rfl | rfl | rfl | rfl | rfl : r = 0 ∨ r = 1 ∨ r = 2 ∨ r = 3 ∨ r = 4 ∨ r = 5 ∨ r = 6 := by omega
  · clear hra
    go_wp2_with fail
    ((with_reducible refine (hkn.out _).mono ?_); rintro e2 w2 ⟨rfl, rfl⟩)
    go_wp2_with fail
    go_meet
    exact ⟨⟨15 + s, 0, ⟨#[]⟩, [], []⟩, ⟨2, ⟨#[]⟩, [], [], 0, []⟩, none, none, 0, 0, rfl, ord_set hO.out, RS.nil, RS.nil, does_no _ 2 (bad_kind _ (by omega)) qxtbb_1 empty_small, b_ord hb.out⟩
  · clear hra
    go_wp2_with fail
    ((with_reducible refine (hkn.out _).mono ?_); rintro e2 w2 ⟨rfl, rfl⟩)
    go_wp2_with fail
    go_meet
    exact ⟨⟨10, 1 + s, ⟨#[]⟩, [], []⟩, ⟨3, ⟨#[]⟩, [], [], 0, []⟩, none, none, 0, 0, rfl, ord_set1 hO.out, RS.nil, RS.nil, does_no _ 3 (bad_form _ (by omega)) qxtbb_1 empty_small, hb.out.setCell (p := ⟨w.heap.size, 1, none⟩) (Nat.le_refl _) _⟩
  · clear hra
    go_wp2_with fail
    go_meet
    exact ⟨⟨2, 0, ⟨#[97, 98]⟩, [], []⟩, ⟨1, ⟨#[]⟩, [], [], 0, []⟩, none, none, 0, 0, rfl, ord_set hO.out, RS.nil, RS.nil, does_no _ 1 bad_short qxtbb_1 qxtbb_1, b_ord hb.out⟩
  · clear hra
    obtain ⟨k, rfl⟩ : ∃ k : Nat, s = (k : Int) := ⟨s.toNat, by omega⟩
    obtain ⟨w3, d, hd, hmk, rd, b3⟩ := make_zeros (301 + k) (by omega) w1
    rw [show ((301 + k : Nat) : Int) = 301 + (k : Int) by omega] at hmk
    have hO3 := hid (stays b3 hO.out)
    have hb3 := hid (b_call hb.out b3)
    replace rd := hid rd
    clear z0 z1 z2 z3 z4 f0 f1 f2 f3 f4 b3
    obtain ⟨z0, z1, z2, z3, z4⟩ := ord5f hO3.out
    have f0 := frozen_heap hO3.out 0
    have f1 := frozen_heap hO3.out 1
    have f2 := frozen_heap hO3.out 2
    have f3 := frozen_heap hO3.out 3
    have f4 := frozen_heap hO3.out 4
    have hk9 : (k : Int) < 100 := by omega
    go_wp2_with fail
    ((with_reducible refine (hkn.out _).mono ?_); rintro e2 w2 ⟨rfl, rfl⟩)
    go_wp2_with fail
    go_meet
    exact ⟨⟨1, 0, ⟨#[]⟩, d, []⟩, ⟨1, ⟨#[]⟩, [], [], 0, []⟩, some ⟨w2.heap.size, 0, none⟩, none, 301 + k, 0, rfl, ord_setL hd hO3.out, rb_len hd (rd.out.odd (ord_setE _ _ _ _ _ _ _) (fun g e => by cases e; exact ord_odd hO3.out)), RS.nil, does_no _ 1 (bad_long d (by omega)) qxtbb_1 empty_small, b_ord hb3.out⟩
  · clear hra
    go_wp2_with fail
    ((with_reducible refine (hkn.out _).mono ?_); rintro e2 w2 ⟨rfl, rfl⟩)
    go_wp2_with fail
    go_meet
    exact ⟨⟨11, -1 - s, ⟨#[]⟩, [], []⟩, ⟨4, ⟨#[]⟩, [], [], 0, []⟩, none, none, 0, 0, rfl, ord_set hO.out, RS.nil, RS.nil, does_no _ 4 (bad_range _ (by omega)) qxtbb_1 empty_small, b_ord hb.out⟩
  · clear hra
    go_wp2_with fail
    ((with_reducible refine (hkk.out _).mono ?_); rintro e2 w2 ⟨rfl, b2⟩)
    have hO2 := hid (stays b2 hO.out)
    have hb2 := hid (b_call hb.out b2)
    clear z0 z1 z2 z3 z4 f0 f1 f2 f3 f4 hlt b2
    obtain ⟨z0, z1, z2, z3, z4⟩ := ord5f hO2.out
    have f0 := frozen_heap hO2.out 0
    have f1 := frozen_heap hO2.out 1
    have f2 := frozen_heap hO2.out 2
    have f3 := frozen_heap hO2.out 3
    have f4 := frozen_heap hO2.out 4
    go_wp2_with fail
    go_meet
    exact ⟨⟨14, 0, K, [], []⟩, ⟨5, ⟨#[]⟩, [], [], 0, []⟩, none, none, 0, 0, rfl, ord_set hO2.out, RS.nil, RS.nil, hdf.out, b_ord hb2.out⟩
  · clear hra
    obtain ⟨w3, d, hd, hmk, rd, b3⟩ := make_zeros 11 qxtbb_1 w1
    have hmk : (Instr.makeSlice 41 (.int .i64 11) (.int .i64 11)).run Tryz.prog w1 = .ok (.slice (some ⟨w1.heap.size, 0, none⟩) 11 11) w3 := hmk
    have hO3 := hid (stays b3 hO.out)
    have hb3 := hid (b_call hb.out b3)
    replace rd := hid rd
    clear z0 z1 z2 z3 z4 f0 f1 f2 f3 f4 b3
    obtain ⟨z0, z1, z2, z3, z4⟩ := ord5f hO3.out
    have f0 := frozen_heap hO3.out 0
    have f1 := frozen_heap hO3.out 1
    have f2 := frozen_heap hO3.out 2
    have f3 := frozen_heap hO3.out 3
    have f4 := frozen_heap hO3.out 4
    go_wp2_with fail
    go_meet
    exact ⟨⟨1, 0, ⟨#[]⟩, d, []⟩, ⟨7, ⟨#[]⟩, [], [], 0, []⟩, some ⟨w1.heap.size, 0, none⟩, none, 11, 0, rfl, ord_setL hd hO3.out, rb_len hd (rd.out.odd (ord_setE _ _ _ _ _ _ _) (fun g e => by cases e; exact ord_odd hO3.out)), RS.nil, does_full d hd, b_ord hb3.out⟩
 case rest =>
  obtain ⟨o, y, da, pa, dc, pc, rfl, ho, rd, rp, hdoes, hbc⟩ := hcut
  have hro := hid (rord_of (wc.alloc (.cells #[.int .i64 o.kind, .int .i64 o.n, .string o.digest, .slice da o.data.length dc, .slice pa o.parts.length pc] 47)) wc.heap.size 1 #[.int .i64 o.kind, .int .i64 o.n, .string o.digest, .slice da o.data.length dc, .slice pa o.parts.length pc] 47 [o] (heap_alloc_new wc _) (by
   intro k x hx
   have hk1 : k < 1 := (List.getElem?_eq_some_iff.1 hx).1
   obtain rfl : k = 0 := by omega
   simp only [List.getElem?_cons_zero, Option.some.injEq] at hx
   subst hx
   exact ⟨_, _, rfl, rfl, rfl, rfl, rfl, rd.mono EU8.stable (b_alloc (Below.refl _ _) _), rp.mono EPart.stable (b_alloc (Below.refl _ _) _)⟩) rfl (by show 1 ≤ 80; decide))
  have hb2 := hid (b_alloc hbc (.cells #[.int .i64 o.kind, .int .i64 o.n, .string o.digest, .slice da o.data.length dc, .slice pa o.parts.length pc] 47))
  obtain ⟨z0, z1, z2, z3, z4⟩ := ord5f ho
  have hrun := hid (bad_run o y hdoes)
  clear rd rp hdoes hO hb hka hkn hkk hdf
  replace ho := hid ho
  replace hbc := hid hbc
  generalize hye : y.err = er
  replace hye := hid hye
  go_wp2_with fail
  ((with_reducible refine (hrun.out _ _ hro.out).mono ?_); rintro e5 w5 ⟨v, rs, a1, c1, a2, c2, a3, c3, a4, c4, rfl, hrs, own, -, -, b5⟩)
  have hst : dcells L10 a1 c1 a2 c2 a3 c3 a4 c4 = #[.slice a1 0 c1, .slice a2 0 c2, .int .i64 10, .int .i64 0, .int .i64 0, .slice a3 0 c3, .string ⟨#[]⟩, .slice a4 0 c4] := rfl
  rw [hst]
  clear hst
  have hb5 := hid (b_call hb2.out b5)
  obtain ⟨r0, rfl⟩ : ∃ r0, rs = [r0] := by
   have hl := congrArg List.length hrs
   simp only [List.length_map, List.length_cons, List.length_nil] at hl
   match rs, hl with
   | [r0], _ => exact ⟨r0, rfl⟩
  simp only [List.map_cons, List.map_nil, List.cons.injEq] at hrs
  obtain ⟨h0, -⟩ := hrs
  obtain ⟨y0, d0, p0, g0⟩ := r0
  simp only at h0
  subst h0
  rcases os_forms' own with ⟨-, h⟩ | ⟨g, c, rfl, hc1⟩
  · cases h
  have x0 := OS.cell (i := 0) (o := 0) own cRep_len rfl rfl
  have x1 : w5.cell? ⟨g, 0, none⟩ = some (.int .i64 er) := by
   rw [← hye.out]
   exact x0
  have hgl : g < w5.heap.size := (World.ownsRow.lt own g rfl).2
  have hc : 1 ≤ c := hc1
  clear own x0 hc1 b5 hro z0 z1 z2 z3 z4 ho hbc hb2 hrun
  simp only [List.length_cons, List.length_nil]
  go_wp2_with fail
  (with_reducible refine (desk_Run_no (-1) none 0 0 _ qxtbb_1).mono ?_)
  rintro e6 w6 ⟨rfl, b6⟩
  have hX6 := hid (stays b6 (heap_alloc_new w5 _))
  have x6 : w6.cell? ⟨g, 0, none⟩ = some (.int .i64 er) := cell_stays (b_call (b_alloc (Below.refl _ _) _) b6) hgl x1
  have hb6 := hid (b_call (b_alloc hb5.out _) b6)
  have hgl6 : g < w6.heap.size := Nat.lt_of_lt_of_le hgl (b_call (b_alloc (Below.refl _ _) _) b6).size
  have hxl6 := heap_lt hX6.out
  clear x1 hgl b6 hb5
  go_wp2_with fail
  ((with_reducible refine (works_ok _).mono ?_); rintro e7 w7 ⟨rfl, b7⟩)
  have hX7 := hid (stays b7 (alloc_keep (o := Obj.cells #[.slice none 0 0, .slice none 0 0, .int .i64 0, .int .i64 0, .int .i64 0, .slice none 0 0, .string ⟨#[]⟩, .slice none 0 0] 35) hX6.out))
  have x7 : w7.cell? ⟨g, 0, none⟩ = some (.int .i64 er) := cell_stays (b_call (b_alloc (Below.refl _ _) _) b7) hgl6 x6
  have hb7 := hid (b_call (b_alloc hb6.out _) b7)
  obtain ⟨m0, m1, m2, m3, m4, m5, m6, m7⟩ := box8f hX7.out
  clear x6 hX6 hb6 b7
  go_wp2_with fail
  go_ret
  exact ⟨rfl, hb7.out⟩
end Go.Proofs.YtpkpgehiplhkpaaGreat
